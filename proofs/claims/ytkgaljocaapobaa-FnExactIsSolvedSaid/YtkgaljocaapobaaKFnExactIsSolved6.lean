/- The program's IsSolved returns what the reference's returns, for all arguments. Condition: none. -/
import Derived.Deep.Slices
import Derived.Deep.Fields
import Derived.ChangeSame
import Derived.ChangeShapes
import Derived.Below
import Derived.Carry
import Derived.Lib.SmallJoins
import Derived.RowKit
import Derived.OpenShut
import Derived.Test.YtkgaljocaapobaaRows
import Derived.WalkKit
import Derived.ProofKit
import Derived.ShutString
import Derived.ChangeOld
import Derived.SizedLaws
import Derived.ChangeSlices
import Derived.Test.YtkgaljocaapobaaKFnExactIsSolved0
import Derived.Test.YtkgaljocaapobaaKFnExactIsSolved1
import Derived.Test.YtkgaljocaapobaaKFnExactIsSolved2
import Derived.Test.YtkgaljocaapobaaKFnExactIsSolved3
import Derived.Test.YtkgaljocaapobaaKFnExactIsSolved4
import Derived.Test.YtkgaljocaapobaaKFnExactIsSolved5
-- Written by a program for this claim.
namespace Go.Proofs.Ytkgaljocaapobaa.Pr
open Go.RowKit Go.Proofs.YtkgaljocaapobaaW.PrintWords Go.Proofs.YtkgaljocaapobaaW.PrintLast Go.Proofs.YtkgaljocaapobaaW.PrintMore
attribute [local go_sem] max2_int min2_int max_two min_two max_three min_three max_four min_four   -- for this text's walks alone
set_option linter.unusedVariables false
set_option linter.unusedSimpArgs false

/-! ### laws_FnExactIsSolved: function 3 -/
def laws_FnExactIsSolved.j0 : Nat → Bool → List (S72) → List (S67) → Option (Bool)
  | 0, _, _, _ => none
  | k + 1, x34, x357000, x367000 => if x34 = true then (some false) else ((laws_toPuzzle.f k x357000).bind fun t369 => ((laws_eqPuzzle.f k x367000 t369).bind fun t372 => (if t372 = true then (some true) else (some false))))
def laws_FnExactIsSolved.f (k : Nat) (l0_0 : List (S72)) : Option (Bool) := (laws_szPuzzle.f l0_0 1048576).bind fun t357 => (if t357 < 0 then (some true) else ((laws_toPuzzle.f k l0_0).bind fun t358 => ((spec_IsSolved.f k t358).bind fun bt361 => ((laws_toPuzzle.f k l0_0).bind fun t363 => ((impl_IsSolved.f t363).bind fun bt367 => (if (bt367.1 != bt361.1) = true then (laws_FnExactIsSolved.j0 k true l0_0 t363) else (laws_FnExactIsSolved.j0 k (bt367.2 != bt361.2) l0_0 t363)))))))
theorem laws_FnExactIsSolved.mono_l : ∀ k, (∀ y0 y1 y2, LeO (laws_FnExactIsSolved.j0 k y0 y1 y2) (laws_FnExactIsSolved.j0 (k + 1) y0 y1 y2))
  | 0 => fun _ _ _ r h => by simp [laws_FnExactIsSolved.j0] at h
  | k + 1 => by
    have ih0 := laws_FnExactIsSolved.mono_l k
    · intro y0 y1 y2
      unfold laws_FnExactIsSolved.j0
      repeat' first
      | (with_reducible exact ih0 _ _ _)
      | (with_reducible exact laws_eqPuzzle.mono _ _ _)
      | (with_reducible exact laws_toPuzzle.mono _ _)
      | (with_reducible exact spec_IsSolved.mono _ _)
      | (with_reducible exact LeO.refl _)
      | (with_reducible exact LeO.none _)
      | (with_reducible refine LeO.ite ?_ ?_)
      | (with_reducible refine LeO.bind ?_ (fun _ => ?_))
      | exact ih0 _ _ _
      | exact laws_eqPuzzle.mono _ _ _
      | exact laws_toPuzzle.mono _ _
      | exact spec_IsSolved.mono _ _
      | exact LeO.none _
      | refine LeO.ite ?_ ?_
      | refine LeO.bind ?_ (fun _ => ?_)
theorem laws_FnExactIsSolved.mono : ∀ a0 k, LeO (laws_FnExactIsSolved.f k a0) (laws_FnExactIsSolved.f (k + 1) a0) := by
  intro a0 k
  have ih0 := laws_FnExactIsSolved.mono_l k
  unfold laws_FnExactIsSolved.f
  repeat' first
      | (with_reducible exact ih0 _ _ _)
      | (with_reducible exact laws_eqPuzzle.mono _ _ _)
      | (with_reducible exact laws_toPuzzle.mono _ _)
      | (with_reducible exact spec_IsSolved.mono _ _)
      | (with_reducible exact LeO.refl _)
      | (with_reducible exact LeO.none _)
      | (with_reducible refine LeO.ite ?_ ?_)
      | (with_reducible refine LeO.bind ?_ (fun _ => ?_))
      | exact ih0 _ _ _
      | exact laws_eqPuzzle.mono _ _ _
      | exact laws_toPuzzle.mono _ _
      | exact spec_IsSolved.mono _ _
      | exact LeO.none _
      | refine LeO.ite ?_ ?_
      | refine LeO.bind ?_ (fun _ => ?_)
set_option maxHeartbeats 8000000 in
set_option maxRecDepth 100000 in
theorem laws_FnExactIsSolved.calls (k : Nat) (A0_0 : Option Addr) (c0_0 : Nat) (l0_0 : List (S72)) (r : Bool) (w : World) (hr0_0 : Kd.C k72 w A0_0 l0_0.length l0_0) (hc0_0 : l0_0.length ≤ c0_0) (h : laws_FnExactIsSolved.f k l0_0 = some r) :
    Calls Try.prog 3 #[.agg #[.slice A0_0 l0_0.length c0_0]] w fun e w' => e = .returned (.bool r) ∧ Below w.heap.size w w' := by
  have hu24 := Try.underlying24
  have hu30 := Try.underlying30
  have HR0_0 := Aside0.mk hr0_0
  have HC0_0 := Aside0.mk hc0_0
  clear hr0_0 hc0_0
  have HB := Aside0.mk (Below.refl w.heap.size w)
  have H : ((laws_szPuzzle.f l0_0 1048576).bind fun t357 => (if t357 < 0 then (some true) else ((laws_toPuzzle.f k l0_0).bind fun t358 => ((spec_IsSolved.f k t358).bind fun bt361 => ((laws_toPuzzle.f k l0_0).bind fun t363 => ((impl_IsSolved.f t363).bind fun bt367 => (if (bt367.1 != bt361.1) = true then (laws_FnExactIsSolved.j0 k true l0_0 t363) else (laws_FnExactIsSolved.j0 k (bt367.2 != bt361.2) l0_0 t363)))))))) = some r := h
  clear h
  replace H := Option.bind_eq_some_iff.mp H
  obtain ⟨t357, A20, H⟩ := H
  replace H : (if t357 < 0 then (some true) else ((laws_toPuzzle.f k l0_0).bind fun t358 => ((spec_IsSolved.f k t358).bind fun bt361 => ((laws_toPuzzle.f k l0_0).bind fun t363 => ((impl_IsSolved.f t363).bind fun bt367 => (if (bt367.1 != bt361.1) = true then (laws_FnExactIsSolved.j0 k true l0_0 t363) else (laws_FnExactIsSolved.j0 k (bt367.2 != bt361.2) l0_0 t363))))))) = some r := H
  have A2 := Aside0.mk A20
  clear A20
  by_cases c3 : t357 < 0
  · rw [if_pos c3] at H
    have c3b0 : decide (t357 < 0) = true := decide_eq_true c3
    clear c3
    obtain rfl := Option.some.inj H
    go_enter Try.func3, Try.ntmps3
    go_wp2_with (first | ((with_reducible refine gate_dst (N := 1) rfl ?_); refine box_event ?hg (N := 1) ?hd (cs := #[.slice A0_0 l0_0.length c0_0]) (t := 24) ?hr ?_; (case hd => rfl); (case hg => rfl); (case hr => first | (go_simp; done) | (go_simp; rfl)); intro gb356 hg w4 hbox hb; have n0_ := Aside0.mk (below_step (by repeat (first | (with_reducible first | exact HB.out | apply below_alloc | apply pw_below_drewN | apply below_drew1) | exact HB.out)) hb); have n1_ := Aside0.mk (hbox); have n2_ := Aside0.mk ((by rw [hg]; exact (below_size (by repeat (first | (with_reducible first | exact HB.out | apply below_alloc | apply pw_below_drewN | apply below_drew1) | exact HB.out))) : w.heap.size ≤ gb356)); have n3_ := Aside0.mk ((by rw [hg]; exact (below_size (by repeat (first | (with_reducible first | exact HB.out | apply below_alloc | apply pw_below_drewN | apply below_drew1) | exact HB.out))) : w.heap.size ≤ gb356)); clear HB; have HB := n0_; have BK356 := n1_; have GW356 := n2_; have GE356 := n3_; clear n0_ n1_ n2_ n3_; clear hb hbox hg; have hcz5_0 : w4.cell? ⟨gb356, 0, none⟩ = some (.slice A0_0 l0_0.length c0_0) := (blk_cell BK356.out 0).trans rfl; have hfz5_0 := blk_frozen BK356.out 0) | ((with_reducible refine gate_callee (f := 12) rfl ?_); refine goesL_ (some 11) rfl rfl Try.func12 (by kernel_rfl) rfl #[.agg #[.slice A0_0 l0_0.length c0_0], .int .i64 1048576] rfl (by (try simp only [List.map_toArray, List.map_cons, List.map_nil]); first | done | rfl | (simp only [List.length_drop, List.length_take]; rfl)) ?_; (with_reducible refine (laws_szPuzzle.calls _ _ l0_0 1048576 t357 _ ?side1 ?side2 A2.out).mono ?_); (case side1 => repeat (first | exact (Kd.C_below HR0_0.out HB.out) | (with_reducible refine Kd.C_alloc ?_ _) | (with_reducible refine Kd.C_drewN ?_ _) | (with_reducible refine Kd.C_drew ?_))); (case side2 => exact HC0_0.out); rintro e w6 ⟨rfl, hb⟩; refine ⟨_, rfl, ?_⟩; have n0_ := Aside0.mk (blk_below (g := gb356) (o := .cells #[.slice A0_0 l0_0.length c0_0] 24 (0, 0)) (by (with_reducible repeat (first | refine blk_drewN ?_ _ | refine blk_drew ?_ | refine blk_alloc ?_ _)); exact BK356.out) hb); have n1_ := Aside0.mk (below_step (by repeat (first | (with_reducible first | exact HB.out | apply below_alloc | apply pw_below_drewN | apply below_drew1 | refine below_set ?_ GE356.out) | exact HB.out)) hb); clear BK356; clear HB; have BK356 := n0_; have HB := n1_; clear n0_ n1_; (try clear hb); (try clear hb2); (try clear hk); (try clear hi)))
    go_ret
    exact ⟨by first | rfl | (simp [errW_none, errW_some] <;> rfl) | (simp [*, errW_none, errW_some] <;> rfl), by repeat (first | (with_reducible first | exact HB.out | apply below_alloc | apply pw_below_drewN | apply below_drew1 | refine below_set ?_ GE356.out) | exact HB.out)⟩
  · rw [if_neg c3] at H
    have c3b0 : decide (t357 < 0) = false := decide_eq_false c3
    clear c3
    replace H := Option.bind_eq_some_iff.mp H
    obtain ⟨t358, A70, H⟩ := H
    replace H : ((spec_IsSolved.f k t358).bind fun bt361 => ((laws_toPuzzle.f k l0_0).bind fun t363 => ((impl_IsSolved.f t363).bind fun bt367 => (if (bt367.1 != bt361.1) = true then (laws_FnExactIsSolved.j0 k true l0_0 t363) else (laws_FnExactIsSolved.j0 k (bt367.2 != bt361.2) l0_0 t363))))) = some r := H
    have A7 := Aside0.mk A70
    clear A70
    replace H := Option.bind_eq_some_iff.mp H
    obtain ⟨⟨t361, t362⟩, A80, H⟩ := H
    replace H : ((laws_toPuzzle.f k l0_0).bind fun t363 => ((impl_IsSolved.f t363).bind fun bt367 => (if (bt367.1 != t361) = true then (laws_FnExactIsSolved.j0 k true l0_0 t363) else (laws_FnExactIsSolved.j0 k (bt367.2 != t362) l0_0 t363)))) = some r := H
    have A8 := Aside0.mk A80
    clear A80
    replace H := Option.bind_eq_some_iff.mp H
    obtain ⟨t363, A90, H⟩ := H
    replace H : ((impl_IsSolved.f t363).bind fun bt367 => (if (bt367.1 != t361) = true then (laws_FnExactIsSolved.j0 k true l0_0 t363) else (laws_FnExactIsSolved.j0 k (bt367.2 != t362) l0_0 t363))) = some r := H
    have A9 := Aside0.mk A90
    clear A90
    replace H := Option.bind_eq_some_iff.mp H
    obtain ⟨⟨t367, t368⟩, A100, H⟩ := H
    replace H : (if (t367 != t361) = true then (laws_FnExactIsSolved.j0 k true l0_0 t363) else (laws_FnExactIsSolved.j0 k (t368 != t362) l0_0 t363)) = some r := H
    have A10 := Aside0.mk A100
    clear A100
    have HC11 := Aside0.mk H
    clear H
    go_enter Try.func3, Try.ntmps3
    go_upto_region 8 with (first | ((with_reducible refine gate_dst (N := 1) rfl ?_); refine box_event ?hg (N := 1) ?hd (cs := #[.slice A0_0 l0_0.length c0_0]) (t := 24) ?hr ?_; (case hd => rfl); (case hg => rfl); (case hr => first | (go_simp; done) | (go_simp; rfl)); intro gb356 hg w12 hbox hb; have n0_ := Aside0.mk (below_step (by repeat (first | (with_reducible first | exact HB.out | apply below_alloc | apply pw_below_drewN | apply below_drew1) | exact HB.out)) hb); have n1_ := Aside0.mk (hbox); have n2_ := Aside0.mk ((by rw [hg]; exact (below_size (by repeat (first | (with_reducible first | exact HB.out | apply below_alloc | apply pw_below_drewN | apply below_drew1) | exact HB.out))) : w.heap.size ≤ gb356)); have n3_ := Aside0.mk ((by rw [hg]; exact (below_size (by repeat (first | (with_reducible first | exact HB.out | apply below_alloc | apply pw_below_drewN | apply below_drew1) | exact HB.out))) : w.heap.size ≤ gb356)); clear HB; have HB := n0_; have BK356 := n1_; have GW356 := n2_; have GE356 := n3_; clear n0_ n1_ n2_ n3_; clear hb hbox hg; have hcz13_0 : w12.cell? ⟨gb356, 0, none⟩ = some (.slice A0_0 l0_0.length c0_0) := (blk_cell BK356.out 0).trans rfl; have hfz13_0 := blk_frozen BK356.out 0) | ((with_reducible refine gate_callee (f := 12) rfl ?_); refine goesL_ (some 11) rfl rfl Try.func12 (by kernel_rfl) rfl #[.agg #[.slice A0_0 l0_0.length c0_0], .int .i64 1048576] rfl (by (try simp only [List.map_toArray, List.map_cons, List.map_nil]); first | done | rfl | (simp only [List.length_drop, List.length_take]; rfl)) ?_; (with_reducible refine (laws_szPuzzle.calls _ _ l0_0 1048576 t357 _ ?side1 ?side2 A2.out).mono ?_); (case side1 => repeat (first | exact (Kd.C_below HR0_0.out HB.out) | (with_reducible refine Kd.C_alloc ?_ _) | (with_reducible refine Kd.C_drewN ?_ _) | (with_reducible refine Kd.C_drew ?_))); (case side2 => exact HC0_0.out); rintro e w14 ⟨rfl, hb⟩; refine ⟨_, rfl, ?_⟩; have n0_ := Aside0.mk (blk_below (g := gb356) (o := .cells #[.slice A0_0 l0_0.length c0_0] 24 (0, 0)) (by (with_reducible repeat (first | refine blk_drewN ?_ _ | refine blk_drew ?_ | refine blk_alloc ?_ _)); exact BK356.out) hb); have n1_ := Aside0.mk (below_step (by repeat (first | (with_reducible first | exact HB.out | apply below_alloc | apply pw_below_drewN | apply below_drew1 | refine below_set ?_ GE356.out) | exact HB.out)) hb); clear BK356; clear HB; have BK356 := n0_; have HB := n1_; clear n0_ n1_; (try clear hb); (try clear hb2); (try clear hk); (try clear hi); have hcz15_0 : w14.cell? ⟨gb356, 0, none⟩ = some (.slice A0_0 l0_0.length c0_0) := (blk_cell BK356.out 0).trans rfl; have hfz15_0 := blk_frozen BK356.out 0) | ((with_reducible refine gate_callee (f := 14) rfl ?_); refine goesL_ (some 16) rfl rfl Try.func14 (by kernel_rfl) rfl #[.agg #[.slice A0_0 l0_0.length c0_0]] rfl (by (try simp only [List.map_toArray, List.map_cons, List.map_nil]); first | done | rfl | (simp only [List.length_drop, List.length_take]; rfl)) ?_; (with_reducible refine (laws_toPuzzle.calls k _ _ l0_0 t358 _ ?side1 ?side2 A7.out).mono ?_); (case side1 => repeat (first | exact (Kd.C_below HR0_0.out HB.out) | (with_reducible refine Kd.C_alloc ?_ _) | (with_reducible refine Kd.C_drewN ?_ _) | (with_reducible refine Kd.C_drew ?_))); (case side2 => exact HC0_0.out); rintro e w16 ⟨v359, rfl, ho0, hb⟩; refine ⟨_, rfl, ?_⟩; have n0_ := Aside0.mk (Kd.R_lower ho0 (below_size (by repeat (first | (with_reducible first | exact HB.out | apply below_alloc | apply pw_below_drewN | apply below_drew1 | refine below_set ?_ GE356.out) | exact HB.out)))); have n1_ := Aside0.mk (blk_below (g := gb356) (o := .cells #[.slice A0_0 l0_0.length c0_0] 24 (0, 0)) (by (with_reducible repeat (first | refine blk_drewN ?_ _ | refine blk_drew ?_ | refine blk_alloc ?_ _)); exact BK356.out) hb); have n2_ := Aside0.mk (below_step (by repeat (first | (with_reducible first | exact HB.out | apply below_alloc | apply pw_below_drewN | apply below_drew1 | refine below_set ?_ GE356.out) | exact HB.out)) hb); clear BK356; clear HB; have HO360 := n0_; have BK356 := n1_; have HB := n2_; clear n0_ n1_ n2_; (try clear hb); (try clear hb2); (try clear hk); (try clear hi); (try clear ho0); obtain ⟨Ao17, co17, eo17⟩ := Kd.R_slice HO360.out; subst eo17) | ((with_reducible refine gate_callee (f := 13) rfl ?_); refine goesL_ (some 17) rfl rfl Try.func13 (by kernel_rfl) rfl #[.agg #[.slice Ao17 t358.length co17]] rfl (by (try simp only [List.map_toArray, List.map_cons, List.map_nil]); first | done | rfl | (simp only [List.length_drop, List.length_take]; rfl)) ?_; (with_reducible refine (spec_IsSolved.calls k _ _ t358 t361 t362 _ ?side1 ?side2 A8.out).mono ?_); (case side1 => repeat (first | exact (Kd.R_reads' HO360.out).2.2 | (with_reducible refine Kd.C_alloc ?_ _) | (with_reducible refine Kd.C_drewN ?_ _) | (with_reducible refine Kd.C_drew ?_))); (case side2 => exact (Kd.R_reads' HO360.out).2.1); rintro e w18 ⟨rfl, hb⟩; refine ⟨_, rfl, ?_⟩; have n0_ := Aside0.mk (Kd.R_below (by (with_reducible repeat (first | apply Kd.R_alloc | apply Kd.R_drewN | apply Kd.R_drew)); exact HO360.out) hb); have n1_ := Aside0.mk (blk_below (g := gb356) (o := .cells #[.slice A0_0 l0_0.length c0_0] 24 (0, 0)) (by (with_reducible repeat (first | refine blk_drewN ?_ _ | refine blk_drew ?_ | refine blk_alloc ?_ _)); exact BK356.out) hb); have n2_ := Aside0.mk (below_step (by repeat (first | (with_reducible first | exact HB.out | apply below_alloc | apply pw_below_drewN | apply below_drew1 | refine below_set ?_ GE356.out) | exact HB.out)) hb); clear HO360; clear BK356; clear HB; have HO360 := n0_; have BK356 := n1_; have HB := n2_; clear n0_ n1_ n2_; (try clear hb); (try clear hb2); (try clear hk); (try clear hi); have hcz19_0 : w18.cell? ⟨gb356, 0, none⟩ = some (.slice A0_0 l0_0.length c0_0) := (blk_cell BK356.out 0).trans rfl; have hfz19_0 := blk_frozen BK356.out 0) | ((with_reducible refine gate_callee (f := 14) rfl ?_); refine goesL_ (some 21) rfl rfl Try.func14 (by kernel_rfl) rfl #[.agg #[.slice A0_0 l0_0.length c0_0]] rfl (by (try simp only [List.map_toArray, List.map_cons, List.map_nil]); first | done | rfl | (simp only [List.length_drop, List.length_take]; rfl)) ?_; (with_reducible refine (laws_toPuzzle.calls k _ _ l0_0 t363 _ ?side1 ?side2 A9.out).mono ?_); (case side1 => repeat (first | exact (Kd.C_below HR0_0.out HB.out) | (with_reducible refine Kd.C_alloc ?_ _) | (with_reducible refine Kd.C_drewN ?_ _) | (with_reducible refine Kd.C_drew ?_))); (case side2 => exact HC0_0.out); rintro e w20 ⟨v364, rfl, ho0, hb⟩; refine ⟨_, rfl, ?_⟩; have n0_ := Aside0.mk (Kd.R_elder' (by (with_reducible repeat (first | apply Kd.R_alloc | apply Kd.R_drewN | apply Kd.R_drew)); exact HO360.out) (Kd.R_base ho0) hb); have n1_ := Aside0.mk (Kd.R_lower (Kd.R_new' ho0 (Kd.R_lt (by (with_reducible repeat (first | apply Kd.R_alloc | apply Kd.R_drewN | apply Kd.R_drew)); exact HO360.out))) (below_size (by repeat (first | (with_reducible first | exact HB.out | apply below_alloc | apply pw_below_drewN | apply below_drew1 | refine below_set ?_ GE356.out) | exact HB.out)))); have n2_ := Aside0.mk (blk_below (g := gb356) (o := .cells #[.slice A0_0 l0_0.length c0_0] 24 (0, 0)) (by (with_reducible repeat (first | refine blk_drewN ?_ _ | refine blk_drew ?_ | refine blk_alloc ?_ _)); exact BK356.out) hb); have n3_ := Aside0.mk (below_step (by repeat (first | (with_reducible first | exact HB.out | apply below_alloc | apply pw_below_drewN | apply below_drew1 | refine below_set ?_ GE356.out) | exact HB.out)) hb); clear HO360; clear BK356; clear HB; have HO360 := n0_; have HO365 := n1_; have BK356 := n2_; have HB := n3_; clear n0_ n1_ n2_ n3_; (try clear hb); (try clear hb2); (try clear hk); (try clear hi); (try clear ho0)) | ((with_reducible refine gate_dst (N := 6) rfl ?_); refine box_event ?hg (N := 6) ?hd (cs := #[.slice none 0 0]) (t := 30) ?hr ?_; (case hd => rfl); (case hg => rfl); (case hr => first | (go_simp; done) | (go_simp; rfl)); intro gb366 hg w21 hbox hb; have n0_ := Aside0.mk (Kd.R_below (by (with_reducible repeat (first | apply Kd.R_alloc | apply Kd.R_drewN | apply Kd.R_drew)); exact HO360.out) hb); have n1_ := Aside0.mk (Kd.R_below (by (with_reducible repeat (first | apply Kd.R_alloc | apply Kd.R_drewN | apply Kd.R_drew)); exact HO365.out) hb); have n2_ := Aside0.mk (blk_below (g := gb356) (o := .cells #[.slice A0_0 l0_0.length c0_0] 24 (0, 0)) (by (with_reducible repeat (first | refine blk_drewN ?_ _ | refine blk_drew ?_ | refine blk_alloc ?_ _)); exact BK356.out) hb); have n3_ := Aside0.mk (below_step (by repeat (first | (with_reducible first | exact HB.out | apply below_alloc | apply pw_below_drewN | apply below_drew1 | refine below_set ?_ GE356.out) | exact HB.out)) hb); have n4_ := Aside0.mk (hbox); have n5_ := Aside0.mk ((by rw [hg]; exact (below_size (by repeat (first | (with_reducible first | exact HB.out | apply below_alloc | apply pw_below_drewN | apply below_drew1 | refine below_set ?_ GE356.out) | exact HB.out))) : w.heap.size ≤ gb366)); have n6_ := Aside0.mk ((by rw [hg]; exact (below_size (by repeat (first | (with_reducible first | exact HB.out | apply below_alloc | apply pw_below_drewN | apply below_drew1 | refine below_set ?_ GE356.out) | exact HB.out))) : w.heap.size ≤ gb366)); have n7_ := Aside0.mk ((by rw [hg]; exact Nat.ne_of_lt (blk_lt (g := gb356) (o := .cells #[.slice A0_0 l0_0.length c0_0] 24 (0, 0)) (by (with_reducible repeat (first | refine blk_drewN ?_ _ | refine blk_drew ?_ | refine blk_alloc ?_ _)); exact BK356.out)) : gb356 ≠ gb366)); have n8_ := Aside0.mk ((by rw [hg]; exact Nat.ne_of_gt (blk_lt (g := gb356) (o := .cells #[.slice A0_0 l0_0.length c0_0] 24 (0, 0)) (by (with_reducible repeat (first | refine blk_drewN ?_ _ | refine blk_drew ?_ | refine blk_alloc ?_ _)); exact BK356.out)) : gb366 ≠ gb356)); clear HO360; clear HO365; clear BK356; clear HB; have HO360 := n0_; have HO365 := n1_; have BK356 := n2_; have HB := n3_; have BK366 := n4_; have GW366 := n5_; have GE366 := n6_; have NB356_366 := n7_; have NB366_356 := n8_; clear n0_ n1_ n2_ n3_ n4_ n5_ n6_ n7_ n8_; clear hb hbox hg; obtain ⟨Ao22, co22, eo22⟩ := Kd.R_slice HO365.out; subst eo22; have hnb23 := NB366_356.out; have hnc23 := NB356_366.out; have hcz24_0 : w21.cell? ⟨gb366, 0, none⟩ = some (.slice none 0 0) := (blk_cell BK366.out 0).trans rfl; have hfz24_0 := blk_frozen BK366.out 0) | ((with_reducible refine gate_callee (f := 15) rfl ?_); refine goesL_ (some 24) rfl rfl Try.func15 (by kernel_rfl) rfl #[.agg #[.slice Ao22 t363.length co22]] rfl (by (try simp only [List.map_toArray, List.map_cons, List.map_nil]); first | done | rfl | (simp only [List.length_drop, List.length_take]; rfl)) ?_; (with_reducible refine (impl_IsSolved.calls _ _ t363 t367 t368 _ ?side1 ?side2 A10.out).mono ?_); (case side1 => refine (Kd.R_reads' (e := 67) (base := w.heap.size) (ok := fun k_ => (True ∧ some k_ ≠ (.slice Ao17 t358.length co17 : Value).ownBlock)) (n := t363.length) (c := co22) ?_).2.2; exact (by (with_reducible repeat (first | apply Kd.R_alloc | apply Kd.R_drewN | apply Kd.R_drew)); exact (Kd.R_mono (Kd.R_far (p := ⟨gb366, 0, none⟩) (Kd.R_types HO365.out BK366.out (by decide)) (fun _ hk => hk.2) (.slice Ao22 t363.length co22)) (fun _ h_ => h_.1)))); (case side2 => exact (Kd.R_reads' HO365.out).2.1); rintro e w25 ⟨rfl, hb⟩; refine ⟨_, rfl, ?_⟩; have n0_ := Aside0.mk (Kd.R_below (by (with_reducible repeat (first | apply Kd.R_alloc | apply Kd.R_drewN | apply Kd.R_drew)); exact (Kd.R_mono (Kd.R_far (p := ⟨gb366, 0, none⟩) (Kd.R_types HO360.out BK366.out (by decide)) (fun _ hk => hk.2) (.slice Ao22 t363.length co22)) (fun _ h_ => h_.1))) hb); have n1_ := Aside0.mk (Kd.R_below (by (with_reducible repeat (first | apply Kd.R_alloc | apply Kd.R_drewN | apply Kd.R_drew)); exact (Kd.R_mono (Kd.R_far (p := ⟨gb366, 0, none⟩) (Kd.R_types HO365.out BK366.out (by decide)) (fun _ hk => hk.2) (.slice Ao22 t363.length co22)) (fun _ h_ => h_.1))) hb); have n2_ := Aside0.mk (blk_below (g := gb356) (o := .cells #[.slice A0_0 l0_0.length c0_0] 24 (0, 0)) (by (with_reducible repeat (first | refine blk_drewN ?_ _ | refine blk_drew ?_ | refine blk_alloc ?_ _)); refine blk_far ?_ NB356_366.out _; (with_reducible repeat (first | refine blk_drewN ?_ _ | refine blk_drew ?_ | refine blk_alloc ?_ _)); exact BK356.out) hb); have n3_ := Aside0.mk (blk_below (g := gb366) (o := .cells #[.slice Ao22 t363.length co22] 30 (0, 0)) (by (with_reducible repeat (first | refine blk_drewN ?_ _ | refine blk_drew ?_ | refine blk_alloc ?_ _)); refine blk_put (cs := #[.slice none 0 0]) ?_ 0 _ rfl; (with_reducible repeat (first | refine blk_drewN ?_ _ | refine blk_drew ?_ | refine blk_alloc ?_ _)); exact BK366.out) hb); have n4_ := Aside0.mk (below_step (by repeat (first | (with_reducible first | exact HB.out | apply below_alloc | apply pw_below_drewN | apply below_drew1 | refine below_set ?_ GE356.out | refine below_set ?_ GE366.out) | exact HB.out)) hb); clear HO360; clear HO365; clear BK356; clear BK366; clear HB; have HO360 := n0_; have HO365 := n1_; have BK356 := n2_; have BK366 := n3_; have HB := n4_; clear n0_ n1_ n2_ n3_ n4_; (try clear hb); (try clear hb2); (try clear hk); (try clear hi)))
    (try simp only [Act.put, List.setIfInBounds_toArray, List.set_cons_zero, List.set_cons_succ])
    go_cut [34] (fun v34 wc => ∃ (kq : Nat) (x34_10 : Bool), v34 = .bool x34_10 ∧ Aside0 (laws_FnExactIsSolved.j0 kq x34_10 l0_0 t363 = some r) ∧ Aside0 (kq ≤ k) ∧ Aside0 (Kd.R k67 67 wc w.heap.size (fun _ => True) (.slice Ao22 t363.length co22) t363) ∧ Aside0 (wc.heap[gb356]? = some (.cells #[(.slice A0_0 l0_0.length c0_0)] 24 (0, 0))) ∧ Aside0 (wc.heap[gb366]? = some (.cells #[(.slice Ao22 t363.length co22)] 30 (0, 0))) ∧ Aside0 (Below w.heap.size w wc))
    case first =>
      have H := HC11.out
      clear HC11
      by_cases c26 : (t367 != t361) = true
      · rw [if_pos c26] at H
        have c26b0 : (t367 != t361) = true := c26
        (try (have c26b1 : decide (t367 = t361) = false := by simpa using c26))
        (try (have c26b2 : (t367 == t361) = false := by simpa using c26))
        (try (have c26b3 : ¬ (t367 = t361) := by simpa using c26))
        clear c26
        (first | rw [c26b0] | (simp only [i64_w, i32_w]; rw [c26b0]) | skip)
        have H' := Aside0.mk H
        clear H
        go_wp2
        go_meet
        case rel => exact ⟨_, (true), (by first | rfl | (simp; done) | (simp [*]; done)), H', ⟨by first | omega | exact Nat.le_refl _⟩, ⟨by (with_reducible repeat (first | apply Kd.R_alloc | apply Kd.R_drewN | apply Kd.R_drew)); exact Kd.R_mono HO365.out (fun _ hk => trivial)⟩, ⟨by (with_reducible repeat (first | refine blk_drewN ?_ _ | refine blk_drew ?_ | refine blk_alloc ?_ _)); exact BK356.out⟩, ⟨by (with_reducible repeat (first | refine blk_drewN ?_ _ | refine blk_drew ?_ | refine blk_alloc ?_ _)); exact BK366.out⟩, ⟨by repeat (first | (with_reducible first | exact HB.out | apply below_alloc | apply pw_below_drewN | apply below_drew1 | refine below_set ?_ GE356.out | refine below_set ?_ GE366.out) | exact HB.out)⟩⟩
      · rw [if_neg c26] at H
        have c26b0 : (t367 != t361) = false := by simpa using c26
        (try (have c26b1 : decide (t367 = t361) = true := by simpa using c26))
        (try (have c26b2 : (t367 == t361) = true := by simpa using c26))
        clear c26
        (first | rw [c26b0] | (simp only [i64_w, i32_w]; rw [c26b0]) | skip)
        have H' := Aside0.mk H
        clear H
        go_wp2
        go_meet
        case rel => exact ⟨_, ((t368 != t362)), (by first | rfl | (simp; done) | (simp [*]; done)), H', ⟨by first | omega | exact Nat.le_refl _⟩, ⟨by (with_reducible repeat (first | apply Kd.R_alloc | apply Kd.R_drewN | apply Kd.R_drew)); exact Kd.R_mono HO365.out (fun _ hk => trivial)⟩, ⟨by (with_reducible repeat (first | refine blk_drewN ?_ _ | refine blk_drew ?_ | refine blk_alloc ?_ _)); exact BK356.out⟩, ⟨by (with_reducible repeat (first | refine blk_drewN ?_ _ | refine blk_drew ?_ | refine blk_alloc ?_ _)); exact BK366.out⟩, ⟨by repeat (first | (with_reducible first | exact HB.out | apply below_alloc | apply pw_below_drewN | apply below_drew1 | refine below_set ?_ GE356.out | refine below_set ?_ GE366.out) | exact HB.out)⟩⟩
    case rest =>
      clear HC11
      try clear c1
      try clear c2
      try clear p2
      try clear c3
      try clear c3b0
      try clear c12
      try clear c13
      try clear c14
      try clear c15
      try clear c23
      try clear c26
      try clear c26b0
      try clear c26b1
      try clear c26b2
      try clear hcz13_0
      try clear hcz15_0
      try clear hcz19_0
      try clear hcz24_0
      try clear hcz5_0
      try clear hfz13_0
      try clear hfz15_0
      try clear hfz19_0
      try clear hfz24_0
      try clear hfz5_0
      obtain ⟨kq, x34_10, rfl, HA, HJ10, HO_367000, BK356, BK366, HB⟩ := hcut
      cases kq with
      | zero => exact absurd HA.out (by simp [laws_FnExactIsSolved.j0])
      | succ kj10 =>
        have H := HA.out
        clear HA
        simp only [laws_FnExactIsSolved.j0] at H
        by_cases c27 : x34_10 = true
        · subst c27
          have H1 : (some false) = some r := by rw [if_pos rfl] at H; exact H
          clear H
          have H := H1
          clear H1
          obtain rfl := Option.some.inj H
          go_wp2
          go_ret
          exact ⟨by first | rfl | (simp [errW_none, errW_some] <;> rfl) | (simp [*, errW_none, errW_some] <;> rfl), by repeat (first | (with_reducible first | exact HB.out | apply below_alloc | apply pw_below_drewN | apply below_drew1 | refine below_set ?_ GE356.out | refine below_set ?_ GE366.out) | exact HB.out)⟩
        · replace c27 := Bool.eq_false_iff.mpr c27
          subst c27
          have H1 : ((laws_toPuzzle.f kj10 l0_0).bind fun t369 => ((laws_eqPuzzle.f kj10 t363 t369).bind fun t372 => (if t372 = true then (some true) else (some false)))) = some r := by rw [if_neg (show ¬ (false = true) by decide)] at H; exact H
          clear H
          have H := H1
          clear H1
          replace H := Option.bind_eq_some_iff.mp H
          obtain ⟨t369, A280, H⟩ := H
          replace H : ((laws_eqPuzzle.f kj10 t363 t369).bind fun t372 => (if t372 = true then (some true) else (some false))) = some r := H
          have A28 := Aside0.mk A280
          clear A280
          replace H := Option.bind_eq_some_iff.mp H
          obtain ⟨t372, A290, H⟩ := H
          replace H : (if t372 = true then (some true) else (some false)) = some r := H
          have A29 := Aside0.mk A290
          clear A290
          by_cases c30 : t372 = true
          · subst c30
            have H1 : (some true) = some r := by rw [if_pos rfl] at H; exact H
            clear H
            have H := H1
            clear H1
            obtain rfl := Option.some.inj H
            try go_wp2
            have n0_ := Aside0.mk (Kd.R_drew HO_367000.out)
            have n1_ := Aside0.mk (blk_drew BK356.out)
            have n2_ := Aside0.mk (blk_drew BK366.out)
            have n3_ := Aside0.mk (below_drew1 HB.out)
            clear HO_367000
            clear BK356
            clear BK366
            clear HB
            have HO_367000 := n0_
            have BK356 := n1_
            have BK366 := n2_
            have HB := n3_
            clear n0_ n1_ n2_ n3_
            refine start_ (n := 5) (S := fun w' => w'.cell? ⟨gb366, 0, none⟩ = some (.slice Ao22 t363.length co22) ∧ w'.cell? ⟨gb356, 0, none⟩ = some (.slice A0_0 l0_0.length c0_0)) (ds := []) #[false, false, false, false, false] (by kernel_rfl) rfl rfl ⟨(blk_cell BK366.out 0).trans rfl, (blk_cell BK356.out 0).trans rfl⟩ (fun hHeld => ?_)
            generalize wc.drew = w31 at HO_367000 BK356 BK366 HB hHeld ⊢
            refine take_ (i := 0) (N := some 35) (v := ?_) (a' := ?_) #[true, false, false, false, false] rfl rfl (by kernel_rfl) (fun _ _ _ h => h) (Or.inl ⟨by rfl, ?_⟩) hHeld ?_ ?_
            rotate_left
            · rintro w' ⟨s0, s1⟩
              go_simp
              with_reducible rfl
            rotate_left
            · simp only [Act.put, List.setIfInBounds_toArray, List.set_cons_zero, List.set_cons_succ, i64_w, i32_w]
              rfl
            refine take_ (i := 1) (N := some 36) (v := ?_) (a' := ?_) #[true, true, false, false, false] rfl rfl (by kernel_rfl) (fun _ _ _ h => h) (Or.inl ⟨by rfl, ?_⟩) hHeld ?_ ?_
            rotate_left
            · rintro w' ⟨s0, s1⟩
              go_simp
              with_reducible rfl
            rotate_left
            · simp only [Act.put, List.setIfInBounds_toArray, List.set_cons_zero, List.set_cons_succ, i64_w, i32_w]
              rfl
            refine one_ (i := 2) (N := some 37) #[true, true, true, false, false] rfl rfl (by kernel_rfl) (by decide) (fun K hK => ?_)
            refine goes_ Try.func14 (by kernel_rfl) rfl #[.agg #[.slice A0_0 l0_0.length c0_0]] (by rfl) rfl rfl (by (try simp only [List.map_toArray, List.map_cons, List.map_nil]); first | done | rfl | (simp only [List.length_drop, List.length_take]; rfl)) ?_
            with_reducible refine (laws_toPuzzle.calls kj10 _ _ l0_0 t369 _ ?side1 ?side2 A28.out).mono ?_
            (case side1 => repeat (first | exact (Kd.C_below HR0_0.out HB.out) | (with_reducible refine Kd.C_alloc ?_ _) | (with_reducible refine Kd.C_drewN ?_ _) | (with_reducible refine Kd.C_drew ?_)))
            (case side2 => exact HC0_0.out)
            rintro e w32 ⟨v370, rfl, ho0, hb⟩
            refine ⟨_, rfl, ?_⟩
            have n0_ := Aside0.mk (Kd.R_elder' (by (with_reducible repeat (first | apply Kd.R_alloc | apply Kd.R_drewN | apply Kd.R_drew)); exact HO_367000.out) (Kd.R_base ho0) hb)
            have n1_ := Aside0.mk (Kd.R_lower (Kd.R_new' ho0 (Kd.R_lt (by (with_reducible repeat (first | apply Kd.R_alloc | apply Kd.R_drewN | apply Kd.R_drew)); exact HO_367000.out))) (below_size (by repeat (first | (with_reducible first | exact HB.out | apply below_alloc | apply pw_below_drewN | apply below_drew1 | refine below_set ?_ GE356.out | refine below_set ?_ GE366.out) | exact HB.out))))
            have n2_ := Aside0.mk (blk_below (g := gb356) (o := .cells #[.slice A0_0 l0_0.length c0_0] 24 (0, 0)) (by (with_reducible repeat (first | refine blk_drewN ?_ _ | refine blk_drew ?_ | refine blk_alloc ?_ _)); exact BK356.out) hb)
            have n3_ := Aside0.mk (blk_below (g := gb366) (o := .cells #[.slice Ao22 t363.length co22] 30 (0, 0)) (by (with_reducible repeat (first | refine blk_drewN ?_ _ | refine blk_drew ?_ | refine blk_alloc ?_ _)); exact BK366.out) hb)
            have n4_ := Aside0.mk (below_step (by repeat (first | (with_reducible first | exact HB.out | apply below_alloc | apply pw_below_drewN | apply below_drew1 | refine below_set ?_ GE356.out | refine below_set ?_ GE366.out) | exact HB.out)) hb)
            clear HO_367000
            clear BK356
            clear BK366
            clear HB
            have HO_367000 := n0_
            have HO371 := n1_
            have BK356 := n2_
            have BK366 := n3_
            have HB := n4_
            clear n0_ n1_ n2_ n3_ n4_
            (try clear hb)
            (try clear hb2)
            (try clear hk)
            (try clear hi)
            (try clear ho0)
            obtain ⟨Ao33, co33, eo33⟩ := Kd.R_slice HO371.out
            (first | subst eo33 | (injection eo33 with f1_ f2_ f3_; have f4_ := f1_.symm; have f5_ := f3_.symm; clear f1_ f2_ f3_; subst f4_; subst f5_))
            refine hK.out _ _ ⟨(blk_cell BK366.out 0).trans rfl, (blk_cell BK356.out 0).trans rfl⟩ (fun hHeld => ?_)
            clear hK K
            refine norm_ (a' := ?_) ?_ ?_
            rotate_left
            · show Act.put _ (some 37) _ = _
              simp only [Act.put, List.setIfInBounds_toArray, List.set_cons_zero, List.set_cons_succ, i64_w, i32_w]
              rfl
            refine one_ (i := 3) (N := some 38) #[true, true, true, true, false] rfl rfl (by kernel_rfl) (by decide) (fun K hK => ?_)
            refine goes_ Try.func16 (by kernel_rfl) rfl #[.agg #[.slice Ao22 t363.length co22], .agg #[.slice Ao33 t369.length co33]] (by rfl) rfl rfl (by (try simp only [List.map_toArray, List.map_cons, List.map_nil]); first | done | rfl | (simp only [List.length_drop, List.length_take]; rfl)) ?_
            with_reducible refine (laws_eqPuzzle.calls kj10 _ _ t363 _ _ t369 true _ ?side1 ?side2 ?side3 ?side4 A29.out).mono ?_
            (case side1 => repeat (first | exact (Kd.R_reads' HO_367000.out).2.2 | (with_reducible refine Kd.C_alloc ?_ _) | (with_reducible refine Kd.C_drewN ?_ _) | (with_reducible refine Kd.C_drew ?_)))
            (case side2 => exact (Kd.R_reads' HO_367000.out).2.1)
            (case side3 => repeat (first | exact (Kd.R_reads' HO371.out).2.2 | (with_reducible refine Kd.C_alloc ?_ _) | (with_reducible refine Kd.C_drewN ?_ _) | (with_reducible refine Kd.C_drew ?_)))
            (case side4 => exact (Kd.R_reads' HO371.out).2.1)
            rintro e w34 ⟨rfl, hb⟩
            refine ⟨_, rfl, ?_⟩
            have n0_ := Aside0.mk (Kd.R_below (by (with_reducible repeat (first | apply Kd.R_alloc | apply Kd.R_drewN | apply Kd.R_drew)); exact HO_367000.out) hb)
            have n1_ := Aside0.mk (Kd.R_below (by (with_reducible repeat (first | apply Kd.R_alloc | apply Kd.R_drewN | apply Kd.R_drew)); exact HO371.out) hb)
            have n2_ := Aside0.mk (blk_below (g := gb356) (o := .cells #[.slice A0_0 l0_0.length c0_0] 24 (0, 0)) (by (with_reducible repeat (first | refine blk_drewN ?_ _ | refine blk_drew ?_ | refine blk_alloc ?_ _)); exact BK356.out) hb)
            have n3_ := Aside0.mk (blk_below (g := gb366) (o := .cells #[.slice Ao22 t363.length co22] 30 (0, 0)) (by (with_reducible repeat (first | refine blk_drewN ?_ _ | refine blk_drew ?_ | refine blk_alloc ?_ _)); exact BK366.out) hb)
            have n4_ := Aside0.mk (below_step (by repeat (first | (with_reducible first | exact HB.out | apply below_alloc | apply pw_below_drewN | apply below_drew1 | refine below_set ?_ GE356.out | refine below_set ?_ GE366.out) | exact HB.out)) hb)
            clear HO_367000
            clear HO371
            clear BK356
            clear BK366
            clear HB
            have HO_367000 := n0_
            have HO371 := n1_
            have BK356 := n2_
            have BK366 := n3_
            have HB := n4_
            clear n0_ n1_ n2_ n3_ n4_
            (try clear hb)
            (try clear hb2)
            (try clear hk)
            (try clear hi)
            refine hK.out _ _ ⟨(blk_cell BK366.out 0).trans rfl, (blk_cell BK356.out 0).trans rfl⟩ (fun hHeld => ?_)
            clear hK K
            refine norm_ (a' := ?_) ?_ ?_
            rotate_left
            · show Act.put _ (some 38) _ = _
              simp only [Act.put, List.setIfInBounds_toArray, List.set_cons_zero, List.set_cons_succ, i64_w, i32_w]
              rfl
            refine pure_ (i := 4) (N := some 39) (v := ?_) (a' := ?_) #[true, true, true, true, true] rfl rfl (by kernel_rfl) (fun _ _ _ h => h) (Or.inl ⟨by rfl, ?_⟩) ?_ ?_
            rotate_left
            · intro w'
              go_simp
              with_reducible rfl
            rotate_left
            · simp only [Act.put, List.setIfInBounds_toArray, List.set_cons_zero, List.set_cons_succ, i64_w, i32_w]
              rfl
            refine done_ (by kernel_rfl) ?_
            try go_wp2
            go_ret
            exact ⟨by first | rfl | (simp [errW_none, errW_some] <;> rfl) | (simp [*, errW_none, errW_some] <;> rfl), by repeat (first | (with_reducible first | exact HB.out | apply below_alloc | apply pw_below_drewN | apply below_drew1 | refine below_set ?_ GE356.out | refine below_set ?_ GE366.out) | exact HB.out)⟩
          · replace c30 := Bool.eq_false_iff.mpr c30
            subst c30
            have H1 : (some false) = some r := by rw [if_neg (show ¬ (false = true) by decide)] at H; exact H
            clear H
            have H := H1
            clear H1
            obtain rfl := Option.some.inj H
            try go_wp2
            have n0_ := Aside0.mk (Kd.R_drew HO_367000.out)
            have n1_ := Aside0.mk (blk_drew BK356.out)
            have n2_ := Aside0.mk (blk_drew BK366.out)
            have n3_ := Aside0.mk (below_drew1 HB.out)
            clear HO_367000
            clear BK356
            clear BK366
            clear HB
            have HO_367000 := n0_
            have BK356 := n1_
            have BK366 := n2_
            have HB := n3_
            clear n0_ n1_ n2_ n3_
            refine start_ (n := 5) (S := fun w' => w'.cell? ⟨gb366, 0, none⟩ = some (.slice Ao22 t363.length co22) ∧ w'.cell? ⟨gb356, 0, none⟩ = some (.slice A0_0 l0_0.length c0_0)) (ds := []) #[false, false, false, false, false] (by kernel_rfl) rfl rfl ⟨(blk_cell BK366.out 0).trans rfl, (blk_cell BK356.out 0).trans rfl⟩ (fun hHeld => ?_)
            generalize wc.drew = w35 at HO_367000 BK356 BK366 HB hHeld ⊢
            refine take_ (i := 0) (N := some 35) (v := ?_) (a' := ?_) #[true, false, false, false, false] rfl rfl (by kernel_rfl) (fun _ _ _ h => h) (Or.inl ⟨by rfl, ?_⟩) hHeld ?_ ?_
            rotate_left
            · rintro w' ⟨s0, s1⟩
              go_simp
              with_reducible rfl
            rotate_left
            · simp only [Act.put, List.setIfInBounds_toArray, List.set_cons_zero, List.set_cons_succ, i64_w, i32_w]
              rfl
            refine take_ (i := 1) (N := some 36) (v := ?_) (a' := ?_) #[true, true, false, false, false] rfl rfl (by kernel_rfl) (fun _ _ _ h => h) (Or.inl ⟨by rfl, ?_⟩) hHeld ?_ ?_
            rotate_left
            · rintro w' ⟨s0, s1⟩
              go_simp
              with_reducible rfl
            rotate_left
            · simp only [Act.put, List.setIfInBounds_toArray, List.set_cons_zero, List.set_cons_succ, i64_w, i32_w]
              rfl
            refine one_ (i := 2) (N := some 37) #[true, true, true, false, false] rfl rfl (by kernel_rfl) (by decide) (fun K hK => ?_)
            refine goes_ Try.func14 (by kernel_rfl) rfl #[.agg #[.slice A0_0 l0_0.length c0_0]] (by rfl) rfl rfl (by (try simp only [List.map_toArray, List.map_cons, List.map_nil]); first | done | rfl | (simp only [List.length_drop, List.length_take]; rfl)) ?_
            with_reducible refine (laws_toPuzzle.calls kj10 _ _ l0_0 t369 _ ?side1 ?side2 A28.out).mono ?_
            (case side1 => repeat (first | exact (Kd.C_below HR0_0.out HB.out) | (with_reducible refine Kd.C_alloc ?_ _) | (with_reducible refine Kd.C_drewN ?_ _) | (with_reducible refine Kd.C_drew ?_)))
            (case side2 => exact HC0_0.out)
            rintro e w36 ⟨v370, rfl, ho0, hb⟩
            refine ⟨_, rfl, ?_⟩
            have n0_ := Aside0.mk (Kd.R_elder' (by (with_reducible repeat (first | apply Kd.R_alloc | apply Kd.R_drewN | apply Kd.R_drew)); exact HO_367000.out) (Kd.R_base ho0) hb)
            have n1_ := Aside0.mk (Kd.R_lower (Kd.R_new' ho0 (Kd.R_lt (by (with_reducible repeat (first | apply Kd.R_alloc | apply Kd.R_drewN | apply Kd.R_drew)); exact HO_367000.out))) (below_size (by repeat (first | (with_reducible first | exact HB.out | apply below_alloc | apply pw_below_drewN | apply below_drew1 | refine below_set ?_ GE356.out | refine below_set ?_ GE366.out) | exact HB.out))))
            have n2_ := Aside0.mk (blk_below (g := gb356) (o := .cells #[.slice A0_0 l0_0.length c0_0] 24 (0, 0)) (by (with_reducible repeat (first | refine blk_drewN ?_ _ | refine blk_drew ?_ | refine blk_alloc ?_ _)); exact BK356.out) hb)
            have n3_ := Aside0.mk (blk_below (g := gb366) (o := .cells #[.slice Ao22 t363.length co22] 30 (0, 0)) (by (with_reducible repeat (first | refine blk_drewN ?_ _ | refine blk_drew ?_ | refine blk_alloc ?_ _)); exact BK366.out) hb)
            have n4_ := Aside0.mk (below_step (by repeat (first | (with_reducible first | exact HB.out | apply below_alloc | apply pw_below_drewN | apply below_drew1 | refine below_set ?_ GE356.out | refine below_set ?_ GE366.out) | exact HB.out)) hb)
            clear HO_367000
            clear BK356
            clear BK366
            clear HB
            have HO_367000 := n0_
            have HO371 := n1_
            have BK356 := n2_
            have BK366 := n3_
            have HB := n4_
            clear n0_ n1_ n2_ n3_ n4_
            (try clear hb)
            (try clear hb2)
            (try clear hk)
            (try clear hi)
            (try clear ho0)
            obtain ⟨Ao37, co37, eo37⟩ := Kd.R_slice HO371.out
            (first | subst eo37 | (injection eo37 with f1_ f2_ f3_; have f4_ := f1_.symm; have f5_ := f3_.symm; clear f1_ f2_ f3_; subst f4_; subst f5_))
            refine hK.out _ _ ⟨(blk_cell BK366.out 0).trans rfl, (blk_cell BK356.out 0).trans rfl⟩ (fun hHeld => ?_)
            clear hK K
            refine norm_ (a' := ?_) ?_ ?_
            rotate_left
            · show Act.put _ (some 37) _ = _
              simp only [Act.put, List.setIfInBounds_toArray, List.set_cons_zero, List.set_cons_succ, i64_w, i32_w]
              rfl
            refine one_ (i := 3) (N := some 38) #[true, true, true, true, false] rfl rfl (by kernel_rfl) (by decide) (fun K hK => ?_)
            refine goes_ Try.func16 (by kernel_rfl) rfl #[.agg #[.slice Ao22 t363.length co22], .agg #[.slice Ao37 t369.length co37]] (by rfl) rfl rfl (by (try simp only [List.map_toArray, List.map_cons, List.map_nil]); first | done | rfl | (simp only [List.length_drop, List.length_take]; rfl)) ?_
            with_reducible refine (laws_eqPuzzle.calls kj10 _ _ t363 _ _ t369 false _ ?side1 ?side2 ?side3 ?side4 A29.out).mono ?_
            (case side1 => repeat (first | exact (Kd.R_reads' HO_367000.out).2.2 | (with_reducible refine Kd.C_alloc ?_ _) | (with_reducible refine Kd.C_drewN ?_ _) | (with_reducible refine Kd.C_drew ?_)))
            (case side2 => exact (Kd.R_reads' HO_367000.out).2.1)
            (case side3 => repeat (first | exact (Kd.R_reads' HO371.out).2.2 | (with_reducible refine Kd.C_alloc ?_ _) | (with_reducible refine Kd.C_drewN ?_ _) | (with_reducible refine Kd.C_drew ?_)))
            (case side4 => exact (Kd.R_reads' HO371.out).2.1)
            rintro e w38 ⟨rfl, hb⟩
            refine ⟨_, rfl, ?_⟩
            have n0_ := Aside0.mk (Kd.R_below (by (with_reducible repeat (first | apply Kd.R_alloc | apply Kd.R_drewN | apply Kd.R_drew)); exact HO_367000.out) hb)
            have n1_ := Aside0.mk (Kd.R_below (by (with_reducible repeat (first | apply Kd.R_alloc | apply Kd.R_drewN | apply Kd.R_drew)); exact HO371.out) hb)
            have n2_ := Aside0.mk (blk_below (g := gb356) (o := .cells #[.slice A0_0 l0_0.length c0_0] 24 (0, 0)) (by (with_reducible repeat (first | refine blk_drewN ?_ _ | refine blk_drew ?_ | refine blk_alloc ?_ _)); exact BK356.out) hb)
            have n3_ := Aside0.mk (blk_below (g := gb366) (o := .cells #[.slice Ao22 t363.length co22] 30 (0, 0)) (by (with_reducible repeat (first | refine blk_drewN ?_ _ | refine blk_drew ?_ | refine blk_alloc ?_ _)); exact BK366.out) hb)
            have n4_ := Aside0.mk (below_step (by repeat (first | (with_reducible first | exact HB.out | apply below_alloc | apply pw_below_drewN | apply below_drew1 | refine below_set ?_ GE356.out | refine below_set ?_ GE366.out) | exact HB.out)) hb)
            clear HO_367000
            clear HO371
            clear BK356
            clear BK366
            clear HB
            have HO_367000 := n0_
            have HO371 := n1_
            have BK356 := n2_
            have BK366 := n3_
            have HB := n4_
            clear n0_ n1_ n2_ n3_ n4_
            (try clear hb)
            (try clear hb2)
            (try clear hk)
            (try clear hi)
            refine hK.out _ _ ⟨(blk_cell BK366.out 0).trans rfl, (blk_cell BK356.out 0).trans rfl⟩ (fun hHeld => ?_)
            clear hK K
            refine norm_ (a' := ?_) ?_ ?_
            rotate_left
            · show Act.put _ (some 38) _ = _
              simp only [Act.put, List.setIfInBounds_toArray, List.set_cons_zero, List.set_cons_succ, i64_w, i32_w]
              rfl
            refine pure_ (i := 4) (N := some 39) (v := ?_) (a' := ?_) #[true, true, true, true, true] rfl rfl (by kernel_rfl) (fun _ _ _ h => h) (Or.inl ⟨by rfl, ?_⟩) ?_ ?_
            rotate_left
            · intro w'
              go_simp
              with_reducible rfl
            rotate_left
            · simp only [Act.put, List.setIfInBounds_toArray, List.set_cons_zero, List.set_cons_succ, i64_w, i32_w]
              rfl
            refine done_ (by kernel_rfl) ?_
            try go_wp2
            go_ret
            exact ⟨by first | rfl | (simp [errW_none, errW_some] <;> rfl) | (simp [*, errW_none, errW_some] <;> rfl), by repeat (first | (with_reducible first | exact HB.out | apply below_alloc | apply pw_below_drewN | apply below_drew1 | refine below_set ?_ GE356.out | refine below_set ?_ GE366.out) | exact HB.out)⟩

end Go.Proofs.Ytkgaljocaapobaa.Pr

/- The statements' own helpers on lists of clues: the size, the copies and the comparison. -/
namespace Go.Proofs.Ytkgaljocaapobaa.M
open Go.RowKit Go.Proofs.YtkgaljocaapobaaW.PrintWords Go.Proofs.Ytkgaljocaapobaa.Pr
set_option linter.unusedVariables false
set_option linter.unusedSimpArgs false

abbrev Cl := S67
abbrev LCl := S72
def toCl (c : LCl) : Cl := ⟨c.f0, c.f1, c.f2⟩
theorem rd_cl (l : List Cl) (i : Nat) (h : i < l.length) : rd_T67 l (i : Int) = l[i] := by
  unfold rd_T67
  simp [List.getD_eq_getElem?_getD, List.getElem?_eq_getElem h]
theorem rd_lcl (l : List LCl) (i : Nat) (h : i < l.length) : rd_T72 l (i : Int) = l[i] := by
  unfold rd_T72
  simp [List.getD_eq_getElem?_getD, List.getElem?_eq_getElem h]

theorem szClS_small (l : List LCl) (n : Int) (hn : 0 ≤ n ∧ n ≤ 1048576) (h : (l.length : Int) ≤ n) : laws_szClueS.f l n = some (n - (l.length : Int)) := by
  unfold laws_szClueS.f
  rw [w64 (by omega) (by omega), if_neg (by omega)]
theorem szClS_big (l : List LCl) (n : Int) (hn : 0 ≤ n ∧ n ≤ 1048576) (h : n < (l.length : Int)) (hm : l.length ≤ maxLen) : laws_szClueS.f l n = some (-1) := by
  unfold maxLen at hm
  unfold laws_szClueS.f
  rw [w64 (by omega) (by omega), if_pos (by omega)]
theorem szP_small (l : List LCl) (h : l.length ≤ 1048576) : laws_szPuzzle.f l 1048576 = some (1048576 - (l.length : Int)) := by
  unfold laws_szPuzzle.f
  rw [szClS_small l _ (by omega) (by omega)]
  simp only [Option.bind_some]
  rw [if_neg (by omega)]
theorem szP_big (l : List LCl) (h : 1048576 < l.length) (hm : l.length ≤ maxLen) : laws_szPuzzle.f l 1048576 = some (-1) := by
  unfold laws_szPuzzle.f
  rw [szClS_big l _ (by omega) (by omega) hm]
  simp

theorem toClS_ev (l : List LCl) (hl : l.length ≤ 1048576) : Ev (fun k => laws_toClueS.f k l) (l.map toCl) := by
  unfold laws_toClueS.f
  refine Ev.pos (by omega) (Ev.pos (by simp; omega) ?_)
  rw [Int.toNat_natCast]
  refine Ev.scan0 (fun k i acc => laws_toClueS.l0 k l acc i) l (fun rest acc => l.map toCl) (fun i acc => acc = (l.take i).map toCl ++ List.replicate (l.length - i) z67)
    (fun acc hp => by
      refine Ev.step (fun k => by rw [laws_toClueS.l0]) ?_
      refine Ev.neg (by omega) (Ev.val ?_)
      rw [hp]
      simp)
    (fun i h acc hp => by
      have hr := rd_lcl l i h
      have hal : acc.length = l.length := by rw [hp]; simp; omega
      refine .inl ⟨acc.set i (toCl l[i]), ?_, rfl, fun r hr2 => ?_⟩
      · rw [hp, List.take_succ_eq_append_getElem h, List.map_append, List.append_assoc]
        have ht : ((l.take i).map toCl).length = i := by simp; omega
        rw [List.set_append_right i _ (by omega), ht, Nat.sub_self]
        congr 1
        obtain ⟨q, hq⟩ : ∃ q, l.length - i = q + 1 := ⟨l.length - i - 1, by omega⟩
        rw [hq, show l.length - (i + 1) = q by omega, List.replicate_succ, List.set_cons_zero]
        rfl
      · refine Ev.step (fun k => by rw [laws_toClueS.l0]) ?_
        refine Ev.pos (by omega) (Ev.pos (by omega) ?_)
        rw [hr]
        refine Ev.bindc (a := (l[i].f0, l[i].f1, l[i].f2)) rfl (Ev.pos (by omega) ?_)
        rw [w64 (x := (i : Int) + 1) (by omega) (by omega), Int.toNat_natCast]
        exact hr2)
    _ (by simp)
theorem toP_ev (l : List LCl) (hl : l.length ≤ 1048576) : Ev (fun k => laws_toPuzzle.f k l) (l.map toCl) := by
  unfold laws_toPuzzle.f
  exact Ev.bindk (toClS_ev l hl) (Ev.val rfl)

theorem eqClS_ev (l : List Cl) (hl : l.length ≤ 9223372036854775806) : Ev (fun k => laws_eqClueS.f k l l) true := by
  unfold laws_eqClueS.f
  refine Ev.pos rfl ?_
  have e := Ev.scan0 (fun k i (_ : Unit) => laws_eqClueS.l0 k l l i) l (fun _ _ => true) (fun _ _ => True)
    (fun acc _ => by
      refine Ev.step (fun k => by rw [laws_eqClueS.l0]) ?_
      exact Ev.neg (by omega) (Ev.now true))
    (fun i h acc _ => by
      refine .inl ⟨(), trivial, rfl, fun r hr2 => ?_⟩
      refine Ev.step (fun k => by rw [laws_eqClueS.l0]) ?_
      refine Ev.pos (by omega) (Ev.pos (by omega) (Ev.pos (by omega) ?_))
      refine Ev.bindc (a := true) (by unfold laws_eqClue.f; simp) (Ev.pos rfl ?_)
      rw [w64 (x := (i : Int) + 1) (by omega) (by omega)]
      exact hr2) () trivial
  exact e
theorem eqP_ev (l : List Cl) (hl : l.length ≤ 9223372036854775806) : Ev (fun k => laws_eqPuzzle.f k l l) true := by
  unfold laws_eqPuzzle.f
  exact Ev.bindk (eqClS_ev l hl) (Ev.pos rfl (Ev.val rfl))
end Go.Proofs.Ytkgaljocaapobaa.M

/- A puzzle of the reference is one of the program. -/
namespace Go.Proofs.Ytkgaljocaapobaa.M
open Go.RowKit Go.Proofs.YtkgaljocaapobaaW.PrintWords Go.Proofs.Ytkgaljocaapobaa.Pr
set_option linter.unusedVariables false
set_option linter.unusedSimpArgs false

/-- A puzzle: six clues at most, each of them one. -/
def puzB (l : List Cl) : Bool := decide (l.length ≤ 6) && !(l.any noCl)
theorem isPuzzle_eq (l : List Cl) : impl_IsPuzzle.f l = some (puzB l) := rfl

theorem pzGood_ev (l : List Cl) : Ev (fun k => spec_pzGood.f k l) (puzB l) := by
  unfold spec_pzGood.f puzB
  by_cases h6 : l.length ≤ 6
  · refine Ev.neg (by omega) ?_
    rw [decide_eq_true h6, Bool.true_and]
    refine Ev.scan0 (fun k i (_ : Unit) => spec_pzGood.l0 k l (l.length : Int) i) l (fun rest _ => !(rest.any noCl)) (fun _ _ => True)
      (fun acc _ => by
        refine Ev.step (fun k => by rw [spec_pzGood.l0]) ?_
        exact Ev.neg (by omega) (Ev.val (by simp)))
      (fun i h acc _ => by
        have hr := rd_cl l i h
        by_cases hc : clN l[i].f0 l[i].f1 l[i].f2 = true
        · refine .inl ⟨(), trivial, by rw [List.any_cons]; unfold noCl; rw [hc]; rfl, fun r hr2 => ?_⟩
          refine Ev.step (fun k => by rw [spec_pzGood.l0]) ?_
          refine Ev.pos (by omega) (Ev.pos (by omega) (Ev.pos (by omega) ?_))
          rw [hr]
          refine Ev.bindk (clue_ev _ _ _) (Ev.pos hc ?_)
          rw [w64 (x := (i : Int) + 1) (by omega) (by omega)]
          exact hr2
        · refine .inr ?_
          refine Ev.step (fun k => by rw [spec_pzGood.l0]) ?_
          refine Ev.pos (by omega) (Ev.pos (by omega) (Ev.pos (by omega) ?_))
          rw [hr]
          refine Ev.bindk (clue_ev _ _ _) (Ev.neg hc (Ev.val ?_))
          rw [List.any_cons]
          have : noCl l[i] = true := by unfold noCl; rw [Bool.eq_false_iff.mpr hc]; rfl
          rw [this]
          rfl) () trivial
  · refine Ev.pos (by omega) (Ev.val ?_)
    rw [decide_eq_false h6]
    rfl
end Go.Proofs.Ytkgaljocaapobaa.M

-- Written by a program for this claim.
namespace Go.Proofs.Ytkgaljocaapobaa.Pr
open Go.RowKit Go.Proofs.YtkgaljocaapobaaW.PrintWords Go.Proofs.YtkgaljocaapobaaW.PrintLast Go.Proofs.YtkgaljocaapobaaW.PrintMore
attribute [local go_sem] max2_int min2_int max_two min_two max_three min_three max_four min_four   -- for this text's walks alone
set_option linter.unusedVariables false
set_option linter.unusedSimpArgs false

/-! ### impl_Solutions: function 33 -/
def impl_Solutions.f (l0_0 : List (S67)) : Option ((List (S37)) × Bool) := (impl_IsPuzzle.f l0_0).bind fun t318 => (if t318 = true then ((impl_solutions.f l0_0).bind fun t319 => (some (t319, true))) else (some (([] : List (S37)), false)))
set_option maxHeartbeats 8000000 in
set_option maxRecDepth 100000 in
theorem impl_Solutions.calls (A0_0 : Option Addr) (c0_0 : Nat) (l0_0 : List (S67)) (r1 : List (S37)) (r2 : Bool) (w : World) (hr0_0 : Kd.C k67 w A0_0 l0_0.length l0_0) (hc0_0 : l0_0.length ≤ c0_0) (h : impl_Solutions.f l0_0 = some (r1, r2)) :
    Calls Try.prog 33 #[.agg #[.slice A0_0 l0_0.length c0_0]] w fun e w' => ∃ v0_ : Value, e = .returned (.tuple #[v0_, .bool r2]) ∧ Kd.R k37 37 w' w.heap.size (fun _ => True) v0_ r1 ∧ Below w.heap.size w w' := by
  have hu30 := Try.underlying30
  have HR0_0 := Aside0.mk hr0_0
  have HC0_0 := Aside0.mk hc0_0
  clear hr0_0 hc0_0
  have HB := Aside0.mk (Below.refl w.heap.size w)
  have H : ((impl_IsPuzzle.f l0_0).bind fun t318 => (if t318 = true then ((impl_solutions.f l0_0).bind fun t319 => (some (t319, true))) else (some (([] : List (S37)), false)))) = some (r1, r2) := h
  clear h
  replace H := Option.bind_eq_some_iff.mp H
  obtain ⟨t318, A20, H⟩ := H
  replace H : (if t318 = true then ((impl_solutions.f l0_0).bind fun t319 => (some (t319, true))) else (some (([] : List (S37)), false))) = some (r1, r2) := H
  have A2 := Aside0.mk A20
  clear A20
  by_cases c3 : t318 = true
  · subst c3
    have H1 : ((impl_solutions.f l0_0).bind fun t319 => (some (t319, true))) = some (r1, r2) := by rw [if_pos rfl] at H; exact H
    clear H
    have H := H1
    clear H1
    replace H := Option.bind_eq_some_iff.mp H
    obtain ⟨t319, A40, H⟩ := H
    replace H : (some (t319, true)) = some (r1, r2) := H
    have A4 := Aside0.mk A40
    clear A40
    simp only [Option.some.injEq, Prod.mk.injEq] at H
    obtain ⟨rfl, rfl⟩ := H
    go_enter Try.func33, Try.ntmps33
    go_wp2_with (first | ((with_reducible refine gate_dst (N := 1) rfl ?_); refine box_event ?hg (N := 1) ?hd (cs := #[.slice A0_0 l0_0.length c0_0]) (t := 30) ?hr ?_; (case hd => rfl); (case hg => rfl); (case hr => first | (go_simp; done) | (go_simp; rfl)); intro gb317 hg w5 hbox hb; have n0_ := Aside0.mk (below_step (by repeat (first | (with_reducible first | exact HB.out | apply below_alloc | apply pw_below_drewN | apply below_drew1) | exact HB.out)) hb); have n1_ := Aside0.mk (hbox); have n2_ := Aside0.mk ((by rw [hg]; exact (below_size (by repeat (first | (with_reducible first | exact HB.out | apply below_alloc | apply pw_below_drewN | apply below_drew1) | exact HB.out))) : w.heap.size ≤ gb317)); have n3_ := Aside0.mk ((by rw [hg]; exact (below_size (by repeat (first | (with_reducible first | exact HB.out | apply below_alloc | apply pw_below_drewN | apply below_drew1) | exact HB.out))) : w.heap.size ≤ gb317)); clear HB; have HB := n0_; have BK317 := n1_; have GW317 := n2_; have GE317 := n3_; clear n0_ n1_ n2_ n3_; clear hb hbox hg; have hcz6_0 : w5.cell? ⟨gb317, 0, none⟩ = some (.slice A0_0 l0_0.length c0_0) := (blk_cell BK317.out 0).trans rfl; have hfz6_0 := blk_frozen BK317.out 0) | ((with_reducible refine gate_callee (f := 46) rfl ?_); refine goesL_ (some 5) rfl rfl Try.func46 (by kernel_rfl) rfl #[.agg #[.slice A0_0 l0_0.length c0_0]] rfl (by (try simp only [List.map_toArray, List.map_cons, List.map_nil]); first | done | rfl | (simp only [List.length_drop, List.length_take]; rfl)) ?_; (with_reducible refine (impl_IsPuzzle.calls _ _ l0_0 true _ ?side1 ?side2 A2.out).mono ?_); (case side1 => repeat (first | exact (Kd.C_below HR0_0.out HB.out) | (with_reducible refine Kd.C_alloc ?_ _) | (with_reducible refine Kd.C_drewN ?_ _) | (with_reducible refine Kd.C_drew ?_))); (case side2 => exact HC0_0.out); rintro e w7 ⟨rfl, hb⟩; refine ⟨_, rfl, ?_⟩; have n0_ := Aside0.mk (blk_below (g := gb317) (o := .cells #[.slice A0_0 l0_0.length c0_0] 30 (0, 0)) (by (with_reducible repeat (first | refine blk_drewN ?_ _ | refine blk_drew ?_ | refine blk_alloc ?_ _)); exact BK317.out) hb); have n1_ := Aside0.mk (below_step (by repeat (first | (with_reducible first | exact HB.out | apply below_alloc | apply pw_below_drewN | apply below_drew1 | refine below_set ?_ GE317.out) | exact HB.out)) hb); clear BK317; clear HB; have BK317 := n0_; have HB := n1_; clear n0_ n1_; (try clear hb); (try clear hb2); (try clear hk); (try clear hi); have hcz8_0 : w7.cell? ⟨gb317, 0, none⟩ = some (.slice A0_0 l0_0.length c0_0) := (blk_cell BK317.out 0).trans rfl; have hfz8_0 := blk_frozen BK317.out 0) | ((with_reducible refine gate_callee (f := 50) rfl ?_); refine goesL_ (some 9) rfl rfl Try.func50 (by kernel_rfl) rfl #[.slice A0_0 l0_0.length c0_0] rfl (by (try simp only [List.map_toArray, List.map_cons, List.map_nil]); first | done | rfl | (simp only [List.length_drop, List.length_take]; rfl)) ?_; (with_reducible refine (impl_solutions.calls _ _ l0_0 t319 _ ?side1 ?side2 A4.out).mono ?_); (case side1 => repeat (first | exact (Kd.C_below HR0_0.out HB.out) | (with_reducible refine Kd.C_alloc ?_ _) | (with_reducible refine Kd.C_drewN ?_ _) | (with_reducible refine Kd.C_drew ?_))); (case side2 => exact HC0_0.out); rintro e w9 ⟨v320, rfl, ho0, hb⟩; refine ⟨_, rfl, ?_⟩; have n0_ := Aside0.mk (Kd.R_lower ho0 (below_size (by repeat (first | (with_reducible first | exact HB.out | apply below_alloc | apply pw_below_drewN | apply below_drew1 | refine below_set ?_ GE317.out) | exact HB.out)))); have n1_ := Aside0.mk (blk_below (g := gb317) (o := .cells #[.slice A0_0 l0_0.length c0_0] 30 (0, 0)) (by (with_reducible repeat (first | refine blk_drewN ?_ _ | refine blk_drew ?_ | refine blk_alloc ?_ _)); exact BK317.out) hb); have n2_ := Aside0.mk (below_step (by repeat (first | (with_reducible first | exact HB.out | apply below_alloc | apply pw_below_drewN | apply below_drew1 | refine below_set ?_ GE317.out) | exact HB.out)) hb); clear BK317; clear HB; have HO321 := n0_; have BK317 := n1_; have HB := n2_; clear n0_ n1_ n2_; (try clear hb); (try clear hb2); (try clear hk); (try clear hi); (try clear ho0)))
    go_ret2
    exact ⟨_, by first | rfl | (simp [errW_none, errW_some] <;> rfl) | (simp [*, errW_none, errW_some] <;> rfl), by (with_reducible repeat (first | apply Kd.R_alloc | apply Kd.R_drewN | apply Kd.R_drew)); exact HO321.out, by repeat (first | (with_reducible first | exact HB.out | apply below_alloc | apply pw_below_drewN | apply below_drew1 | refine below_set ?_ GE317.out) | exact HB.out)⟩
  · replace c3 := Bool.eq_false_iff.mpr c3
    subst c3
    have H1 : (some (([] : List (S37)), false)) = some (r1, r2) := by rw [if_neg (show ¬ (false = true) by decide)] at H; exact H
    clear H
    have H := H1
    clear H1
    simp only [Option.some.injEq, Prod.mk.injEq] at H
    obtain ⟨rfl, rfl⟩ := H
    go_enter Try.func33, Try.ntmps33
    go_wp2_with (first | ((with_reducible refine gate_dst (N := 1) rfl ?_); refine box_event ?hg (N := 1) ?hd (cs := #[.slice A0_0 l0_0.length c0_0]) (t := 30) ?hr ?_; (case hd => rfl); (case hg => rfl); (case hr => first | (go_simp; done) | (go_simp; rfl)); intro gb317 hg w10 hbox hb; have n0_ := Aside0.mk (below_step (by repeat (first | (with_reducible first | exact HB.out | apply below_alloc | apply pw_below_drewN | apply below_drew1) | exact HB.out)) hb); have n1_ := Aside0.mk (hbox); have n2_ := Aside0.mk ((by rw [hg]; exact (below_size (by repeat (first | (with_reducible first | exact HB.out | apply below_alloc | apply pw_below_drewN | apply below_drew1) | exact HB.out))) : w.heap.size ≤ gb317)); have n3_ := Aside0.mk ((by rw [hg]; exact (below_size (by repeat (first | (with_reducible first | exact HB.out | apply below_alloc | apply pw_below_drewN | apply below_drew1) | exact HB.out))) : w.heap.size ≤ gb317)); clear HB; have HB := n0_; have BK317 := n1_; have GW317 := n2_; have GE317 := n3_; clear n0_ n1_ n2_ n3_; clear hb hbox hg; have hcz11_0 : w10.cell? ⟨gb317, 0, none⟩ = some (.slice A0_0 l0_0.length c0_0) := (blk_cell BK317.out 0).trans rfl; have hfz11_0 := blk_frozen BK317.out 0) | ((with_reducible refine gate_callee (f := 46) rfl ?_); refine goesL_ (some 5) rfl rfl Try.func46 (by kernel_rfl) rfl #[.agg #[.slice A0_0 l0_0.length c0_0]] rfl (by (try simp only [List.map_toArray, List.map_cons, List.map_nil]); first | done | rfl | (simp only [List.length_drop, List.length_take]; rfl)) ?_; (with_reducible refine (impl_IsPuzzle.calls _ _ l0_0 false _ ?side1 ?side2 A2.out).mono ?_); (case side1 => repeat (first | exact (Kd.C_below HR0_0.out HB.out) | (with_reducible refine Kd.C_alloc ?_ _) | (with_reducible refine Kd.C_drewN ?_ _) | (with_reducible refine Kd.C_drew ?_))); (case side2 => exact HC0_0.out); rintro e w12 ⟨rfl, hb⟩; refine ⟨_, rfl, ?_⟩; have n0_ := Aside0.mk (blk_below (g := gb317) (o := .cells #[.slice A0_0 l0_0.length c0_0] 30 (0, 0)) (by (with_reducible repeat (first | refine blk_drewN ?_ _ | refine blk_drew ?_ | refine blk_alloc ?_ _)); exact BK317.out) hb); have n1_ := Aside0.mk (below_step (by repeat (first | (with_reducible first | exact HB.out | apply below_alloc | apply pw_below_drewN | apply below_drew1 | refine below_set ?_ GE317.out) | exact HB.out)) hb); clear BK317; clear HB; have BK317 := n0_; have HB := n1_; clear n0_ n1_; (try clear hb); (try clear hb2); (try clear hk); (try clear hi)))
    go_ret2
    exact ⟨_, by first | rfl | (simp [errW_none, errW_some] <;> rfl) | (simp [*, errW_none, errW_some] <;> rfl), by first | exact Kd.R_nil _ _ _ _ _ | exact Kd.N_nil _ _ _ _ _ | exact Kd.V_nil _ _ _ _ _ | exact Kd.Q_nil _ _ _ _ _ | exact Kd.S_nil _ _ _ _ _, by repeat (first | (with_reducible first | exact HB.out | apply below_alloc | apply pw_below_drewN | apply below_drew1 | refine below_set ?_ GE317.out) | exact HB.out)⟩

end Go.Proofs.Ytkgaljocaapobaa.Pr

/- The reference finds the same hidden stars as the program. -/
namespace Go.Proofs.Ytkgaljocaapobaa.M
open Go.RowKit Go.Proofs.YtkgaljocaapobaaW.PrintWords Go.Proofs.Ytkgaljocaapobaa.Pr
set_option linter.unusedVariables false
set_option linter.unusedSimpArgs false

abbrev St := S37
theorem pzAll_l2 (l : List Cl) (hl : l.length ≤ 1048576) (n s : Int) (hh : hidB n s = true) (acc : List St) (hacc : (acc.length : Int) ≤ 1000) (r : List St)
    (hr : Ev (fun k => spec_pzAll.l1 k l (if l.any (misF n s) = true then acc else acc ++ [⟨n, s⟩]) n (s + 1)) r) :
    Ev (fun k => spec_pzAll.l2 k l acc n s true l (l.length : Int) 0 n s) r := by
  have hh2 := hid_in hh
  have e := Ev.cps (fun k i (fl : Bool) => spec_pzAll.l2 k l acc n s fl l (l.length : Int) i n s)
    (fun k fl => spec_pzAll.l1 k l (if fl = true then acc ++ [⟨n, s⟩] else acc) n (s + 1)) l
    (fun rest fl => fl && !(rest.any (misF n s))) (fun _ _ => True)
    (fun fl r _ hr => by
      refine Ev.step (fun k => by rw [spec_pzAll.l2]) ?_
      refine Ev.neg (by omega) ?_
      rw [w64 (x := s + 1) (by omega) (by omega)]
      cases fl with
      | true => exact Ev.pos rfl (Ev.pos (by omega) (by simpa using hr))
      | false => exact Ev.neg (by simp) (by simpa using hr))
    (fun i hi fl _ => by
      have hrd := rd_cl l i hi
      cases fl with
      | true =>
        refine ⟨fitB l[i].f0 l[i].f1 l[i].f2 n s, trivial, ?_, fun r hr2 => ?_⟩
        · rw [List.any_cons]
          unfold misF
          cases fitB l[i].f0 l[i].f1 l[i].f2 n s <;> simp
        · refine Ev.step (fun k => by rw [spec_pzAll.l2]) ?_
          refine Ev.pos (by omega) (Ev.pos (by omega) (Ev.pos (by omega) (Ev.pos rfl ?_)))
          rw [hrd, w64 (x := (i : Int) + 1) (by omega) (by omega)]
          exact Ev.bindk (pzFits_ev _ _ _ n s hh) hr2
      | false =>
        refine ⟨false, trivial, by simp, fun r hr2 => ?_⟩
        refine Ev.step (fun k => by rw [spec_pzAll.l2]) ?_
        refine Ev.pos (by omega) (Ev.pos (by omega) (Ev.pos (by omega) (Ev.neg (by simp) ?_)))
        rw [w64 (x := (i : Int) + 1) (by omega) (by omega)]
        exact hr2)
    l.length 0 true r (by omega) trivial (by
      rw [List.drop_zero]
      cases h : l.any (misF n s) with
      | true => rw [h] at hr; simpa using hr
      | false => rw [h] at hr; simpa using hr)
  simpa using e
theorem pzAll_l1 (l : List Cl) (hl : l.length ≤ 1048576) (n : Int) (hn : 3 ≤ n ∧ n ≤ 14) (d : Nat)
    (ih : ∀ acc : List St, (acc.length : Int) ≤ 14 * (n + 1) → Ev (fun k => spec_pzAll.l0 k l acc (n + 1)) (acc ++ solsFrom l d (n + 1))) :
    ∀ (e : Nat) (s : Int) (acc : List St), s + e = n → 1 ≤ s → (acc.length : Int) ≤ 14 * n + s → Ev (fun k => spec_pzAll.l1 k l acc n s) (acc ++ (solsStep l n e s ++ solsFrom l d (n + 1)))
  | 0, s, acc, h1, h2, h3 => by
    refine Ev.step (fun k => by rw [spec_pzAll.l1]) ?_
    refine Ev.neg (by omega) ?_
    rw [w64 (x := n + 1) (by omega) (by omega)]
    have := ih acc (by omega)
    simpa [solsStep] using this
  | e + 1, s, acc, h1, h2, h3 => by
    refine Ev.step (fun k => by rw [spec_pzAll.l1]) ?_
    refine Ev.pos (by omega) ?_
    refine pzAll_l2 l hl n s (hid_of hn.1 hn.2 h2 (by omega)) acc (by omega) _ ?_
    rw [solsStep]
    by_cases h : l.any (misF n s) = true
    · rw [if_pos h, if_pos h]
      exact pzAll_l1 l hl n hn d ih e (s + 1) acc (by omega) (by omega) (by omega)
    · rw [if_neg h, if_neg h]
      have := pzAll_l1 l hl n hn d ih e (s + 1) (acc ++ [⟨n, s⟩]) (by omega) (by omega) (by simp; omega)
      simpa [List.append_assoc] using this
theorem pzAll_l0 (l : List Cl) (hl : l.length ≤ 1048576) : ∀ (d : Nat) (n : Int) (acc : List St), n + d = 15 → 3 ≤ n → (acc.length : Int) ≤ 14 * n → Ev (fun k => spec_pzAll.l0 k l acc n) (acc ++ solsFrom l d n)
  | 0, n, acc, h1, h2, h3 => by
    refine Ev.step (fun k => by rw [spec_pzAll.l0]) ?_
    refine Ev.neg (by omega) (Ev.val ?_)
    simp [solsFrom]
  | d + 1, n, acc, h1, h2, h3 => by
    refine Ev.step (fun k => by rw [spec_pzAll.l0]) ?_
    refine Ev.pos (by omega) ?_
    rw [solsFrom]
    exact pzAll_l1 l hl n ⟨h2, by omega⟩ d (fun acc' ha => pzAll_l0 l hl d (n + 1) acc' (by omega) (by omega) ha) (n - 1).toNat 1 acc (by omega) (by omega) (by omega)
theorem pzAll_ev (l : List Cl) (hl : l.length ≤ 1048576) : Ev (fun k => spec_pzAll.f k l) (sols l) := by
  unfold spec_pzAll.f sols
  have := pzAll_l0 l hl 12 3 [] (by omega) (by omega) (by simp)
  simpa using this
theorem solsStep_len (l : List Cl) (n : Int) : ∀ (e : Nat) (s : Int), (solsStep l n e s).length ≤ e
  | 0, _ => by simp [solsStep]
  | e + 1, s => by
    have := solsStep_len l n e (s + 1)
    unfold solsStep
    split
    · omega
    · simp; omega
theorem solsFrom_len (l : List Cl) : ∀ (d : Nat) (n : Int), n + d = 15 → 3 ≤ n → (solsFrom l d n).length ≤ d * 14
  | 0, _, _, _ => by simp [solsFrom]
  | d + 1, n, h1, h2 => by
    have i1 := solsFrom_len l d (n + 1) (by omega) (by omega)
    have i2 := solsStep_len l n (n - 1).toNat 1
    rw [solsFrom, List.length_append]
    omega
theorem sols_len (l : List Cl) : (sols l).length ≤ 168 := solsFrom_len l 12 3 (by omega) (by omega)

/-- What Solutions tells. -/
def solR (l : List Cl) : List St × Bool := if puzB l = true then (sols l, true) else ([], false)
theorem solutions_eq (l : List Cl) : impl_Solutions.f l = some (solR l) := by
  unfold impl_Solutions.f impl_solutions.f solR
  rw [isPuzzle_eq, Option.bind_some]
  by_cases h : puzB l = true
  · rw [if_pos h, if_pos h]; rfl
  · rw [if_neg h, if_neg h]
theorem solR_len (l : List Cl) : (solR l).1.length ≤ 168 := by
  unfold solR
  split
  · exact sols_len l
  · simp
end Go.Proofs.Ytkgaljocaapobaa.M

/- IsSolved: the plain law. -/
namespace Go.Proofs.Ytkgaljocaapobaa.Pure
open Go.RowKit Go.Proofs.Ytkgaljocaapobaa.Pr Go.Proofs.YtkgaljocaapobaaW.PrintWords Go.Proofs.YtkgaljocaapobaaW.PrintLast Go.Proofs.Ytkgaljocaapobaa.M

/-- What both tell. -/
def solvedR (l : List Cl) : Bool × Bool := if puzB l = true then (((sols l).length : Int) == 1, true) else (false, false)
theorem solved_spec (l : List Cl) (hl : l.length ≤ 1048576) : Ev (fun k => spec_IsSolved.f k l) (solvedR l) := by
  unfold spec_IsSolved.f spec_pzSolved.f solvedR
  refine Ev.bindk (pzGood_ev l) ?_
  by_cases h : puzB l = true
  · simp only [if_pos h]
    exact Ev.bindk (Ev.bindk (pzAll_ev l hl) (Ev.val rfl)) (Ev.val rfl)
  · simp only [if_neg h]
    exact Ev.val rfl
theorem solved_impl (l : List Cl) : impl_IsSolved.f l = some (solvedR l) := by
  unfold impl_IsSolved.f impl_isSolved.f impl_solutions.f solvedR
  rw [isPuzzle_eq, Option.bind_some]
  by_cases h : puzB l = true
  · rw [if_pos h, if_pos h]; rfl
  · rw [if_neg h, if_neg h]
theorem FnExactIsSolved : ∀ (l0_0 : List S72), l0_0.length ≤ maxLen → (∀ x ∈ l0_0, (Lit.int .i64 x.f0).wf = true ∧ (Lit.int .i64 x.f1).wf = true ∧ (Lit.int .i64 x.f2).wf = true) → ∃ k, laws_FnExactIsSolved.f k l0_0 = some true := by
  intro l hm _
  suffices h : Ev (fun k => laws_FnExactIsSolved.f k l) true by
    obtain ⟨k, hk⟩ := h
    exact ⟨k, hk k (Nat.le_refl k)⟩
  unfold laws_FnExactIsSolved.f
  by_cases hb : l.length ≤ 1048576
  · have hml : (l.map toCl).length ≤ 1048576 := by simpa using hb
    refine Ev.bindc (szP_small l hb) (Ev.neg (by omega) (Ev.bindk (toP_ev l hb) (Ev.bindk (solved_spec _ hml) (Ev.bindk (toP_ev l hb) (Ev.bindc (solved_impl _) (Ev.neg (by simp) (Ev.step (fun k => by rw [laws_FnExactIsSolved.j0]) ?_)))))))
    exact Ev.neg (by simp) (Ev.bindk (toP_ev l hb) (Ev.bindk (eqP_ev _ (by omega)) (Ev.pos rfl (Ev.val rfl))))
  · exact Ev.bindc (szP_big l (by omega) hm) (Ev.pos (by omega) (Ev.val rfl))
end Go.Proofs.Ytkgaljocaapobaa.Pure

/- Shared steps of the rows: an argument that is a slice of structs of whole numbers, read as a list of lists of numbers. -/
namespace Go.Proofs.Ytkgaljocaapobaa.RowA
open Go.ChangeShapes Go.WideShapes Go.Deep Go.RowKit Go.Proofs.YtkgaljocaapobaaW.PrintWords
section
variable {H : Type} {enc : TypeId × Value → H} {P : Program} {w : World} {base : Nat} {spare : Nat → Bool} {held : Bool}

/-- A slice of structs whose fields are one cell each: nil, or an address with, for each element and each field, the cell and the field's own reading. -/
theorem open_cells {t e : TypeId} {fs : Array Field} {fuel : Nat} {cs : List Value} {x : DataW H × List MemPlace} (ht : P.underlying t = some (.slice e)) (he : P.underlying e = some (.struct fs))
    (hone : oneCellFields P fs = true) (hC : P.cellsOf e = fs.size) (h : DataW.trod enc P w base spare held fuel t cs = some x) :
    cs = [.slice none 0 0] ∨
    ∃ (a : Addr) (len cap : Nat), cs = [.slice (some a) len cap] ∧ len ≤ cap ∧ cap ≤ maxLen ∧
      ∀ i, i < len → ∃ n, ∀ (j : Nat) (f : Field), fs[j]? = some f → ∃ (v : Value) (y : DataW H × List MemPlace), w.cell? (a.add (i * fs.size + j)) = some v ∧ DataW.trod enc P w base spare held n f.type [v] = some y := by
  rcases open_slice ht h with h0 | ⟨a, len, cap, m, n, D, Pl, hcs, hb, hl, hm, hmm, hx, hi⟩
  · exact .inl h0.1
  · refine .inr ⟨a, len, cap, hcs, hl, hm, fun i hil => ?_⟩
    have him : i < m := by
      rw [hmm]
      split
      · omega
      · exact hil
    obtain ⟨cs', hc, ht'⟩ := hi i him
    rw [hC] at hc
    obtain ⟨ys, n', hn', hy, hlen, hyl, hf⟩ := DataW.trod_struct he ht'
    obtain ⟨_, hcl, hat⟩ := World.cells?_some hc
    refine ⟨n', fun j f hj => ?_⟩
    obtain ⟨ho, hk⟩ := hone_of hone j f hj
    have hjl : j < fs.size := (Array.getElem?_eq_some_iff.1 hj).1
    have hcell := hat j hjl
    have hv : cs'[j]? = some (cs'[j]'(by omega)) := List.getElem?_eq_getElem (by omega)
    have h1 := hf j f hj
    rw [ho, hk] at h1
    have hone' : (cs'.drop j).take 1 = [cs'[j]'(by omega)] := by
      rw [List.drop_eq_getElem_cons (by omega)]
      rfl
    rw [hone'] at h1
    have hys : ys[j]? = some (ys[j]'(by omega)) := List.getElem?_eq_getElem (by omega)
    refine ⟨_, _, ?_, h1.trans hys⟩
    rw [← Go.Deep.add_add, hcell, hv]

/-- One whole number's reading. -/
theorem read_i64 {t : TypeId} {n : Nat} {v : Value} {y : DataW H × List MemPlace} (hu : P.underlying t = some (.int .i64)) (h : DataW.trod enc P w base spare held n t [v] = some y) :
    ∃ z : Int, v = .int .i64 z ∧ (Lit.int .i64 z).wf = true := by
  obtain ⟨z, hz, _, hw⟩ := DataW.trod_int hu h
  simp at hz
  exact ⟨z, hz, hw⟩

/-- A slice of structs of m whole numbers, as it is handed over: the numbers by element and field. -/
theorem open_nums {t e : TypeId} {fs : Array Field} {a : Option Addr} {len cap : Nat} {d : DataW H} {ps : List MemPlace} (ht : P.underlying t = some (.slice e)) (he : P.underlying e = some (.struct fs))
    (hone : oneCellFields P fs = true) (hC : P.cellsOf e = fs.size) (hi : ∀ (j : Nat) (f : Field), fs[j]? = some f → P.underlying f.type = some (.int .i64))
    (h : DataW.Trod enc P w base spare held t (.slice a len cap) d ps) :
    len ≤ cap ∧ len ≤ maxLen ∧ ∃ z : Nat → Nat → Int, (∀ i j, i < len → j < fs.size → (Lit.int .i64 (z i j)).wf = true) ∧
      (0 < len → ∃ ad, a = some ad ∧ ∀ i j, i < len → j < fs.size → w.cell? (ad.add (i * fs.size + j)) = some (.int .i64 (z i j))) := by
  obtain ⟨fuel, hf⟩ := h
  rcases open_cells ht he hone hC hf with hcs | ⟨x, l, c, hcs, hl, hm, hcell⟩
  · simp [Value.cells] at hcs
    obtain ⟨rfl, rfl, rfl⟩ := hcs
    exact ⟨Nat.le_refl _, Nat.zero_le _, fun _ _ => 0, fun i j h => absurd h (Nat.not_lt_zero _), fun h => absurd h (Nat.not_lt_zero _)⟩
  · simp [Value.cells] at hcs
    obtain ⟨rfl, rfl, rfl⟩ := hcs
    refine ⟨hl, Nat.le_trans hl hm, ?_⟩
    have hz : ∀ i j, ∃ z : Int, i < len → j < fs.size → w.cell? (x.add (i * fs.size + j)) = some (.int .i64 z) ∧ (Lit.int .i64 z).wf = true := by
      intro i j
      by_cases h1 : i < len
      · by_cases h2 : j < fs.size
        · obtain ⟨n, hn⟩ := hcell i h1
          obtain ⟨v, y, hv, hy⟩ := hn j fs[j] (Array.getElem?_eq_getElem h2)
          obtain ⟨z, rfl, hw⟩ := read_i64 (hi j fs[j] (Array.getElem?_eq_getElem h2)) hy
          exact ⟨z, fun _ _ => ⟨hv, hw⟩⟩
        · exact ⟨0, fun _ h => absurd h h2⟩
      · exact ⟨0, fun h _ => absurd h h1⟩
    exact ⟨fun i j => (hz i j).choose, fun i j h1 h2 => ((hz i j).choose_spec h1 h2).2, fun _ => ⟨x, rfl, fun i j h1 h2 => ((hz i j).choose_spec h1 h2).1⟩⟩
/-- The same, of one reading. -/
theorem open_nums_at {t e : TypeId} {fs : Array Field} {a : Option Addr} {len cap fuel : Nat} {x : DataW H × List MemPlace} (ht : P.underlying t = some (.slice e)) (he : P.underlying e = some (.struct fs))
    (hone : oneCellFields P fs = true) (hC : P.cellsOf e = fs.size) (hi : ∀ (j : Nat) (f : Field), fs[j]? = some f → P.underlying f.type = some (.int .i64))
    (hf : DataW.trod enc P w base spare held fuel t [.slice a len cap] = some x) :
    len ≤ cap ∧ len ≤ maxLen ∧ ∃ z : Nat → Nat → Int, (∀ i j, i < len → j < fs.size → (Lit.int .i64 (z i j)).wf = true) ∧
      (0 < len → ∃ ad, a = some ad ∧ ∀ i j, i < len → j < fs.size → w.cell? (ad.add (i * fs.size + j)) = some (.int .i64 (z i j))) :=
  open_nums (d := x.1) (ps := x.2) ht he hone hC hi ⟨fuel, by simpa [Value.cells] using hf⟩

/-- A struct of one slice. -/
theorem open_one {r : Reach} {b0 : Nat} {t e : TypeId} {f0 : Field} {v : Value} {d : DataW H} {p : List MemPlace} (hs : P.underlying t = some (.struct #[f0])) (hf0 : P.underlying f0.type = some (.slice e)) (hone : oneCellFields P #[f0] = true) (hC : P.cellsOf t = 1)
    (hv : Value.okWide P w r b0 t v) (h : DataW.Trod enc P w base spare held t v d p) :
    ∃ (a : Option Addr) (len cap : Nat) (y : DataW H × List MemPlace) (n : Nat), v = .agg #[.slice a len cap] ∧ DataW.trod enc P w base spare held n f0.type [.slice a len cap] = some y := by
  obtain ⟨cs, rfl, hsz⟩ := okWide_struct hs hv
  rw [hC] at hsz
  obtain ⟨c0, rfl⟩ : ∃ c, cs = #[c] := Array.size_eq_one_iff.mp hsz
  obtain ⟨fuel, hf⟩ := h
  obtain ⟨ys, n', hn', hy, hlen, hyl, hg⟩ := DataW.trod_struct hs hf
  obtain ⟨o0, k0⟩ := hone_of hone 0 f0 rfl
  have h1 := hg 0 f0 rfl
  rw [o0, k0] at h1
  have hv1 : (List.drop 0 (Value.agg #[c0]).cells.toList).take 1 = [c0] := rfl
  have h2 : DataW.trod enc P w base spare held n' f0.type [c0] = ys[0]? := h1
  have hys : ys[0]? = some (ys[0]'(by rw [hyl]; exact Nat.zero_lt_one)) := List.getElem?_eq_getElem _
  rw [hys] at h2
  rcases open_slice hf0 h2 with h0 | ⟨a, len, cap, m, n, D, Pl, hcs, _⟩
  · have := h0.1
    simp at this
    subst this
    exact ⟨none, 0, 0, _, n', rfl, h2⟩
  · simp at hcs
    subst hcs
    exact ⟨some a, len, cap, _, n', rfl, h2⟩
end
end Go.Proofs.Ytkgaljocaapobaa.RowA

/- The row of the law FnExactIsSolved: The program's IsSolved returns what the reference's returns, for all arguments. -/
namespace Go.Proofs.Ytkgaljocaapobaa.fnExactIsSolved
open Go.ChangeShapes Go.WideShapes Go.ChangeAt Go.RowKit Go.Proofs.Ytkgaljocaapobaa.Pr Go.Proofs.YtkgaljocaapobaaW.PrintWords
open Go.ChangeMaps (open_string shut_string)
set_option linter.unusedVariables false
theorem own : ownKnob Try.prog.godebug = none := by kernel_rfl
theorem laidOut : laidOutB Try.prog = true := by kernel_rfl
theorem rows72 {W : World} {a : Option Addr} {len cap : Nat} {z : Nat → Nat → Int} (hm : len ≤ maxLen) (hz : 0 < len → ∃ ad, a = some ad ∧ ∀ i j, i < len → j < 3 → W.cell? (ad.add (i * 3 + j)) = some (.int .i64 (z i j)))
    (hw : ∀ i j, i < len → j < 3 → (Lit.int .i64 (z i j)).wf = true) : ∃ l : List S72, l.length = len ∧ Kd.C k72 W a l.length l ∧ ∀ x ∈ l, (Lit.int .i64 x.f0).wf = true ∧ (Lit.int .i64 x.f1).wf = true ∧ (Lit.int .i64 x.f2).wf = true := by
  have hl : ((List.range len).map fun i => (⟨z i 0, z i 1, z i 2⟩ : S72)).length = len := by simp
  refine ⟨(List.range len).map fun i => (⟨z i 0, z i 1, z i 2⟩ : S72), hl, ⟨rfl, by rw [hl]; unfold maxLen at hm; omega, fun hn => ?_⟩, fun x hx => ?_⟩
  · obtain ⟨ad, e, hc⟩ := hz (by rw [hl] at hn; exact hn)
    refine ⟨ad, e, fun j p hj => ?_⟩
    have hjl : j < len := by have := (List.getElem?_eq_some_iff.1 hj).1; rw [hl] at this; exact this
    have hp : p = (⟨z j 0, z j 1, z j 2⟩ : S72) := by
      rw [List.getElem?_map, List.getElem?_range hjl] at hj
      exact (Option.some.inj hj).symm
    subst hp
    refine ⟨[.int .i64 (z j 0), .int .i64 (z j 1), .int .i64 (z j 2)], rfl, k72_mk W (⟨z j 0, z j 1, z j 2⟩ : S72), fun i u hi => ?_⟩
    have hi2 : i < 3 := by have := (List.getElem?_eq_some_iff.1 hi).1; exact this
    have hcell := hc j i hjl hi2
    match i, hi2, hi with
    | 0, _, hi => (obtain rfl := Option.some.inj hi; exact hcell)
    | 1, _, hi => (obtain rfl := Option.some.inj hi; exact hcell)
    | 2, _, hi => (obtain rfl := Option.some.inj hi; exact hcell)
  · obtain ⟨i, hi, rfl⟩ := List.mem_map.1 hx
    have hil := List.mem_range.1 hi
    exact ⟨hw i 0 hil (by decide), hw i 1 hil (by decide), hw i 2 hil (by decide)⟩
set_option maxRecDepth 100000 in
theorem lifted (os : Os) (started : os.Started) (H : Type) (enc : TypeId × Value → H) :
    ReturnsInHanded {} Try.checked os 3 .any (Rows.fnExactIsSolvedSpec.pre6 enc Try.prog Try.f3 Rows.fnExactIsSolvedRow.domain false) (Rows.fnExactIsSolvedSpec.post enc Try.prog Try.f3 false true false false) := by
  refine returnsInHanded_of_change_sized (C := Try.checked) own started (by kernel_rfl) Try.func3
    (ChangeSpec.witness6 (enc := enc) (C := Try.checked) false ⟨#[], #[.agg #[.slice none 0 0]], []⟩ 8 (by kernel_rfl) (by kernel_rfl) (by kernel_rfl) (by kernel_rfl)) ?_
  intro W base args ds gs before hval0 hW hcnd hsz0 _
  have hsz : (DataW.weightsEach Try.prog (Try.f3.params.toList ++ Rows.fnExactIsSolvedSpec.plain.varTypes Try.prog) (ds ++ gs)).all (· ≤ reachBytes) = true := hsz0
  have hval : ∀ (j : Nat) t v, Try.f3.params[j]? = some t → args[j]? = some v → Value.okWide Try.prog W .any base t v := hval0
  have hW' := hW
  obtain ⟨p, q, hA0, hV, rfl, hfz, hnd⟩ := hW
  have hA : DataW.TrodAll enc Try.prog W 0 (fun _ => true) true Try.f3.params.toList args.toList ds p := hA0
  rw [Try.params3] at hA hval hsz
  obtain ⟨v0, vs0, d0, ds0, p0, q0, hargs, rfl, rfl, h0, r0⟩ := trodAll_cons hA
  obtain ⟨rfl, rfl, rfl⟩ := trodAll_nil r0
  obtain rfl : args = #[v0] := by cases args; simp_all
  obtain ⟨rfl, rfl⟩ := trodVars_none hV
  have lt0 : ∀ x ∈ p0, x.block < W.heap.size := by obtain ⟨m, hm⟩ := h0; exact DataW.trod_lt m _ _ _ hm
  have hh0 := h0
  obtain ⟨b0, len0, cap0, y0, n0, rfl, g0⟩ := RowA.open_one Try.underlying24 Try.underlying22 (by kernel_rfl) (by kernel_rfl) (hval 0 24 v0 rfl rfl) h0
  obtain ⟨hl0, hm0, z0, hw0, hz0⟩ := RowA.open_nums_at Try.underlying22 Try.underlying72 (by kernel_rfl) (by kernel_rfl) (fun j f hj => by first | (match j, hj with | 0, hj => (cases hj; exact Try.underlying3) | 1, hj => (cases hj; exact Try.underlying3) | 2, hj => (cases hj; exact Try.underlying3) | j + 3, hj => simp at hj) | skip) g0
  obtain ⟨l0, hn0, hr0, hf0⟩ := rows72 (cap := cap0) hm0 hz0 hw0
  subst hn0
  clear hA0 hval0 hsz0 hsz
  obtain ⟨k, hk⟩ := Pure.FnExactIsSolved l0 hm0 hf0
  refine (laws_FnExactIsSolved.calls k _ _ l0 true W hr0 hl0 hk).mono fun e W' he => ?_
  obtain ⟨he, bel0⟩ := he
  have bel : Below W.heap.size W W' := bel0
  subst he
  exact ⟨_, rfl, _, _, _, [], _, [], hW', trodAll_mk1 (shut_bool Try.underlying4 _), (trodAll_cons_mk (Below.trod laidOut (by kernel_rfl) (of_decide_eq_true (by kernel_rfl)) hh0 bel lt0) trodAll_mk0), rfl, bel.frame _, fun h => by cases h⟩
theorem over : Rows.fnExactIsSolvedRow.holds Try.pinned (OpenSpec.ofChange Rows.fnExactIsSolvedSpec) :=
  OpenClaim.holds_of_wide 3 Try.f3 rfl rfl rfl rfl rfl rfl rfl ⟨rfl, rfl, rfl, rfl, rfl⟩ rfl rfl rfl rfl rfl (by kernel_rfl) Try.func3 (by kernel_rfl)
    (of_decide_eq_true (by kernel_rfl)) (by unfold Func.isWrapper; first | (rw [if_pos (by decide +kernel)]; kernel_rfl) | (rw [if_neg (by decide +kernel)]; exact ⟨rfl, rfl⟩))
    (fun os started H enc _ => lifted os started H enc)
theorem proved : Rows.FnExactIsSolvedSaid := over
end Go.Proofs.Ytkgaljocaapobaa.fnExactIsSolved
namespace Go.Proofs.Ytkgaljocaapobaa
/-- The row, under a short name, for the claim. -/
theorem fnExactIsSolved_holds : Rows.FnExactIsSolvedSaid := fnExactIsSolved.proved
#print axioms fnExactIsSolved_holds
end Go.Proofs.Ytkgaljocaapobaa
