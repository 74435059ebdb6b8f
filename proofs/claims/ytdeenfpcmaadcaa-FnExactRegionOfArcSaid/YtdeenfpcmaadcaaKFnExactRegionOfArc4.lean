/- The program's RegionOfArc returns what the reference's returns, for all arguments. (Part 5 of 6.) -/
import Derived.Deep.CutRange
import Derived.Shelf.Abstract
import Derived.Test.YtdeenfpcmaadcaaKFnExactRegionOfArc0
import Derived.Test.YtdeenfpcmaadcaaKFnExactRegionOfArc1
import Derived.Test.YtdeenfpcmaadcaaKFnExactRegionOfArc2
import Derived.Test.YtdeenfpcmaadcaaKFnExactRegionOfArc3
-- Written by a program for this claim.
namespace Go.Proofs.Ytdeenfpcmaadcaa.Pr
open Go.RowKit Go.Proofs.YtdeenfpcmaadcaaW.PrintWords Go.Proofs.YtdeenfpcmaadcaaW.PrintLast Go.Proofs.YtdeenfpcmaadcaaW.PrintMore
attribute [local go_sem] max2_int min2_int max_two min_two max_three min_three max_four min_four   -- for this text's walks alone
set_option linter.unusedVariables false
set_option linter.unusedSimpArgs false

attribute [local go_sem high] eqA47
/-! ### impl_regionInside: function 63 -/
mutual
def impl_regionInside.j0 : Nat → List (S47) → Bool → Int → Int → List Int → List (S47) → List Int → Option (List Int × (List (S47)) × List Int)
  | 0, _, _, _, _, _, _, _ => none
  | k + 1, x0, x2, x115000, x115001, x120000, x120001, x120002 => impl_regionInside.l0 k x0 x2 x115000 x115000 x115001 x120000 x120001 x120002
def impl_regionInside.l0 : Nat → List (S47) → Bool → Int → Int → Int → List Int → List (S47) → List Int → Option (List Int × (List (S47)) × List Int)
  | 0, _, _, _, _, _, _, _, _ => none
  | k + 1, x0, x2, x8, x115000, x115001, x120000, x120001, x120002 => if x8 < x115001 then (impl_regionInside.l1 k x0 x2 x8 x8 x0 (x0.length : Int) 0 x115000 x115001 x120000 x120001 x120002) else (some (x120000, x120001, x120002))
def impl_regionInside.l1 : Nat → List (S47) → Bool → Int → Int → List (S47) → Int → Int → Int → Int → List Int → List (S47) → List Int → Option (List Int × (List (S47)) × List Int)
  | 0, _, _, _, _, _, _, _, _, _, _, _, _ => none
  | k + 1, x0, x2, x8, x9, x37, x38, x39, x115000, x115001, x120000, x120001, x120002 => if x39 < x38 then (if 0 ≤ x39 then (if x39 < (x37.length : Int) then (if ((rd_T47 x37 x39).f0) = x8 then (if ((rd_T47 x37 x39).f1) ≤ x115001 then (if ((rd_T47 x37 x39).f1) > x9 then (if x2 = true then (if ((((rd_T47 x37 x39).f0) == x115000 && (((rd_T47 x37 x39).f1) == x115001)) = true) then (impl_regionInside.l1 k x0 x2 x8 x9 x37 x38 (wrap64 (x39 + 1)) x115000 x115001 x120000 x120001 x120002) else (impl_regionInside.l1 k x0 x2 x8 ((rd_T47 x37 x39).f1) x37 x38 (wrap64 (x39 + 1)) x115000 x115001 x120000 x120001 x120002)) else (impl_regionInside.l1 k x0 x2 x8 ((rd_T47 x37 x39).f1) x37 x38 (wrap64 (x39 + 1)) x115000 x115001 x120000 x120001 x120002)) else (impl_regionInside.l1 k x0 x2 x8 x9 x37 x38 (wrap64 (x39 + 1)) x115000 x115001 x120000 x120001 x120002)) else (impl_regionInside.l1 k x0 x2 x8 x9 x37 x38 (wrap64 (x39 + 1)) x115000 x115001 x120000 x120001 x120002)) else (impl_regionInside.l1 k x0 x2 x8 x9 x37 x38 (wrap64 (x39 + 1)) x115000 x115001 x120000 x120001 x120002)) else (none)) else (none)) else (if x9 > x8 then (if x120001.length < 8796093022208 then (if x120000.length < 17592186044416 then (impl_regionInside.l0 k x0 x2 x9 x115000 x115001 (x120000 ++ [x9]) (x120001 ++ [(⟨x8, x9⟩ : S47)]) x120002) else (none)) else (none)) else (if x120002.length < 17592186044416 then (if x120000.length < 17592186044416 then (impl_regionInside.l0 k x0 x2 (wrap64 (x8 + 1)) x115000 x115001 (x120000 ++ [wrap64 (x8 + 1)]) x120001 (x120002 ++ [x8])) else (none)) else (none)))
end
def impl_regionInside.f (k : Nat) (l0 : List (S47)) (a1_0 : Int) (a1_1 : Int) (a2 : Bool) : Option (List Int × (List (S47)) × List Int) := (some (([a1_0] : List Int) : List Int)).bind fun y116 => (if a2 = true then (if ([] : List (S47)).length < 8796093022208 then (impl_regionInside.j0 k l0 a2 a1_0 a1_1 y116 (([] : List (S47)) ++ [(⟨a1_0, a1_1⟩ : S47)]) ([] : List Int)) else (none)) else (if ([] : List Int).length < 17592186044416 then (impl_regionInside.j0 k l0 a2 a1_0 a1_1 y116 ([] : List (S47)) (([] : List Int) ++ [a1_1])) else (none)))
theorem impl_regionInside.mono_l : ∀ k, (∀ y0 y1 y2 y3 y4 y5 y6, LeO (impl_regionInside.j0 k y0 y1 y2 y3 y4 y5 y6) (impl_regionInside.j0 (k + 1) y0 y1 y2 y3 y4 y5 y6)) ∧ (∀ y0 y1 y2 y3 y4 y5 y6 y7, LeO (impl_regionInside.l0 k y0 y1 y2 y3 y4 y5 y6 y7) (impl_regionInside.l0 (k + 1) y0 y1 y2 y3 y4 y5 y6 y7)) ∧ (∀ y0 y1 y2 y3 y4 y5 y6 y7 y8 y9 y10 y11, LeO (impl_regionInside.l1 k y0 y1 y2 y3 y4 y5 y6 y7 y8 y9 y10 y11) (impl_regionInside.l1 (k + 1) y0 y1 y2 y3 y4 y5 y6 y7 y8 y9 y10 y11))
  | 0 => ⟨fun _ _ _ _ _ _ _ r h => by simp [impl_regionInside.j0] at h, fun _ _ _ _ _ _ _ _ r h => by simp [impl_regionInside.l0] at h, fun _ _ _ _ _ _ _ _ _ _ _ _ r h => by simp [impl_regionInside.l1] at h⟩
  | k + 1 => by
    obtain ⟨ih0, ih1, ih2⟩ := impl_regionInside.mono_l k
    refine ⟨?_, ?_, ?_⟩
    · intro y0 y1 y2 y3 y4 y5 y6
      unfold impl_regionInside.j0
      repeat' first
      | (with_reducible exact ih0 _ _ _ _ _ _ _)
      | (with_reducible exact ih1 _ _ _ _ _ _ _ _)
      | (with_reducible exact ih2 _ _ _ _ _ _ _ _ _ _ _ _)
      | (with_reducible exact LeO.refl _)
      | (with_reducible exact LeO.none _)
      | (with_reducible refine LeO.ite ?_ ?_)
      | (with_reducible refine LeO.bind ?_ (fun _ => ?_))
      | exact ih0 _ _ _ _ _ _ _
      | exact ih1 _ _ _ _ _ _ _ _
      | exact ih2 _ _ _ _ _ _ _ _ _ _ _ _
      | exact LeO.none _
      | refine LeO.ite ?_ ?_
      | refine LeO.bind ?_ (fun _ => ?_)
    · intro y0 y1 y2 y3 y4 y5 y6 y7
      unfold impl_regionInside.l0
      repeat' first
      | (with_reducible exact ih0 _ _ _ _ _ _ _)
      | (with_reducible exact ih1 _ _ _ _ _ _ _ _)
      | (with_reducible exact ih2 _ _ _ _ _ _ _ _ _ _ _ _)
      | (with_reducible exact LeO.refl _)
      | (with_reducible exact LeO.none _)
      | (with_reducible refine LeO.ite ?_ ?_)
      | (with_reducible refine LeO.bind ?_ (fun _ => ?_))
      | exact ih0 _ _ _ _ _ _ _
      | exact ih1 _ _ _ _ _ _ _ _
      | exact ih2 _ _ _ _ _ _ _ _ _ _ _ _
      | exact LeO.none _
      | refine LeO.ite ?_ ?_
      | refine LeO.bind ?_ (fun _ => ?_)
    · intro y0 y1 y2 y3 y4 y5 y6 y7 y8 y9 y10 y11
      unfold impl_regionInside.l1
      repeat' first
      | (with_reducible exact ih0 _ _ _ _ _ _ _)
      | (with_reducible exact ih1 _ _ _ _ _ _ _ _)
      | (with_reducible exact ih2 _ _ _ _ _ _ _ _ _ _ _ _)
      | (with_reducible exact LeO.refl _)
      | (with_reducible exact LeO.none _)
      | (with_reducible refine LeO.ite ?_ ?_)
      | (with_reducible refine LeO.bind ?_ (fun _ => ?_))
      | exact ih0 _ _ _ _ _ _ _
      | exact ih1 _ _ _ _ _ _ _ _
      | exact ih2 _ _ _ _ _ _ _ _ _ _ _ _
      | exact LeO.none _
      | refine LeO.ite ?_ ?_
      | refine LeO.bind ?_ (fun _ => ?_)
theorem impl_regionInside.mono : ∀ a0 a1 a2 a3 k, LeO (impl_regionInside.f k a0 a1 a2 a3) (impl_regionInside.f (k + 1) a0 a1 a2 a3) := by
  intro a0 a1 a2 a3 k
  obtain ⟨ih0, ih1, ih2⟩ := impl_regionInside.mono_l k
  unfold impl_regionInside.f
  repeat' first
      | (with_reducible exact ih0 _ _ _ _ _ _ _)
      | (with_reducible exact ih1 _ _ _ _ _ _ _ _)
      | (with_reducible exact ih2 _ _ _ _ _ _ _ _ _ _ _ _)
      | (with_reducible exact LeO.refl _)
      | (with_reducible exact LeO.none _)
      | (with_reducible refine LeO.ite ?_ ?_)
      | (with_reducible refine LeO.bind ?_ (fun _ => ?_))
      | exact ih0 _ _ _ _ _ _ _
      | exact ih1 _ _ _ _ _ _ _ _
      | exact ih2 _ _ _ _ _ _ _ _ _ _ _ _
      | exact LeO.none _
      | refine LeO.ite ?_ ?_
      | refine LeO.bind ?_ (fun _ => ?_)
set_option maxHeartbeats 8000000 in
set_option maxRecDepth 100000 in
theorem impl_regionInside.calls (k : Nat) (A0 : Option Addr) (c0 : Nat) (l0 : List (S47)) (a1_0 : Int) (a1_1 : Int) (a2 : Bool) (r1 : List Int) (r2 : List (S47)) (r3 : List Int) (w : World) (hr0 : Kd.C k47 w A0 l0.length l0) (hc0 : l0.length ≤ c0) (h : impl_regionInside.f k l0 a1_0 a1_1 a2 = some (r1, r2, r3)) :
    Calls Try.prog 63 #[.slice A0 l0.length c0, .agg #[.int .i64 a1_0, .int .i64 a1_1], .bool a2] w fun e w' => ∃ v0_ v1_ v2_ : Value, e = .returned (.agg #[v0_, v1_, v2_]) ∧ Kd.R (Kd.int .i64) 3 w' w.heap.size (fun k_ => some k_ ≠ (v2_ : Value).ownBlock) v0_ r1 ∧ Kd.R k47 47 w' w.heap.size (fun _ => True) v1_ r2 ∧ Kd.R (Kd.int .i64) 3 w' w.heap.size (fun k_ => some k_ ≠ (v0_ : Value).ownBlock) v2_ r3 ∧ Below w.heap.size w w' := by
  have hu47 := Try.underlying47
  have hu54 := Try.underlying54
  have HR0 := Aside0.mk hr0
  have HC0 := Aside0.mk hc0
  clear hr0 hc0
  have HB := Aside0.mk (Below.refl w.heap.size w)
  have H : ((some (([a1_0] : List Int) : List Int)).bind fun y116 => (if a2 = true then (if ([] : List (S47)).length < 8796093022208 then (impl_regionInside.j0 k l0 a2 a1_0 a1_1 y116 (([] : List (S47)) ++ [(⟨a1_0, a1_1⟩ : S47)]) ([] : List Int)) else (none)) else (if ([] : List Int).length < 17592186044416 then (impl_regionInside.j0 k l0 a2 a1_0 a1_1 y116 ([] : List (S47)) (([] : List Int) ++ [a1_1])) else (none)))) = some (r1, r2, r3) := h
  clear h
  obtain ⟨y116, hy116⟩ : ∃ y_ : List Int, y_ = (([a1_0] : List Int)) := ⟨_, rfl⟩
  replace H : (if a2 = true then (if ([] : List (S47)).length < 8796093022208 then (impl_regionInside.j0 k l0 a2 a1_0 a1_1 y116 (([] : List (S47)) ++ [(⟨a1_0, a1_1⟩ : S47)]) ([] : List Int)) else (none)) else (if ([] : List Int).length < 17592186044416 then (impl_regionInside.j0 k l0 a2 a1_0 a1_1 y116 ([] : List (S47)) (([] : List Int) ++ [a1_1])) else (none))) = some (r1, r2, r3) := by first | (rw [hy116]; with_reducible exact H) | (have H2_ := (Option.bind_some _ _).symm.trans H; rw [hy116]; with_reducible exact H2_) | (have H2_ := (Option.bind_some _ _).symm.trans H; with_reducible exact H2_) | with_reducible exact H | (rw [hy116]; exact H) | exact H
  have Ny116 := Aside0.mk hy116
  clear hy116
  have HC4 := Aside0.mk H
  clear H
  go_enter Try.func63, Try.ntmps63
  go_upto_if 16 with (first | ((with_reducible refine gate_dst (N := 4) rfl ?_); refine box_event ?hg (N := 4) ?hd (cs := #[.int .i64 a1_0, .int .i64 a1_1]) (t := 47) ?hr ?_; (case hd => rfl); (case hg => rfl); (case hr => first | (go_simp; done) | (go_simp; rfl)); intro gb114 hg w5 hbox hb; have n0_ := Aside0.mk (below_step (by repeat (first | (with_reducible first | exact HB.out | apply below_alloc | apply pw_below_drewN | apply below_drew1) | exact HB.out)) hb); have n1_ := Aside0.mk (hbox); have n2_ := Aside0.mk ((by rw [hg]; exact (below_size (by repeat (first | (with_reducible first | exact HB.out | apply below_alloc | apply pw_below_drewN | apply below_drew1) | exact HB.out))) : w.heap.size ≤ gb114)); have n3_ := Aside0.mk ((by rw [hg]; exact (below_size (by repeat (first | (with_reducible first | exact HB.out | apply below_alloc | apply pw_below_drewN | apply below_drew1) | exact HB.out))) : w.heap.size ≤ gb114)); clear HB; have HB := n0_; have BK114 := n1_; have GW114 := n2_; have GE114 := n3_; clear n0_ n1_ n2_ n3_; clear hb hbox hg) | ((with_reducible refine gate_dst (N := 6) rfl ?_); refine box_event ?hg (N := 6) ?hd (cs := #[.slice none 0 0, .slice none 0 0, .slice none 0 0]) (t := 54) ?hr ?_; (case hd => rfl); (case hg => rfl); (case hr => first | (go_simp; done) | (go_simp; rfl)); intro gb115 hg w6 hbox hb; have n0_ := Aside0.mk (blk_below (g := gb114) (o := .cells #[.int .i64 a1_0, .int .i64 a1_1] 47 (0, 0)) (by (with_reducible repeat (first | refine blk_drewN ?_ _ | refine blk_drew ?_ | refine blk_alloc ?_ _)); exact BK114.out) hb); have n1_ := Aside0.mk (below_step (by repeat (first | (with_reducible first | exact HB.out | apply below_alloc | apply pw_below_drewN | apply below_drew1 | refine below_set ?_ GE114.out) | exact HB.out)) hb); have n2_ := Aside0.mk (hbox); have n3_ := Aside0.mk ((by rw [hg]; exact (below_size (by repeat (first | (with_reducible first | exact HB.out | apply below_alloc | apply pw_below_drewN | apply below_drew1 | refine below_set ?_ GE114.out) | exact HB.out))) : w.heap.size ≤ gb115)); have n4_ := Aside0.mk ((by rw [hg]; exact (below_size (by repeat (first | (with_reducible first | exact HB.out | apply below_alloc | apply pw_below_drewN | apply below_drew1 | refine below_set ?_ GE114.out) | exact HB.out))) : w.heap.size ≤ gb115)); have n5_ := Aside0.mk ((by rw [hg]; exact Nat.ne_of_lt (blk_lt (g := gb114) (o := .cells #[.int .i64 a1_0, .int .i64 a1_1] 47 (0, 0)) (by (with_reducible repeat (first | refine blk_drewN ?_ _ | refine blk_drew ?_ | refine blk_alloc ?_ _)); exact BK114.out)) : gb114 ≠ gb115)); have n6_ := Aside0.mk ((by rw [hg]; exact Nat.ne_of_gt (blk_lt (g := gb114) (o := .cells #[.int .i64 a1_0, .int .i64 a1_1] 47 (0, 0)) (by (with_reducible repeat (first | refine blk_drewN ?_ _ | refine blk_drew ?_ | refine blk_alloc ?_ _)); exact BK114.out)) : gb115 ≠ gb114)); clear BK114; clear HB; have BK114 := n0_; have HB := n1_; have BK115 := n2_; have GW115 := n3_; have GE115 := n4_; have NB114_115 := n5_; have NB115_114 := n6_; clear n0_ n1_ n2_ n3_ n4_ n5_ n6_; clear hb hbox hg; have hnb7 := NB114_115.out; have hnc7 := NB115_114.out; have hcz8_0 : w6.cell? ⟨gb114, 0, none⟩ = some (.int .i64 a1_0) := (blk_cell BK114.out 0).trans rfl; have hcz8_1 : w6.cell? ⟨gb114, 1, none⟩ = some (.int .i64 a1_1) := (blk_cell BK114.out 1).trans rfl; have hfz8_0 := blk_frozen BK114.out 0; have hfz8_1 := blk_frozen BK114.out 1) | ((with_reducible refine gate_dst (N := 14) rfl ?_); refine Kd.R_lit (Kd.int .i64) _ 3 ?hg (N := 14) ?hd (xs := ([a1_0] : List Int)) (inner := [.int .i64 a1_0]) (ok := fun _ => True) (okp := fun _ => True) ?hr ?hp (fun _ hk => hk) trivial (Below.refl _ _) (Nat.le_refl _) (by simp) ?_; (case hd => rfl); (case hg => rfl); (case hr => first | (go_simp; done) | (go_simp; rfl)); (case hp => exact (Reps.one (show Kd.M (Kd.int .i64) _ _ _ a1_0 [.int .i64 a1_0] from rfl) (Reps.none _ _))); intro v117 w9 ho10 hb hg_ hnew_; clear hg_ hnew_; (first | rw [← Ny116.out] at ho10 | (simp only [Int.reduceToNat] at ho10; rw [← Ny116.out] at ho10)); have n0_ := Aside0.mk (Kd.R_lower ho10 (below_size (by repeat (first | (with_reducible first | exact HB.out | apply below_alloc | apply pw_below_drewN | apply below_drew1 | refine below_set ?_ GE114.out | refine below_set ?_ GE115.out) | exact HB.out)))); have n1_ := Aside0.mk (blk_below (g := gb114) (o := .cells #[.int .i64 a1_0, .int .i64 a1_1] 47 (0, 0)) (by (with_reducible repeat (first | refine blk_drewN ?_ _ | refine blk_drew ?_ | refine blk_alloc ?_ _)); exact BK114.out) hb); have n2_ := Aside0.mk (blk_below (g := gb115) (o := .cells #[.slice none 0 0, .slice none 0 0, .slice none 0 0] 54 (0, 0)) (by (with_reducible repeat (first | refine blk_drewN ?_ _ | refine blk_drew ?_ | refine blk_alloc ?_ _)); exact BK115.out) hb); have n3_ := Aside0.mk (below_step (by repeat (first | (with_reducible first | exact HB.out | apply below_alloc | apply pw_below_drewN | apply below_drew1 | refine below_set ?_ GE114.out | refine below_set ?_ GE115.out) | exact HB.out)) hb); clear BK114; clear BK115; clear HB; have HO118 := n0_; have BK114 := n1_; have BK115 := n2_; have HB := n3_; clear n0_ n1_ n2_ n3_; clear hb ho10; obtain ⟨Ao11, co11, eo11⟩ := Kd.R_slice HO118.out; subst eo11) | ((with_reducible refine gate_dst (N := 7) rfl ?_); refine box_event ?hg (N := 7) ?hd (cs := #[.slice none 0 0, .slice none 0 0, .slice none 0 0]) (t := 54) ?hr ?_; (case hd => rfl); (case hg => rfl); (case hr => first | (go_simp; done) | (go_simp; rfl)); intro gb119 hg w12 hbox hb; have n0_ := Aside0.mk (Kd.R_below (by (with_reducible repeat (first | apply Kd.R_alloc | apply Kd.R_drewN | apply Kd.R_drew)); exact HO118.out) hb); have n1_ := Aside0.mk (blk_below (g := gb114) (o := .cells #[.int .i64 a1_0, .int .i64 a1_1] 47 (0, 0)) (by (with_reducible repeat (first | refine blk_drewN ?_ _ | refine blk_drew ?_ | refine blk_alloc ?_ _)); exact BK114.out) hb); have n2_ := Aside0.mk (blk_below (g := gb115) (o := .cells #[.slice none 0 0, .slice none 0 0, .slice none 0 0] 54 (0, 0)) (by (with_reducible repeat (first | refine blk_drewN ?_ _ | refine blk_drew ?_ | refine blk_alloc ?_ _)); exact BK115.out) hb); have n3_ := Aside0.mk (below_step (by repeat (first | (with_reducible first | exact HB.out | apply below_alloc | apply pw_below_drewN | apply below_drew1 | refine below_set ?_ GE114.out | refine below_set ?_ GE115.out) | exact HB.out)) hb); have n4_ := Aside0.mk (hbox); have n5_ := Aside0.mk ((by rw [hg]; exact (below_size (by repeat (first | (with_reducible first | exact HB.out | apply below_alloc | apply pw_below_drewN | apply below_drew1 | refine below_set ?_ GE114.out | refine below_set ?_ GE115.out) | exact HB.out))) : w.heap.size ≤ gb119)); have n6_ := Aside0.mk ((by rw [hg]; exact (below_size (by repeat (first | (with_reducible first | exact HB.out | apply below_alloc | apply pw_below_drewN | apply below_drew1 | refine below_set ?_ GE114.out | refine below_set ?_ GE115.out) | exact HB.out))) : w.heap.size ≤ gb119)); have n7_ := Aside0.mk ((by rw [hg]; exact Nat.ne_of_lt (blk_lt (g := gb114) (o := .cells #[.int .i64 a1_0, .int .i64 a1_1] 47 (0, 0)) (by (with_reducible repeat (first | refine blk_drewN ?_ _ | refine blk_drew ?_ | refine blk_alloc ?_ _)); exact BK114.out)) : gb114 ≠ gb119)); have n8_ := Aside0.mk ((by rw [hg]; exact Nat.ne_of_gt (blk_lt (g := gb114) (o := .cells #[.int .i64 a1_0, .int .i64 a1_1] 47 (0, 0)) (by (with_reducible repeat (first | refine blk_drewN ?_ _ | refine blk_drew ?_ | refine blk_alloc ?_ _)); exact BK114.out)) : gb119 ≠ gb114)); have n9_ := Aside0.mk ((by rw [hg]; exact Nat.ne_of_lt (blk_lt (g := gb115) (o := .cells #[.slice none 0 0, .slice none 0 0, .slice none 0 0] 54 (0, 0)) (by (with_reducible repeat (first | refine blk_drewN ?_ _ | refine blk_drew ?_ | refine blk_alloc ?_ _)); exact BK115.out)) : gb115 ≠ gb119)); have n10_ := Aside0.mk ((by rw [hg]; exact Nat.ne_of_gt (blk_lt (g := gb115) (o := .cells #[.slice none 0 0, .slice none 0 0, .slice none 0 0] 54 (0, 0)) (by (with_reducible repeat (first | refine blk_drewN ?_ _ | refine blk_drew ?_ | refine blk_alloc ?_ _)); exact BK115.out)) : gb119 ≠ gb115)); clear HO118; clear BK114; clear BK115; clear HB; have HO118 := n0_; have BK114 := n1_; have BK115 := n2_; have HB := n3_; have BK119 := n4_; have GW119 := n5_; have GE119 := n6_; have NB114_119 := n7_; have NB119_114 := n8_; have NB115_119 := n9_; have NB119_115 := n10_; clear n0_ n1_ n2_ n3_ n4_ n5_ n6_ n7_ n8_ n9_ n10_; clear hb hbox hg; have hnb13 := NB119_114.out; have hnc13 := NB114_119.out; have hnb14 := NB119_115.out; have hnc14 := NB115_119.out; have hcz15_0 : w12.cell? ⟨gb119, 0, none⟩ = some (.slice none 0 0) := (blk_cell BK119.out 0).trans rfl; have hcz15_1 : w12.cell? ⟨gb119, 1, none⟩ = some (.slice none 0 0) := (blk_cell BK119.out 1).trans rfl; have hcz15_2 : w12.cell? ⟨gb119, 2, none⟩ = some (.slice none 0 0) := (blk_cell BK119.out 2).trans rfl; have hfz15_0 := blk_frozen BK119.out 0; have hfz15_1 := blk_frozen BK119.out 1; have hfz15_2 := blk_frozen BK119.out 2))
  (try simp only [Act.put, List.setIfInBounds_toArray, List.set_cons_zero, List.set_cons_succ])
  go_cut [] (fun wc => ∃ (kq : Nat) (x120001_3 : List (S47)) (x120002_3 : List Int) (u120001 : Value) (u120002 : Value), Aside0 (impl_regionInside.j0 kq l0 a2 a1_0 a1_1 y116 x120001_3 x120002_3 = some (r1, r2, r3)) ∧ Aside0 (kq ≤ k) ∧ Aside0 (Kd.R (Kd.int .i64) 3 wc w.heap.size (fun k_ => some k_ ≠ (u120002 : Value).ownBlock) (.slice Ao11 y116.length co11) y116) ∧ Aside0 (Kd.R k47 47 wc w.heap.size (fun k_ => k_ ≠ gb114) u120001 x120001_3) ∧ Aside0 (Kd.R (Kd.int .i64) 3 wc w.heap.size (fun k_ => some k_ ≠ ((.slice Ao11 y116.length co11) : Value).ownBlock) u120002 x120002_3) ∧ Aside0 (wc.heap[gb114]? = some (.cells #[.int .i64 a1_0, .int .i64 a1_1] 47 (0, 0))) ∧ Aside0 (wc.heap[gb115]? = some (.cells #[(.slice none 0 0), (.slice none 0 0), (.slice none 0 0)] 54 (0, 0))) ∧ Aside0 (wc.heap[gb119]? = some (.cells #[(.slice Ao11 y116.length co11), u120001, u120002] 54 (0, 0))) ∧ Aside0 (Below w.heap.size w wc))
  case first =>
    have H := HC4.out
    clear HC4
    by_cases c16 : a2 = true
    · subst c16
      have H1 : (if ([] : List (S47)).length < 8796093022208 then (impl_regionInside.j0 k l0 true a1_0 a1_1 y116 (([] : List (S47)) ++ [(⟨a1_0, a1_1⟩ : S47)]) ([] : List Int)) else (none)) = some (r1, r2, r3) := by rw [if_pos rfl] at H; exact H
      clear H
      have H := H1
      clear H1
      by_cases c17 : ([] : List (S47)).length < 8796093022208
      · rw [if_pos c17] at H
        have LMc17 := Aside0.mk c17
        clear c17
        obtain ⟨y120, hy120⟩ : ∃ y_ : List (S47), y_ = (([] : List (S47)) ++ [(⟨a1_0, a1_1⟩ : S47)]) := ⟨_, rfl⟩
        replace H : (impl_regionInside.j0 k l0 true a1_0 a1_1 y116 y120 ([] : List Int)) = some (r1, r2, r3) := by first | (rw [hy120]; with_reducible exact H) | (have H2_ := (Option.bind_some _ _).symm.trans H; rw [hy120]; with_reducible exact H2_) | (have H2_ := (Option.bind_some _ _).symm.trans H; with_reducible exact H2_) | with_reducible exact H | (rw [hy120]; exact H) | exact H
        have Ny120 := Aside0.mk hy120
        clear hy120
        have H' := Aside0.mk H
        clear H
        have hnb18 := NB119_114.out
        have hnc18 := NB114_119.out
        have hnb19 := NB119_115.out
        have hnc19 := NB115_119.out
        have hcz20_0 : w12.cell? ⟨gb119, 0, none⟩ = some (.slice none 0 0) := (blk_cell BK119.out 0).trans rfl
        have hcz20_1 : w12.cell? ⟨gb119, 1, none⟩ = some (.slice none 0 0) := (blk_cell BK119.out 1).trans rfl
        have hcz20_2 : w12.cell? ⟨gb119, 2, none⟩ = some (.slice none 0 0) := (blk_cell BK119.out 2).trans rfl
        have hfz20_0 := blk_frozen BK119.out 0
        have hfz20_1 := blk_frozen BK119.out 1
        have hfz20_2 := blk_frozen BK119.out 2
        have hnb21 := NB114_115.out
        have hnc21 := NB115_114.out
        have hcz22_0 : w12.cell? ⟨gb114, 0, none⟩ = some (.int .i64 a1_0) := (blk_cell BK114.out 0).trans rfl
        have hcz22_1 : w12.cell? ⟨gb114, 1, none⟩ = some (.int .i64 a1_1) := (blk_cell BK114.out 1).trans rfl
        have hfz22_0 := blk_frozen BK114.out 0
        have hfz22_1 := blk_frozen BK114.out 1
        go_wp2_with (first | ((with_reducible refine gate_builtin (b := .append) (xs := #[.tmp 18, .tmp 20]) rfl ?_); at_builtin; refine Kd.R_append k47 (w0 := w) w.heap.size rfl (.tmp 18) (.tmp 20) 27 47 (.agg #[(.int .i64 0), (.int .i64 0)]) 16 rfl Try.underlying27 info47 rfl (by decide) (by omega) (.slice none 0 0) ([] : List (S47)) (⟨a1_0, a1_1⟩ : S47) [.int .i64 a1_0, .int .i64 a1_1] (fun k_ => k_ ≠ gb114) (fun _ => False) rfl (by first | (go_simp; done) | (go_simp; rfl)) ?aP (fun _ hk => hk.elim) ?aF ?aO ?aB ?aS ?aL ?_; (case aP => exact k47_mkM _ _ _ (⟨a1_0, a1_1⟩ : S47)); (case aB => exact (by repeat (first | (with_reducible first | exact HB.out | apply below_alloc | apply pw_below_drewN | apply below_drew1 | refine below_set ?_ GE114.out | refine below_set ?_ GE115.out | refine below_set ?_ GE119.out) | exact HB.out))); (case aF => exact (fun k_ hk => Kd.freshB (g := gb114) (o := .cells #[.int .i64 a1_0, .int .i64 a1_1] 47 (0, 0)) (by (with_reducible repeat (first | refine blk_drewN ?_ _ | refine blk_drew ?_ | refine blk_alloc ?_ _)); refine blk_far ?_ NB114_119.out _; (with_reducible repeat (first | refine blk_drewN ?_ _ | refine blk_drew ?_ | refine blk_alloc ?_ _)); refine blk_far ?_ NB114_119.out _; (with_reducible repeat (first | refine blk_drewN ?_ _ | refine blk_drew ?_ | refine blk_alloc ?_ _)); refine blk_far ?_ NB114_119.out _; (with_reducible repeat (first | refine blk_drewN ?_ _ | refine blk_drew ?_ | refine blk_alloc ?_ _)); exact BK114.out) k_ hk)); (case aO => exact ((Kd.R_nil _ _ _ _ (fun k_ => k_ ≠ gb114)))); (case aS => exact (below_size (by repeat (first | (with_reducible first | exact HB.out | apply below_alloc | apply pw_below_drewN | apply below_drew1 | refine below_set ?_ GE114.out | refine below_set ?_ GE115.out | refine below_set ?_ GE119.out) | exact HB.out)))); (case aL => have := LMc17.out; omega); intro v121 w23 ho hb hg hat; rw [← Ny120.out] at ho; have n0_ := Aside0.mk (blk_grown (g := gb114) (o := .cells #[.int .i64 a1_0, .int .i64 a1_1] 47 (0, 0)) (by (with_reducible repeat (first | refine blk_drewN ?_ _ | refine blk_drew ?_ | refine blk_alloc ?_ _)); refine blk_far ?_ NB114_119.out _; (with_reducible repeat (first | refine blk_drewN ?_ _ | refine blk_drew ?_ | refine blk_alloc ?_ _)); refine blk_far ?_ NB114_119.out _; (with_reducible repeat (first | refine blk_drewN ?_ _ | refine blk_drew ?_ | refine blk_alloc ?_ _)); refine blk_far ?_ NB114_119.out _; (with_reducible repeat (first | refine blk_drewN ?_ _ | refine blk_drew ?_ | refine blk_alloc ?_ _)); exact BK114.out) hg (by simp [Value.ownBlock])); have n1_ := Aside0.mk (blk_grown (g := gb115) (o := .cells #[.slice none 0 0, .slice none 0 0, .slice none 0 0] 54 (0, 0)) (by (with_reducible repeat (first | refine blk_drewN ?_ _ | refine blk_drew ?_ | refine blk_alloc ?_ _)); refine blk_far ?_ NB115_119.out _; (with_reducible repeat (first | refine blk_drewN ?_ _ | refine blk_drew ?_ | refine blk_alloc ?_ _)); refine blk_far ?_ NB115_119.out _; (with_reducible repeat (first | refine blk_drewN ?_ _ | refine blk_drew ?_ | refine blk_alloc ?_ _)); refine blk_far ?_ NB115_119.out _; (with_reducible repeat (first | refine blk_drewN ?_ _ | refine blk_drew ?_ | refine blk_alloc ?_ _)); exact BK115.out) hg (by simp [Value.ownBlock])); have n2_ := Aside0.mk (Kd.R_grown (by (with_reducible repeat (first | apply Kd.R_alloc | apply Kd.R_drewN | apply Kd.R_drew)); exact (Kd.R_mono (Kd.R_far (p := ⟨gb119, 2, none⟩) (Kd.R_far (p := ⟨gb119, 1, none⟩) (Kd.R_far (p := ⟨gb119, 0, none⟩) (Kd.R_types HO118.out BK119.out (by decide)) (fun _ hk => hk.2) (.slice Ao11 y116.length co11)) (fun _ hk => hk.2) (.slice none 0 0)) (fun _ hk => hk.2) (.slice none 0 0)) (fun _ h_ => h_.1))) hg (fun _ _ => by simp [Value.ownBlock])); have n3_ := Aside0.mk (blk_grown (g := gb119) (o := .cells #[.slice Ao11 y116.length co11, .slice none 0 0, .slice none 0 0] 54 (0, 0)) (by (with_reducible repeat (first | refine blk_drewN ?_ _ | refine blk_drew ?_ | refine blk_alloc ?_ _)); refine blk_put (cs := #[.slice Ao11 y116.length co11, .slice none 0 0, .slice none 0 0]) ?_ 2 _ rfl; (with_reducible repeat (first | refine blk_drewN ?_ _ | refine blk_drew ?_ | refine blk_alloc ?_ _)); refine blk_put (cs := #[.slice Ao11 y116.length co11, .slice none 0 0, .slice none 0 0]) ?_ 1 _ rfl; (with_reducible repeat (first | refine blk_drewN ?_ _ | refine blk_drew ?_ | refine blk_alloc ?_ _)); refine blk_put (cs := #[.slice none 0 0, .slice none 0 0, .slice none 0 0]) ?_ 0 _ rfl; (with_reducible repeat (first | refine blk_drewN ?_ _ | refine blk_drew ?_ | refine blk_alloc ?_ _)); exact BK119.out) hg (by simp [Value.ownBlock])); have n4_ := Aside0.mk (hb); have n5_ := Aside0.mk (ho); clear BK114; clear BK115; clear HO118; clear BK119; clear HB; have BK114 := n0_; have BK115 := n1_; have HO118 := n2_; have BK119 := n3_; have HB := n4_; have HO122 := n5_; clear n0_ n1_ n2_ n3_ n4_ n5_; clear ho hb hg hat; obtain ⟨Ao24, co24, eo24⟩ := Kd.R_slice HO122.out; subst eo24; have hcz25_0 : w23.cell? ⟨gb119, 0, none⟩ = some (.slice Ao11 y116.length co11) := (blk_cell BK119.out 0).trans rfl; have hcz25_1 : w23.cell? ⟨gb119, 1, none⟩ = some (.slice none 0 0) := (blk_cell BK119.out 1).trans rfl; have hcz25_2 : w23.cell? ⟨gb119, 2, none⟩ = some (.slice none 0 0) := (blk_cell BK119.out 2).trans rfl; have hfz25_0 := blk_frozen BK119.out 0; have hfz25_1 := blk_frozen BK119.out 1; have hfz25_2 := blk_frozen BK119.out 2))
        go_meet
        case rel => exact ⟨_, (y120), (([] : List Int)), (.slice Ao24 y120.length co24), (.slice none 0 0), H', ⟨by first | omega | exact Nat.le_refl _⟩, ⟨by (with_reducible repeat (first | apply Kd.R_alloc | apply Kd.R_drewN | apply Kd.R_drew)); exact Kd.R_mono (Kd.R_far (p := ⟨gb119, 1, none⟩) (Kd.R_types HO118.out BK119.out (by decide)) (fun _ hk => hk.2) (.slice Ao24 y120.length co24)) (fun _ hk => (by simp [Value.ownBlock]))⟩, ⟨by (with_reducible repeat (first | apply Kd.R_alloc | apply Kd.R_drewN | apply Kd.R_drew)); exact Kd.R_mono (Kd.R_far (p := ⟨gb119, 1, none⟩) (Kd.R_types HO122.out BK119.out (by decide)) (fun _ hk => hk.2) (.slice Ao24 y120.length co24)) (fun _ hk => hk.1)⟩, ⟨by first | exact Kd.R_nil _ _ _ _ _ | exact Kd.N_nil _ _ _ _ _ | exact Kd.V_nil _ _ _ _ _ | exact Kd.Q_nil _ _ _ _ _ | exact Kd.S_nil _ _ _ _ _⟩, ⟨by (with_reducible repeat (first | refine blk_drewN ?_ _ | refine blk_drew ?_ | refine blk_alloc ?_ _)); refine blk_far ?_ NB114_119.out _; (with_reducible repeat (first | refine blk_drewN ?_ _ | refine blk_drew ?_ | refine blk_alloc ?_ _)); exact BK114.out⟩, ⟨by (with_reducible repeat (first | refine blk_drewN ?_ _ | refine blk_drew ?_ | refine blk_alloc ?_ _)); refine blk_far ?_ NB115_119.out _; (with_reducible repeat (first | refine blk_drewN ?_ _ | refine blk_drew ?_ | refine blk_alloc ?_ _)); exact BK115.out⟩, ⟨by (with_reducible repeat (first | refine blk_drewN ?_ _ | refine blk_drew ?_ | refine blk_alloc ?_ _)); refine blk_put (cs := #[.slice Ao11 y116.length co11, .slice none 0 0, .slice none 0 0]) ?_ 1 _ rfl; (with_reducible repeat (first | refine blk_drewN ?_ _ | refine blk_drew ?_ | refine blk_alloc ?_ _)); exact BK119.out⟩, ⟨by repeat (first | (with_reducible first | exact HB.out | apply below_alloc | apply pw_below_drewN | apply below_drew1 | refine below_set ?_ GE114.out | refine below_set ?_ GE115.out | refine below_set ?_ GE119.out) | exact HB.out)⟩⟩
      · rw [if_neg c17] at H
        exact absurd H (by simp)
    · replace c16 := Bool.eq_false_iff.mpr c16
      subst c16
      have H1 : (if ([] : List Int).length < 17592186044416 then (impl_regionInside.j0 k l0 false a1_0 a1_1 y116 ([] : List (S47)) (([] : List Int) ++ [a1_1])) else (none)) = some (r1, r2, r3) := by rw [if_neg (show ¬ (false = true) by decide)] at H; exact H
      clear H
      have H := H1
      clear H1
      by_cases c26 : ([] : List Int).length < 17592186044416
      · rw [if_pos c26] at H
        have LMc26 := Aside0.mk c26
        clear c26
        obtain ⟨y123, hy123⟩ : ∃ y_ : List Int, y_ = (([] : List Int) ++ [a1_1]) := ⟨_, rfl⟩
        replace H : (impl_regionInside.j0 k l0 false a1_0 a1_1 y116 ([] : List (S47)) y123) = some (r1, r2, r3) := by first | (rw [hy123]; with_reducible exact H) | (have H2_ := (Option.bind_some _ _).symm.trans H; rw [hy123]; with_reducible exact H2_) | (have H2_ := (Option.bind_some _ _).symm.trans H; with_reducible exact H2_) | with_reducible exact H | (rw [hy123]; exact H) | exact H
        have Ny123 := Aside0.mk hy123
        clear hy123
        have H' := Aside0.mk H
        clear H
        have hnb27 := NB119_114.out
        have hnc27 := NB114_119.out
        have hnb28 := NB119_115.out
        have hnc28 := NB115_119.out
        have hcz29_0 : w12.cell? ⟨gb119, 0, none⟩ = some (.slice none 0 0) := (blk_cell BK119.out 0).trans rfl
        have hcz29_1 : w12.cell? ⟨gb119, 1, none⟩ = some (.slice none 0 0) := (blk_cell BK119.out 1).trans rfl
        have hcz29_2 : w12.cell? ⟨gb119, 2, none⟩ = some (.slice none 0 0) := (blk_cell BK119.out 2).trans rfl
        have hfz29_0 := blk_frozen BK119.out 0
        have hfz29_1 := blk_frozen BK119.out 1
        have hfz29_2 := blk_frozen BK119.out 2
        have hnb30 := NB114_115.out
        have hnc30 := NB115_114.out
        have hcz31_0 : w12.cell? ⟨gb114, 0, none⟩ = some (.int .i64 a1_0) := (blk_cell BK114.out 0).trans rfl
        have hcz31_1 : w12.cell? ⟨gb114, 1, none⟩ = some (.int .i64 a1_1) := (blk_cell BK114.out 1).trans rfl
        have hfz31_0 := blk_frozen BK114.out 0
        have hfz31_1 := blk_frozen BK114.out 1
        go_wp2_with (first | ((with_reducible refine gate_builtin (b := .append) (xs := #[.tmp 24, .tmp 27]) rfl ?_); at_builtin; refine Kd.R_append (Kd.int .i64) (w0 := w) w.heap.size rfl (.tmp 24) (.tmp 27) 24 3 (.int .i64 0) 8 rfl Try.underlying24 info3 rfl (by decide) (by omega) (.slice none 0 0) ([] : List Int) a1_1 [.int .i64 a1_1] (fun k_ => some k_ ≠ (.slice Ao11 y116.length co11 : Value).ownBlock) (fun _ => False) rfl (by first | (go_simp; done) | (go_simp; rfl)) ?aP (fun _ hk => hk.elim) ?aF ?aO ?aB ?aS ?aL ?_; (case aP => exact rfl); (case aB => exact (by repeat (first | (with_reducible first | exact HB.out | apply below_alloc | apply pw_below_drewN | apply below_drew1 | refine below_set ?_ GE114.out | refine below_set ?_ GE115.out | refine below_set ?_ GE119.out) | exact HB.out))); (case aF => exact (fun k_ hk => Kd.fresh' (Kd.R_lt (by (with_reducible repeat (first | apply Kd.R_alloc | apply Kd.R_drewN | apply Kd.R_drew)); exact (Kd.R_mono (Kd.R_far (p := ⟨gb119, 2, none⟩) (Kd.R_far (p := ⟨gb119, 1, none⟩) (Kd.R_far (p := ⟨gb119, 0, none⟩) (Kd.R_types HO118.out BK119.out (by decide)) (fun _ hk => hk.2) (.slice Ao11 y116.length co11)) (fun _ hk => hk.2) (.slice none 0 0)) (fun _ hk => hk.2) (.slice none 0 0)) (fun _ h_ => h_.1)))) k_ hk)); (case aO => exact ((Kd.R_nil _ _ _ _ (fun k_ => some k_ ≠ (.slice Ao11 y116.length co11 : Value).ownBlock)))); (case aS => exact (below_size (by repeat (first | (with_reducible first | exact HB.out | apply below_alloc | apply pw_below_drewN | apply below_drew1 | refine below_set ?_ GE114.out | refine below_set ?_ GE115.out | refine below_set ?_ GE119.out) | exact HB.out)))); (case aL => have := LMc26.out; omega); intro v124 w32 ho hb hg hat; rw [← Ny123.out] at ho; have n0_ := Aside0.mk (blk_grown (g := gb114) (o := .cells #[.int .i64 a1_0, .int .i64 a1_1] 47 (0, 0)) (by (with_reducible repeat (first | refine blk_drewN ?_ _ | refine blk_drew ?_ | refine blk_alloc ?_ _)); refine blk_far ?_ NB114_119.out _; (with_reducible repeat (first | refine blk_drewN ?_ _ | refine blk_drew ?_ | refine blk_alloc ?_ _)); refine blk_far ?_ NB114_119.out _; (with_reducible repeat (first | refine blk_drewN ?_ _ | refine blk_drew ?_ | refine blk_alloc ?_ _)); refine blk_far ?_ NB114_119.out _; (with_reducible repeat (first | refine blk_drewN ?_ _ | refine blk_drew ?_ | refine blk_alloc ?_ _)); exact BK114.out) hg (by simp [Value.ownBlock])); have n1_ := Aside0.mk (blk_grown (g := gb115) (o := .cells #[.slice none 0 0, .slice none 0 0, .slice none 0 0] 54 (0, 0)) (by (with_reducible repeat (first | refine blk_drewN ?_ _ | refine blk_drew ?_ | refine blk_alloc ?_ _)); refine blk_far ?_ NB115_119.out _; (with_reducible repeat (first | refine blk_drewN ?_ _ | refine blk_drew ?_ | refine blk_alloc ?_ _)); refine blk_far ?_ NB115_119.out _; (with_reducible repeat (first | refine blk_drewN ?_ _ | refine blk_drew ?_ | refine blk_alloc ?_ _)); refine blk_far ?_ NB115_119.out _; (with_reducible repeat (first | refine blk_drewN ?_ _ | refine blk_drew ?_ | refine blk_alloc ?_ _)); exact BK115.out) hg (by simp [Value.ownBlock])); have n2_ := Aside0.mk (Kd.R_after (Kd.R_apart_nil (by (with_reducible repeat (first | apply Kd.R_alloc | apply Kd.R_drewN | apply Kd.R_drew)); exact (Kd.R_mono (Kd.R_far (p := ⟨gb119, 2, none⟩) (Kd.R_far (p := ⟨gb119, 1, none⟩) (Kd.R_far (p := ⟨gb119, 0, none⟩) (Kd.R_types HO118.out BK119.out (by decide)) (fun _ hk => hk.2) (.slice Ao11 y116.length co11)) (fun _ hk => hk.2) (.slice none 0 0)) (fun _ hk => hk.2) (.slice none 0 0)) (fun _ h_ => h_.1)))) hg hat); have n3_ := Aside0.mk (blk_grown (g := gb119) (o := .cells #[.slice Ao11 y116.length co11, .slice none 0 0, .slice none 0 0] 54 (0, 0)) (by (with_reducible repeat (first | refine blk_drewN ?_ _ | refine blk_drew ?_ | refine blk_alloc ?_ _)); refine blk_put (cs := #[.slice Ao11 y116.length co11, .slice none 0 0, .slice none 0 0]) ?_ 2 _ rfl; (with_reducible repeat (first | refine blk_drewN ?_ _ | refine blk_drew ?_ | refine blk_alloc ?_ _)); refine blk_put (cs := #[.slice Ao11 y116.length co11, .slice none 0 0, .slice none 0 0]) ?_ 1 _ rfl; (with_reducible repeat (first | refine blk_drewN ?_ _ | refine blk_drew ?_ | refine blk_alloc ?_ _)); refine blk_put (cs := #[.slice none 0 0, .slice none 0 0, .slice none 0 0]) ?_ 0 _ rfl; (with_reducible repeat (first | refine blk_drewN ?_ _ | refine blk_drew ?_ | refine blk_alloc ?_ _)); exact BK119.out) hg (by simp [Value.ownBlock])); have n4_ := Aside0.mk (hb); have n5_ := Aside0.mk (ho); clear BK114; clear BK115; clear HO118; clear BK119; clear HB; have BK114 := n0_; have BK115 := n1_; have HO118 := n2_; have BK119 := n3_; have HB := n4_; have HO125 := n5_; clear n0_ n1_ n2_ n3_ n4_ n5_; clear ho hb hg hat; obtain ⟨Ao33, co33, eo33⟩ := Kd.R_slice HO125.out; subst eo33; have hcz34_0 : w32.cell? ⟨gb119, 0, none⟩ = some (.slice Ao11 y116.length co11) := (blk_cell BK119.out 0).trans rfl; have hcz34_1 : w32.cell? ⟨gb119, 1, none⟩ = some (.slice none 0 0) := (blk_cell BK119.out 1).trans rfl; have hcz34_2 : w32.cell? ⟨gb119, 2, none⟩ = some (.slice none 0 0) := (blk_cell BK119.out 2).trans rfl; have hfz34_0 := blk_frozen BK119.out 0; have hfz34_1 := blk_frozen BK119.out 1; have hfz34_2 := blk_frozen BK119.out 2))
        go_meet
        case rel => exact ⟨_, (([] : List (S47))), (y123), (.slice none 0 0), (.slice Ao33 y123.length co33), H', ⟨by first | omega | exact Nat.le_refl _⟩, ⟨by (with_reducible repeat (first | apply Kd.R_alloc | apply Kd.R_drewN | apply Kd.R_drew)); exact Kd.R_mono (Kd.R_far (p := ⟨gb119, 2, none⟩) (Kd.R_types HO118.out BK119.out (by decide)) (fun _ hk => hk.2) (.slice Ao33 y123.length co33)) (fun _ hk => hk.1.2)⟩, ⟨by first | exact Kd.R_nil _ _ _ _ _ | exact Kd.N_nil _ _ _ _ _ | exact Kd.V_nil _ _ _ _ _ | exact Kd.Q_nil _ _ _ _ _ | exact Kd.S_nil _ _ _ _ _⟩, ⟨by (with_reducible repeat (first | apply Kd.R_alloc | apply Kd.R_drewN | apply Kd.R_drew)); exact Kd.R_mono (Kd.R_far (p := ⟨gb119, 2, none⟩) (Kd.R_types HO125.out BK119.out (by decide)) (fun _ hk => hk.2) (.slice Ao33 y123.length co33)) (fun _ hk => hk.1)⟩, ⟨by (with_reducible repeat (first | refine blk_drewN ?_ _ | refine blk_drew ?_ | refine blk_alloc ?_ _)); refine blk_far ?_ NB114_119.out _; (with_reducible repeat (first | refine blk_drewN ?_ _ | refine blk_drew ?_ | refine blk_alloc ?_ _)); exact BK114.out⟩, ⟨by (with_reducible repeat (first | refine blk_drewN ?_ _ | refine blk_drew ?_ | refine blk_alloc ?_ _)); refine blk_far ?_ NB115_119.out _; (with_reducible repeat (first | refine blk_drewN ?_ _ | refine blk_drew ?_ | refine blk_alloc ?_ _)); exact BK115.out⟩, ⟨by (with_reducible repeat (first | refine blk_drewN ?_ _ | refine blk_drew ?_ | refine blk_alloc ?_ _)); refine blk_put (cs := #[.slice Ao11 y116.length co11, .slice none 0 0, .slice none 0 0]) ?_ 2 _ rfl; (with_reducible repeat (first | refine blk_drewN ?_ _ | refine blk_drew ?_ | refine blk_alloc ?_ _)); exact BK119.out⟩, ⟨by repeat (first | (with_reducible first | exact HB.out | apply below_alloc | apply pw_below_drewN | apply below_drew1 | refine below_set ?_ GE114.out | refine below_set ?_ GE115.out | refine below_set ?_ GE119.out) | exact HB.out)⟩⟩
      · rw [if_neg c26] at H
        exact absurd H (by simp)
  case rest =>
    clear HC4
    try clear c1
    try clear c2
    try clear p2
    try clear c3
    try clear c6
    try clear c7
    try clear c13
    try clear c14
    try clear c16
    try clear c17
    try clear c18
    try clear c19
    try clear c21
    try clear c26
    try clear c27
    try clear c28
    try clear c30
    try clear hcz15_0
    try clear hcz15_1
    try clear hcz15_2
    try clear hcz20_0
    try clear hcz20_1
    try clear hcz20_2
    try clear hcz22_0
    try clear hcz22_1
    try clear hcz25_0
    try clear hcz25_1
    try clear hcz25_2
    try clear hcz29_0
    try clear hcz29_1
    try clear hcz29_2
    try clear hcz31_0
    try clear hcz31_1
    try clear hcz34_0
    try clear hcz34_1
    try clear hcz34_2
    try clear hcz8_0
    try clear hcz8_1
    try clear hfz15_0
    try clear hfz15_1
    try clear hfz15_2
    try clear hfz20_0
    try clear hfz20_1
    try clear hfz20_2
    try clear hfz22_0
    try clear hfz22_1
    try clear hfz25_0
    try clear hfz25_1
    try clear hfz25_2
    try clear hfz29_0
    try clear hfz29_1
    try clear hfz29_2
    try clear hfz31_0
    try clear hfz31_1
    try clear hfz34_0
    try clear hfz34_1
    try clear hfz34_2
    try clear hfz8_0
    try clear hfz8_1
    obtain ⟨kq, x120001_3, x120002_3, u120001, u120002, HA, HJ3, HO_120000, HO_120001, HO_120002, BK114, BK115, BK119, HB⟩ := hcut
    cases kq with
    | zero => exact absurd HA.out (by simp [impl_regionInside.j0])
    | succ kj3 =>
      have H := HA.out
      clear HA
      simp only [impl_regionInside.j0] at H
      have H' := Aside0.mk H
      clear H
      have hnb35 := NB114_115.out
      have hnc35 := NB115_114.out
      have hnb36 := NB114_119.out
      have hnc36 := NB119_114.out
      have hcz37_0 : wc.cell? ⟨gb114, 0, none⟩ = some (.int .i64 a1_0) := (blk_cell BK114.out 0).trans rfl
      have hcz37_1 : wc.cell? ⟨gb114, 1, none⟩ = some (.int .i64 a1_1) := (blk_cell BK114.out 1).trans rfl
      have hfz37_0 := blk_frozen BK114.out 0
      have hfz37_1 := blk_frozen BK114.out 1
      go_wp2
      go_loopg [8] kj3 (fun kq v8 w' => ∃ (x8_2 : Int) (x120000_2 : List Int) (x120001_2 : List (S47)) (x120002_2 : List Int) (u120000 : Value) (u120001 : Value) (u120002 : Value), v8 = .int .i64 x8_2 ∧ Aside0 (impl_regionInside.l0 kq l0 a2 x8_2 a1_0 a1_1 x120000_2 x120001_2 x120002_2 = some (r1, r2, r3)) ∧ Aside0 (kq ≤ kj3) ∧ Aside0 (Kd.R (Kd.int .i64) 3 w' w.heap.size (fun k_ => some k_ ≠ (u120002 : Value).ownBlock) u120000 x120000_2) ∧ Aside0 (Kd.R k47 47 w' w.heap.size (fun k_ => k_ ≠ gb114) u120001 x120001_2) ∧ Aside0 (Kd.R (Kd.int .i64) 3 w' w.heap.size (fun k_ => some k_ ≠ (u120000 : Value).ownBlock) u120002 x120002_2) ∧ Aside0 (w'.heap[gb114]? = some (.cells #[.int .i64 a1_0, .int .i64 a1_1] 47 (0, 0))) ∧ Aside0 (w'.heap[gb115]? = some (.cells #[(.slice none 0 0), (.slice none 0 0), (.slice none 0 0)] 54 (0, 0))) ∧ Aside0 (w'.heap[gb119]? = some (.cells #[u120000, u120001, u120002] 54 (0, 0))) ∧ Aside0 (Below w.heap.size w w'))
      case atStart => exact ⟨(a1_0), (y116), (x120001_3), (x120002_3), (.slice Ao11 y116.length co11), (u120001), (u120002), (by first | rfl | (simp; done) | (simp [*]; done)), H', ⟨Nat.le_refl _⟩, ⟨by (with_reducible repeat (first | apply Kd.R_alloc | apply Kd.R_drewN | apply Kd.R_drew)); exact HO_120000.out⟩, ⟨by (with_reducible repeat (first | apply Kd.R_alloc | apply Kd.R_drewN | apply Kd.R_drew)); exact HO_120001.out⟩, ⟨by (with_reducible repeat (first | apply Kd.R_alloc | apply Kd.R_drewN | apply Kd.R_drew)); exact HO_120002.out⟩, ⟨by (with_reducible repeat (first | refine blk_drewN ?_ _ | refine blk_drew ?_ | refine blk_alloc ?_ _)); exact BK114.out⟩, ⟨by (with_reducible repeat (first | refine blk_drewN ?_ _ | refine blk_drew ?_ | refine blk_alloc ?_ _)); exact BK115.out⟩, ⟨by (with_reducible repeat (first | refine blk_drewN ?_ _ | refine blk_drew ?_ | refine blk_alloc ?_ _)); exact BK119.out⟩, ⟨by repeat (first | (with_reducible first | exact HB.out | apply below_alloc | apply pw_below_drewN | apply below_drew1 | refine below_set ?_ GE114.out | refine below_set ?_ GE115.out | refine below_set ?_ GE119.out) | exact HB.out)⟩⟩
      case round =>
        clear H'
        try clear c1
        try clear c2
        try clear p2
        try clear c3
        try clear c6
        try clear c7
        try clear c13
        try clear c14
        try clear c16
        try clear c17
        try clear c18
        try clear c19
        try clear c21
        try clear c26
        try clear c27
        try clear c28
        try clear c30
        try clear c35
        try clear c36
        try clear hcz15_0
        try clear hcz15_1
        try clear hcz15_2
        try clear hcz20_0
        try clear hcz20_1
        try clear hcz20_2
        try clear hcz22_0
        try clear hcz22_1
        try clear hcz25_0
        try clear hcz25_1
        try clear hcz25_2
        try clear hcz29_0
        try clear hcz29_1
        try clear hcz29_2
        try clear hcz31_0
        try clear hcz31_1
        try clear hcz34_0
        try clear hcz34_1
        try clear hcz34_2
        try clear hcz37_0
        try clear hcz37_1
        try clear hcz8_0
        try clear hcz8_1
        try clear hfz15_0
        try clear hfz15_1
        try clear hfz15_2
        try clear hfz20_0
        try clear hfz20_1
        try clear hfz20_2
        try clear hfz22_0
        try clear hfz22_1
        try clear hfz25_0
        try clear hfz25_1
        try clear hfz25_2
        try clear hfz29_0
        try clear hfz29_1
        try clear hfz29_2
        try clear hfz31_0
        try clear hfz31_1
        try clear hfz34_0
        try clear hfz34_1
        try clear hfz34_2
        try clear hfz37_0
        try clear hfz37_1
        try clear hfz8_0
        try clear hfz8_1
        try clear p2
        obtain ⟨x8_2, x120000_2, x120001_2, x120002_2, u120000, u120001, u120002, rfl, HA, HK2, HO_120000, HO_120001, HO_120002, BK114, BK115, BK119, HB⟩ := hrel
        cases gk with
        | zero => exact absurd HA.out (by simp [impl_regionInside.l0])
        | succ k2 =>
          have H := HA.out
          clear HA
          simp only [impl_regionInside.l0] at H
          by_cases c38 : x8_2 < a1_1
          · rw [if_pos c38] at H
            have c38b0 : decide (x8_2 < a1_1) = true := decide_eq_true c38
            clear c38
            have H' := Aside0.mk H
            clear H
            have hnb39 := NB114_115.out
            have hnc39 := NB115_114.out
            have hnb40 := NB114_119.out
            have hnc40 := NB119_114.out
            have hcz41_0 : wr.cell? ⟨gb114, 0, none⟩ = some (.int .i64 a1_0) := (blk_cell BK114.out 0).trans rfl
            have hcz41_1 : wr.cell? ⟨gb114, 1, none⟩ = some (.int .i64 a1_1) := (blk_cell BK114.out 1).trans rfl
            have hfz41_0 := blk_frozen BK114.out 0
            have hfz41_1 := blk_frozen BK114.out 1
            go_wp2
            go_loopg [9, 39] k2 (fun kq v9 v39 w' => ∃ (x9_3 : Int) (x39_3 : Int), v9 = .int .i64 x9_3 ∧ v39 = .int .i64 x39_3 ∧ Aside0 (impl_regionInside.l1 kq l0 a2 x8_2 x9_3 l0 (l0.length : Int) x39_3 a1_0 a1_1 x120000_2 x120001_2 x120002_2 = some (r1, r2, r3)) ∧ Aside0 (kq ≤ k2) ∧ Aside0 (Kd.R (Kd.int .i64) 3 w' w.heap.size (fun k_ => some k_ ≠ (u120002 : Value).ownBlock) u120000 x120000_2) ∧ Aside0 (Kd.R k47 47 w' w.heap.size (fun k_ => k_ ≠ gb114) u120001 x120001_2) ∧ Aside0 (Kd.R (Kd.int .i64) 3 w' w.heap.size (fun k_ => some k_ ≠ (u120000 : Value).ownBlock) u120002 x120002_2) ∧ Aside0 (w'.heap[gb114]? = some (.cells #[.int .i64 a1_0, .int .i64 a1_1] 47 (0, 0))) ∧ Aside0 (w'.heap[gb115]? = some (.cells #[(.slice none 0 0), (.slice none 0 0), (.slice none 0 0)] 54 (0, 0))) ∧ Aside0 (w'.heap[gb119]? = some (.cells #[u120000, u120001, u120002] 54 (0, 0))) ∧ Aside0 (Below w.heap.size w w'))
            case atStart => exact ⟨(x8_2), (0), (by first | rfl | (simp; done) | (simp [*]; done)), (by first | rfl | (simp; done) | (simp [*]; done)), H', ⟨Nat.le_refl _⟩, ⟨by (with_reducible repeat (first | apply Kd.R_alloc | apply Kd.R_drewN | apply Kd.R_drew)); exact HO_120000.out⟩, ⟨by (with_reducible repeat (first | apply Kd.R_alloc | apply Kd.R_drewN | apply Kd.R_drew)); exact HO_120001.out⟩, ⟨by (with_reducible repeat (first | apply Kd.R_alloc | apply Kd.R_drewN | apply Kd.R_drew)); exact HO_120002.out⟩, ⟨by (with_reducible repeat (first | refine blk_drewN ?_ _ | refine blk_drew ?_ | refine blk_alloc ?_ _)); exact BK114.out⟩, ⟨by (with_reducible repeat (first | refine blk_drewN ?_ _ | refine blk_drew ?_ | refine blk_alloc ?_ _)); exact BK115.out⟩, ⟨by (with_reducible repeat (first | refine blk_drewN ?_ _ | refine blk_drew ?_ | refine blk_alloc ?_ _)); exact BK119.out⟩, ⟨by repeat (first | (with_reducible first | exact HB.out | apply below_alloc | apply pw_below_drewN | apply below_drew1 | refine below_set ?_ GE114.out | refine below_set ?_ GE115.out | refine below_set ?_ GE119.out) | exact HB.out)⟩⟩
            case round =>
              clear H'
              try clear c1
              try clear c2
              try clear p2
              try clear c3
              try clear c4
              try clear c6
              try clear c7
              try clear c13
              try clear c14
              try clear c16
              try clear c17
              try clear c18
              try clear c19
              try clear c21
              try clear c26
              try clear c27
              try clear c28
              try clear c30
              try clear c35
              try clear c36
              try clear c38
              try clear c38b0
              try clear c39
              try clear c40
              try clear hcz15_0
              try clear hcz15_1
              try clear hcz15_2
              try clear hcz20_0
              try clear hcz20_1
              try clear hcz20_2
              try clear hcz22_0
              try clear hcz22_1
              try clear hcz25_0
              try clear hcz25_1
              try clear hcz25_2
              try clear hcz29_0
              try clear hcz29_1
              try clear hcz29_2
              try clear hcz31_0
              try clear hcz31_1
              try clear hcz34_0
              try clear hcz34_1
              try clear hcz34_2
              try clear hcz37_0
              try clear hcz37_1
              try clear hcz41_0
              try clear hcz41_1
              try clear hcz8_0
              try clear hcz8_1
              try clear hfz15_0
              try clear hfz15_1
              try clear hfz15_2
              try clear hfz20_0
              try clear hfz20_1
              try clear hfz20_2
              try clear hfz22_0
              try clear hfz22_1
              try clear hfz25_0
              try clear hfz25_1
              try clear hfz25_2
              try clear hfz29_0
              try clear hfz29_1
              try clear hfz29_2
              try clear hfz31_0
              try clear hfz31_1
              try clear hfz34_0
              try clear hfz34_1
              try clear hfz34_2
              try clear hfz37_0
              try clear hfz37_1
              try clear hfz41_0
              try clear hfz41_1
              try clear hfz8_0
              try clear hfz8_1
              try clear p2
              obtain ⟨x9_3, x39_3, rfl, rfl, HA, HK3, HO_120000, HO_120001, HO_120002, BK114, BK115, BK119, HB⟩ := hrel
              cases gk with
              | zero => exact absurd HA.out (by simp [impl_regionInside.l1])
              | succ k3 =>
                have H := HA.out
                clear HA
                simp only [impl_regionInside.l1] at H
                by_cases c42 : x39_3 < (l0.length : Int)
                · rw [if_pos c42] at H
                  have c42b0 : decide (x39_3 < (l0.length : Int)) = true := decide_eq_true c42
                  clear c42
                  by_cases c43 : 0 ≤ x39_3
                  · rw [if_pos c43] at H
                    have c43b0 : decide (0 ≤ x39_3) = true := decide_eq_true c43
                    clear c43
                    by_cases c44 : x39_3 < (l0.length : Int)
                    · rw [if_pos c44] at H
                      have c44b0 : decide (x39_3 < (l0.length : Int)) = true := decide_eq_true c44
                      clear c44
                      by_cases c45 : ((rd_T47 l0 x39_3).f0) = x8_2
                      · rw [if_pos c45] at H
                        have c45b0 : (((rd_T47 l0 x39_3).f0) == x8_2) = true := beq_iff_eq.mpr c45
                        have c45b1 : (((rd_T47 l0 x39_3).f0) != x8_2) = false := bne_eq_false_iff_eq.mpr c45
                        clear c45
                        by_cases c46 : ((rd_T47 l0 x39_3).f1) ≤ a1_1
                        · rw [if_pos c46] at H
                          have c46b0 : decide (((rd_T47 l0 x39_3).f1) ≤ a1_1) = true := decide_eq_true c46
                          clear c46
                          by_cases c47 : ((rd_T47 l0 x39_3).f1) > x9_3
                          · rw [if_pos c47] at H
                            have c47b0 : decide (x9_3 < ((rd_T47 l0 x39_3).f1)) = true := decide_eq_true c47
                            clear c47
                            by_cases c48 : a2 = true
                            · subst c48
                              have H1 : (if ((((rd_T47 l0 x39_3).f0) == a1_0 && (((rd_T47 l0 x39_3).f1) == a1_1)) = true) then (impl_regionInside.l1 k3 l0 true x8_2 x9_3 l0 (l0.length : Int) (wrap64 (x39_3 + 1)) a1_0 a1_1 x120000_2 x120001_2 x120002_2) else (impl_regionInside.l1 k3 l0 true x8_2 ((rd_T47 l0 x39_3).f1) l0 (l0.length : Int) (wrap64 (x39_3 + 1)) a1_0 a1_1 x120000_2 x120001_2 x120002_2)) = some (r1, r2, r3) := by rw [if_pos rfl] at H; exact H
                              clear H
                              have H := H1
                              clear H1
                              by_cases c49 : ((((rd_T47 l0 x39_3).f0) == a1_0 && (((rd_T47 l0 x39_3).f1) == a1_1)) = true)
                              · rw [if_pos c49] at H
                                have c49b0 : (((rd_T47 l0 x39_3).f0) == a1_0 && (((rd_T47 l0 x39_3).f1) == a1_1)) = true := c49
                                (try (have c49b1 : decide (((rd_T47 l0 x39_3).f0) = a1_0 && (((rd_T47 l0 x39_3).f1) == a1_1)) = true := by simpa using c49))
                                (try (have c49b2 : (((rd_T47 l0 x39_3).f0) == a1_0 && (((rd_T47 l0 x39_3).f1) == a1_1)) = true := by simpa using c49))
                                clear c49
                                have H' := Aside0.mk H
                                clear H
                                have p126 : 0 ≤ (x39_3 : Int) := of_decide_eq_true (by first | (with_reducible assumption) | assumption)
                                have q126 : x39_3 < (l0.length : Int) := of_decide_eq_true (by first | (with_reducible assumption) | assumption)
                                obtain ⟨ad126, e126, hx126_0, hx126_1⟩ := at_T47 HR0.out x39_3 p126 q126
                                cases e126
                                replace hx126_0 := (HB.out.cell (World.block_lt_of_cell? w _ hx126_0)).trans hx126_0
                                replace hx126_1 := (HB.out.cell (World.block_lt_of_cell? w _ hx126_1)).trans hx126_1
                                replace p126 := eq_true p126
                                replace q126 := eq_true q126
                                go_wp2_with (first | ((with_reducible refine gate_dst (N := 11) rfl ?_); refine box_event ?hg (N := 11) ?hd (cs := #[.int .i64 0, .int .i64 0]) (t := 47) ?hr ?_; (case hd => rfl); (case hg => rfl); (case hr => first | (go_simp; done) | (go_simp; rfl)); intro gb127 hg w50 hbox hb; have n0_ := Aside0.mk (Kd.R_below (by (with_reducible repeat (first | apply Kd.R_alloc | apply Kd.R_drewN | apply Kd.R_drew)); exact HO_120000.out) hb); have n1_ := Aside0.mk (Kd.R_below (Kd.R_elderB (by (with_reducible repeat (first | apply Kd.R_alloc | apply Kd.R_drewN | apply Kd.R_drew)); exact HO_120001.out) gb127 (Nat.le_of_eq hg.symm)) hb); have n2_ := Aside0.mk (Kd.R_below (by (with_reducible repeat (first | apply Kd.R_alloc | apply Kd.R_drewN | apply Kd.R_drew)); exact HO_120002.out) hb); have n3_ := Aside0.mk (blk_below (g := gb114) (o := .cells #[.int .i64 a1_0, .int .i64 a1_1] 47 (0, 0)) (by (with_reducible repeat (first | refine blk_drewN ?_ _ | refine blk_drew ?_ | refine blk_alloc ?_ _)); exact BK114.out) hb); have n4_ := Aside0.mk (blk_below (g := gb115) (o := .cells #[.slice none 0 0, .slice none 0 0, .slice none 0 0] 54 (0, 0)) (by (with_reducible repeat (first | refine blk_drewN ?_ _ | refine blk_drew ?_ | refine blk_alloc ?_ _)); exact BK115.out) hb); have n5_ := Aside0.mk (blk_below (g := gb119) (o := .cells #[u120000, u120001, u120002] 54 (0, 0)) (by (with_reducible repeat (first | refine blk_drewN ?_ _ | refine blk_drew ?_ | refine blk_alloc ?_ _)); exact BK119.out) hb); have n6_ := Aside0.mk (below_step (by repeat (first | (with_reducible first | exact HB.out | apply below_alloc | apply pw_below_drewN | apply below_drew1 | refine below_set ?_ GE114.out | refine below_set ?_ GE115.out | refine below_set ?_ GE119.out) | exact HB.out)) hb); have n7_ := Aside0.mk (hbox); have n8_ := Aside0.mk ((by rw [hg]; exact (below_size (by repeat (first | (with_reducible first | exact HB.out | apply below_alloc | apply pw_below_drewN | apply below_drew1 | refine below_set ?_ GE114.out | refine below_set ?_ GE115.out | refine below_set ?_ GE119.out) | exact HB.out))) : w.heap.size ≤ gb127)); have n9_ := Aside0.mk ((by rw [hg]; exact (below_size (by repeat (first | (with_reducible first | exact HB.out | apply below_alloc | apply pw_below_drewN | apply below_drew1 | refine below_set ?_ GE114.out | refine below_set ?_ GE115.out | refine below_set ?_ GE119.out) | exact HB.out))) : w.heap.size ≤ gb127)); have n10_ := Aside0.mk ((by rw [hg]; exact Nat.ne_of_lt (blk_lt (g := gb114) (o := .cells #[.int .i64 a1_0, .int .i64 a1_1] 47 (0, 0)) (by (with_reducible repeat (first | refine blk_drewN ?_ _ | refine blk_drew ?_ | refine blk_alloc ?_ _)); exact BK114.out)) : gb114 ≠ gb127)); have n11_ := Aside0.mk ((by rw [hg]; exact Nat.ne_of_gt (blk_lt (g := gb114) (o := .cells #[.int .i64 a1_0, .int .i64 a1_1] 47 (0, 0)) (by (with_reducible repeat (first | refine blk_drewN ?_ _ | refine blk_drew ?_ | refine blk_alloc ?_ _)); exact BK114.out)) : gb127 ≠ gb114)); have n12_ := Aside0.mk ((by rw [hg]; exact Nat.ne_of_lt (blk_lt (g := gb115) (o := .cells #[.slice none 0 0, .slice none 0 0, .slice none 0 0] 54 (0, 0)) (by (with_reducible repeat (first | refine blk_drewN ?_ _ | refine blk_drew ?_ | refine blk_alloc ?_ _)); exact BK115.out)) : gb115 ≠ gb127)); have n13_ := Aside0.mk ((by rw [hg]; exact Nat.ne_of_gt (blk_lt (g := gb115) (o := .cells #[.slice none 0 0, .slice none 0 0, .slice none 0 0] 54 (0, 0)) (by (with_reducible repeat (first | refine blk_drewN ?_ _ | refine blk_drew ?_ | refine blk_alloc ?_ _)); exact BK115.out)) : gb127 ≠ gb115)); have n14_ := Aside0.mk ((by rw [hg]; exact Nat.ne_of_lt (blk_lt (g := gb119) (o := .cells #[u120000, u120001, u120002] 54 (0, 0)) (by (with_reducible repeat (first | refine blk_drewN ?_ _ | refine blk_drew ?_ | refine blk_alloc ?_ _)); exact BK119.out)) : gb119 ≠ gb127)); have n15_ := Aside0.mk ((by rw [hg]; exact Nat.ne_of_gt (blk_lt (g := gb119) (o := .cells #[u120000, u120001, u120002] 54 (0, 0)) (by (with_reducible repeat (first | refine blk_drewN ?_ _ | refine blk_drew ?_ | refine blk_alloc ?_ _)); exact BK119.out)) : gb127 ≠ gb119)); clear HO_120000; clear HO_120001; clear HO_120002; clear BK114; clear BK115; clear BK119; clear HB; have HO_120000 := n0_; have HO_120001 := n1_; have HO_120002 := n2_; have BK114 := n3_; have BK115 := n4_; have BK119 := n5_; have HB := n6_; have BK127 := n7_; have GW127 := n8_; have GE127 := n9_; have NB114_127 := n10_; have NB127_114 := n11_; have NB115_127 := n12_; have NB127_115 := n13_; have NB119_127 := n14_; have NB127_119 := n15_; clear n0_ n1_ n2_ n3_ n4_ n5_ n6_ n7_ n8_ n9_ n10_ n11_ n12_ n13_ n14_ n15_; clear hb hbox hg; have hnb51 := NB127_114.out; have hnc51 := NB114_127.out; have hnb52 := NB127_115.out; have hnc52 := NB115_127.out; have hnb53 := NB127_119.out; have hnc53 := NB119_127.out; have hcz54_0 : w50.cell? ⟨gb127, 0, none⟩ = some (.int .i64 0) := (blk_cell BK127.out 0).trans rfl; have hcz54_1 : w50.cell? ⟨gb127, 1, none⟩ = some (.int .i64 0) := (blk_cell BK127.out 1).trans rfl; have hfz54_0 := blk_frozen BK127.out 0; have hfz54_1 := blk_frozen BK127.out 1; have hnb55 := NB114_115.out; have hnc55 := NB115_114.out; have hnb56 := NB114_119.out; have hnc56 := NB119_114.out; have hcz57_0 : w50.cell? ⟨gb114, 0, none⟩ = some (.int .i64 a1_0) := (blk_cell BK114.out 0).trans rfl; have hcz57_1 : w50.cell? ⟨gb114, 1, none⟩ = some (.int .i64 a1_1) := (blk_cell BK114.out 1).trans rfl; have hfz57_0 := blk_frozen BK114.out 0; have hfz57_1 := blk_frozen BK114.out 1))
                                go_roundg k3
                                case measure => have := HJ3.out; have := HK2.out; have := HK3.out; omega
                                case rel => exact ⟨(x9_3), (wrap64 (x39_3 + 1)), (by first | rfl | (simp; done) | (simp [*]; done)), (by first | rfl | (simp; done) | (simp [*]; done)), H', ⟨by have := HJ3.out; have := HK2.out; have := HK3.out; omega⟩, ⟨by (with_reducible repeat (first | apply Kd.R_alloc | apply Kd.R_drewN | apply Kd.R_drew)); exact Kd.R_mono (Kd.R_far (p := ⟨gb127, 1, none⟩) (Kd.R_far (p := ⟨gb127, 0, none⟩) (Kd.R_types HO_120000.out BK127.out (by decide)) (fun _ hk => hk.2) (.int .i64 ((rd_T47 l0 x39_3).f0))) (fun _ hk => hk.2) (.int .i64 ((rd_T47 l0 x39_3).f1))) (fun _ hk => hk.1)⟩, ⟨by (with_reducible repeat (first | apply Kd.R_alloc | apply Kd.R_drewN | apply Kd.R_drew)); exact Kd.R_mono (Kd.R_far (p := ⟨gb127, 1, none⟩) (Kd.R_far (p := ⟨gb127, 0, none⟩) (Kd.R_mono HO_120001.out (fun k_ hk => (⟨hk, hk.2⟩ : _ ∧ k_ ≠ gb127))) (fun _ hk => hk.2) (.int .i64 ((rd_T47 l0 x39_3).f0))) (fun _ hk => hk.2) (.int .i64 ((rd_T47 l0 x39_3).f1))) (fun _ hk => hk.1.1)⟩, ⟨by (with_reducible repeat (first | apply Kd.R_alloc | apply Kd.R_drewN | apply Kd.R_drew)); exact Kd.R_mono (Kd.R_far (p := ⟨gb127, 1, none⟩) (Kd.R_far (p := ⟨gb127, 0, none⟩) (Kd.R_types HO_120002.out BK127.out (by decide)) (fun _ hk => hk.2) (.int .i64 ((rd_T47 l0 x39_3).f0))) (fun _ hk => hk.2) (.int .i64 ((rd_T47 l0 x39_3).f1))) (fun _ hk => hk.1)⟩, ⟨by (with_reducible repeat (first | refine blk_drewN ?_ _ | refine blk_drew ?_ | refine blk_alloc ?_ _)); refine blk_far ?_ NB114_127.out _; (with_reducible repeat (first | refine blk_drewN ?_ _ | refine blk_drew ?_ | refine blk_alloc ?_ _)); refine blk_far ?_ NB114_127.out _; (with_reducible repeat (first | refine blk_drewN ?_ _ | refine blk_drew ?_ | refine blk_alloc ?_ _)); exact BK114.out⟩, ⟨by (with_reducible repeat (first | refine blk_drewN ?_ _ | refine blk_drew ?_ | refine blk_alloc ?_ _)); refine blk_far ?_ NB115_127.out _; (with_reducible repeat (first | refine blk_drewN ?_ _ | refine blk_drew ?_ | refine blk_alloc ?_ _)); refine blk_far ?_ NB115_127.out _; (with_reducible repeat (first | refine blk_drewN ?_ _ | refine blk_drew ?_ | refine blk_alloc ?_ _)); exact BK115.out⟩, ⟨by (with_reducible repeat (first | refine blk_drewN ?_ _ | refine blk_drew ?_ | refine blk_alloc ?_ _)); refine blk_far ?_ NB119_127.out _; (with_reducible repeat (first | refine blk_drewN ?_ _ | refine blk_drew ?_ | refine blk_alloc ?_ _)); refine blk_far ?_ NB119_127.out _; (with_reducible repeat (first | refine blk_drewN ?_ _ | refine blk_drew ?_ | refine blk_alloc ?_ _)); exact BK119.out⟩, ⟨by repeat (first | (with_reducible first | exact HB.out | apply below_alloc | apply pw_below_drewN | apply below_drew1 | refine below_set ?_ GE114.out | refine below_set ?_ GE115.out | refine below_set ?_ GE119.out | refine below_set ?_ GE127.out) | exact HB.out)⟩⟩
                              · rw [if_neg c49] at H
                                have c49b0 : (((rd_T47 l0 x39_3).f0) == a1_0 && (((rd_T47 l0 x39_3).f1) == a1_1)) = false := by simpa using c49
                                (try (have c49b1 : decide (((rd_T47 l0 x39_3).f0) = a1_0 && (((rd_T47 l0 x39_3).f1) == a1_1)) = false := by simpa using c49))
                                (try (have c49b2 : (((rd_T47 l0 x39_3).f0) == a1_0 && (((rd_T47 l0 x39_3).f1) == a1_1)) = false := by simpa using c49))
                                (try (have c49b3 : ¬ (((rd_T47 l0 x39_3).f0) = a1_0 && (((rd_T47 l0 x39_3).f1) == a1_1)) := by simpa using c49))
                                clear c49
                                have H' := Aside0.mk H
                                clear H
                                have p126 : 0 ≤ (x39_3 : Int) := of_decide_eq_true (by first | (with_reducible assumption) | assumption)
                                have q126 : x39_3 < (l0.length : Int) := of_decide_eq_true (by first | (with_reducible assumption) | assumption)
                                obtain ⟨ad126, e126, hx126_0, hx126_1⟩ := at_T47 HR0.out x39_3 p126 q126
                                cases e126
                                replace hx126_0 := (HB.out.cell (World.block_lt_of_cell? w _ hx126_0)).trans hx126_0
                                replace hx126_1 := (HB.out.cell (World.block_lt_of_cell? w _ hx126_1)).trans hx126_1
                                replace p126 := eq_true p126
                                replace q126 := eq_true q126
                                go_wp2_with (first | ((with_reducible refine gate_dst (N := 11) rfl ?_); refine box_event ?hg (N := 11) ?hd (cs := #[.int .i64 0, .int .i64 0]) (t := 47) ?hr ?_; (case hd => rfl); (case hg => rfl); (case hr => first | (go_simp; done) | (go_simp; rfl)); intro gb127 hg w58 hbox hb; have n0_ := Aside0.mk (Kd.R_below (by (with_reducible repeat (first | apply Kd.R_alloc | apply Kd.R_drewN | apply Kd.R_drew)); exact HO_120000.out) hb); have n1_ := Aside0.mk (Kd.R_below (Kd.R_elderB (by (with_reducible repeat (first | apply Kd.R_alloc | apply Kd.R_drewN | apply Kd.R_drew)); exact HO_120001.out) gb127 (Nat.le_of_eq hg.symm)) hb); have n2_ := Aside0.mk (Kd.R_below (by (with_reducible repeat (first | apply Kd.R_alloc | apply Kd.R_drewN | apply Kd.R_drew)); exact HO_120002.out) hb); have n3_ := Aside0.mk (blk_below (g := gb114) (o := .cells #[.int .i64 a1_0, .int .i64 a1_1] 47 (0, 0)) (by (with_reducible repeat (first | refine blk_drewN ?_ _ | refine blk_drew ?_ | refine blk_alloc ?_ _)); exact BK114.out) hb); have n4_ := Aside0.mk (blk_below (g := gb115) (o := .cells #[.slice none 0 0, .slice none 0 0, .slice none 0 0] 54 (0, 0)) (by (with_reducible repeat (first | refine blk_drewN ?_ _ | refine blk_drew ?_ | refine blk_alloc ?_ _)); exact BK115.out) hb); have n5_ := Aside0.mk (blk_below (g := gb119) (o := .cells #[u120000, u120001, u120002] 54 (0, 0)) (by (with_reducible repeat (first | refine blk_drewN ?_ _ | refine blk_drew ?_ | refine blk_alloc ?_ _)); exact BK119.out) hb); have n6_ := Aside0.mk (below_step (by repeat (first | (with_reducible first | exact HB.out | apply below_alloc | apply pw_below_drewN | apply below_drew1 | refine below_set ?_ GE114.out | refine below_set ?_ GE115.out | refine below_set ?_ GE119.out) | exact HB.out)) hb); have n7_ := Aside0.mk (hbox); have n8_ := Aside0.mk ((by rw [hg]; exact (below_size (by repeat (first | (with_reducible first | exact HB.out | apply below_alloc | apply pw_below_drewN | apply below_drew1 | refine below_set ?_ GE114.out | refine below_set ?_ GE115.out | refine below_set ?_ GE119.out) | exact HB.out))) : w.heap.size ≤ gb127)); have n9_ := Aside0.mk ((by rw [hg]; exact (below_size (by repeat (first | (with_reducible first | exact HB.out | apply below_alloc | apply pw_below_drewN | apply below_drew1 | refine below_set ?_ GE114.out | refine below_set ?_ GE115.out | refine below_set ?_ GE119.out) | exact HB.out))) : w.heap.size ≤ gb127)); have n10_ := Aside0.mk ((by rw [hg]; exact Nat.ne_of_lt (blk_lt (g := gb114) (o := .cells #[.int .i64 a1_0, .int .i64 a1_1] 47 (0, 0)) (by (with_reducible repeat (first | refine blk_drewN ?_ _ | refine blk_drew ?_ | refine blk_alloc ?_ _)); exact BK114.out)) : gb114 ≠ gb127)); have n11_ := Aside0.mk ((by rw [hg]; exact Nat.ne_of_gt (blk_lt (g := gb114) (o := .cells #[.int .i64 a1_0, .int .i64 a1_1] 47 (0, 0)) (by (with_reducible repeat (first | refine blk_drewN ?_ _ | refine blk_drew ?_ | refine blk_alloc ?_ _)); exact BK114.out)) : gb127 ≠ gb114)); have n12_ := Aside0.mk ((by rw [hg]; exact Nat.ne_of_lt (blk_lt (g := gb115) (o := .cells #[.slice none 0 0, .slice none 0 0, .slice none 0 0] 54 (0, 0)) (by (with_reducible repeat (first | refine blk_drewN ?_ _ | refine blk_drew ?_ | refine blk_alloc ?_ _)); exact BK115.out)) : gb115 ≠ gb127)); have n13_ := Aside0.mk ((by rw [hg]; exact Nat.ne_of_gt (blk_lt (g := gb115) (o := .cells #[.slice none 0 0, .slice none 0 0, .slice none 0 0] 54 (0, 0)) (by (with_reducible repeat (first | refine blk_drewN ?_ _ | refine blk_drew ?_ | refine blk_alloc ?_ _)); exact BK115.out)) : gb127 ≠ gb115)); have n14_ := Aside0.mk ((by rw [hg]; exact Nat.ne_of_lt (blk_lt (g := gb119) (o := .cells #[u120000, u120001, u120002] 54 (0, 0)) (by (with_reducible repeat (first | refine blk_drewN ?_ _ | refine blk_drew ?_ | refine blk_alloc ?_ _)); exact BK119.out)) : gb119 ≠ gb127)); have n15_ := Aside0.mk ((by rw [hg]; exact Nat.ne_of_gt (blk_lt (g := gb119) (o := .cells #[u120000, u120001, u120002] 54 (0, 0)) (by (with_reducible repeat (first | refine blk_drewN ?_ _ | refine blk_drew ?_ | refine blk_alloc ?_ _)); exact BK119.out)) : gb127 ≠ gb119)); clear HO_120000; clear HO_120001; clear HO_120002; clear BK114; clear BK115; clear BK119; clear HB; have HO_120000 := n0_; have HO_120001 := n1_; have HO_120002 := n2_; have BK114 := n3_; have BK115 := n4_; have BK119 := n5_; have HB := n6_; have BK127 := n7_; have GW127 := n8_; have GE127 := n9_; have NB114_127 := n10_; have NB127_114 := n11_; have NB115_127 := n12_; have NB127_115 := n13_; have NB119_127 := n14_; have NB127_119 := n15_; clear n0_ n1_ n2_ n3_ n4_ n5_ n6_ n7_ n8_ n9_ n10_ n11_ n12_ n13_ n14_ n15_; clear hb hbox hg; have hnb59 := NB127_114.out; have hnc59 := NB114_127.out; have hnb60 := NB127_115.out; have hnc60 := NB115_127.out; have hnb61 := NB127_119.out; have hnc61 := NB119_127.out; have hcz62_0 : w58.cell? ⟨gb127, 0, none⟩ = some (.int .i64 0) := (blk_cell BK127.out 0).trans rfl; have hcz62_1 : w58.cell? ⟨gb127, 1, none⟩ = some (.int .i64 0) := (blk_cell BK127.out 1).trans rfl; have hfz62_0 := blk_frozen BK127.out 0; have hfz62_1 := blk_frozen BK127.out 1; have hnb63 := NB114_115.out; have hnc63 := NB115_114.out; have hnb64 := NB114_119.out; have hnc64 := NB119_114.out; have hcz65_0 : w58.cell? ⟨gb114, 0, none⟩ = some (.int .i64 a1_0) := (blk_cell BK114.out 0).trans rfl; have hcz65_1 : w58.cell? ⟨gb114, 1, none⟩ = some (.int .i64 a1_1) := (blk_cell BK114.out 1).trans rfl; have hfz65_0 := blk_frozen BK114.out 0; have hfz65_1 := blk_frozen BK114.out 1))
                                go_roundg k3
                                case measure => have := HJ3.out; have := HK2.out; have := HK3.out; omega
                                case rel => exact ⟨((rd_T47 l0 x39_3).f1), (wrap64 (x39_3 + 1)), (by first | rfl | (simp; done) | (simp [*]; done)), (by first | rfl | (simp; done) | (simp [*]; done)), H', ⟨by have := HJ3.out; have := HK2.out; have := HK3.out; omega⟩, ⟨by (with_reducible repeat (first | apply Kd.R_alloc | apply Kd.R_drewN | apply Kd.R_drew)); exact Kd.R_mono (Kd.R_far (p := ⟨gb127, 1, none⟩) (Kd.R_far (p := ⟨gb127, 0, none⟩) (Kd.R_types HO_120000.out BK127.out (by decide)) (fun _ hk => hk.2) (.int .i64 ((rd_T47 l0 x39_3).f0))) (fun _ hk => hk.2) (.int .i64 ((rd_T47 l0 x39_3).f1))) (fun _ hk => hk.1)⟩, ⟨by (with_reducible repeat (first | apply Kd.R_alloc | apply Kd.R_drewN | apply Kd.R_drew)); exact Kd.R_mono (Kd.R_far (p := ⟨gb127, 1, none⟩) (Kd.R_far (p := ⟨gb127, 0, none⟩) (Kd.R_mono HO_120001.out (fun k_ hk => (⟨hk, hk.2⟩ : _ ∧ k_ ≠ gb127))) (fun _ hk => hk.2) (.int .i64 ((rd_T47 l0 x39_3).f0))) (fun _ hk => hk.2) (.int .i64 ((rd_T47 l0 x39_3).f1))) (fun _ hk => hk.1.1)⟩, ⟨by (with_reducible repeat (first | apply Kd.R_alloc | apply Kd.R_drewN | apply Kd.R_drew)); exact Kd.R_mono (Kd.R_far (p := ⟨gb127, 1, none⟩) (Kd.R_far (p := ⟨gb127, 0, none⟩) (Kd.R_types HO_120002.out BK127.out (by decide)) (fun _ hk => hk.2) (.int .i64 ((rd_T47 l0 x39_3).f0))) (fun _ hk => hk.2) (.int .i64 ((rd_T47 l0 x39_3).f1))) (fun _ hk => hk.1)⟩, ⟨by (with_reducible repeat (first | refine blk_drewN ?_ _ | refine blk_drew ?_ | refine blk_alloc ?_ _)); refine blk_far ?_ NB114_127.out _; (with_reducible repeat (first | refine blk_drewN ?_ _ | refine blk_drew ?_ | refine blk_alloc ?_ _)); refine blk_far ?_ NB114_127.out _; (with_reducible repeat (first | refine blk_drewN ?_ _ | refine blk_drew ?_ | refine blk_alloc ?_ _)); exact BK114.out⟩, ⟨by (with_reducible repeat (first | refine blk_drewN ?_ _ | refine blk_drew ?_ | refine blk_alloc ?_ _)); refine blk_far ?_ NB115_127.out _; (with_reducible repeat (first | refine blk_drewN ?_ _ | refine blk_drew ?_ | refine blk_alloc ?_ _)); refine blk_far ?_ NB115_127.out _; (with_reducible repeat (first | refine blk_drewN ?_ _ | refine blk_drew ?_ | refine blk_alloc ?_ _)); exact BK115.out⟩, ⟨by (with_reducible repeat (first | refine blk_drewN ?_ _ | refine blk_drew ?_ | refine blk_alloc ?_ _)); refine blk_far ?_ NB119_127.out _; (with_reducible repeat (first | refine blk_drewN ?_ _ | refine blk_drew ?_ | refine blk_alloc ?_ _)); refine blk_far ?_ NB119_127.out _; (with_reducible repeat (first | refine blk_drewN ?_ _ | refine blk_drew ?_ | refine blk_alloc ?_ _)); exact BK119.out⟩, ⟨by repeat (first | (with_reducible first | exact HB.out | apply below_alloc | apply pw_below_drewN | apply below_drew1 | refine below_set ?_ GE114.out | refine below_set ?_ GE115.out | refine below_set ?_ GE119.out | refine below_set ?_ GE127.out) | exact HB.out)⟩⟩
                            · replace c48 := Bool.eq_false_iff.mpr c48
                              subst c48
                              have H1 : (impl_regionInside.l1 k3 l0 false x8_2 ((rd_T47 l0 x39_3).f1) l0 (l0.length : Int) (wrap64 (x39_3 + 1)) a1_0 a1_1 x120000_2 x120001_2 x120002_2) = some (r1, r2, r3) := by rw [if_neg (show ¬ (false = true) by decide)] at H; exact H
                              clear H
                              have H := H1
                              clear H1
                              have H' := Aside0.mk H
                              clear H
                              have p126 : 0 ≤ (x39_3 : Int) := of_decide_eq_true (by first | (with_reducible assumption) | assumption)
                              have q126 : x39_3 < (l0.length : Int) := of_decide_eq_true (by first | (with_reducible assumption) | assumption)
                              obtain ⟨ad126, e126, hx126_0, hx126_1⟩ := at_T47 HR0.out x39_3 p126 q126
                              cases e126
                              replace hx126_0 := (HB.out.cell (World.block_lt_of_cell? w _ hx126_0)).trans hx126_0
                              replace hx126_1 := (HB.out.cell (World.block_lt_of_cell? w _ hx126_1)).trans hx126_1
                              replace p126 := eq_true p126
                              replace q126 := eq_true q126
                              go_wp2_with (first | ((with_reducible refine gate_dst (N := 11) rfl ?_); refine box_event ?hg (N := 11) ?hd (cs := #[.int .i64 0, .int .i64 0]) (t := 47) ?hr ?_; (case hd => rfl); (case hg => rfl); (case hr => first | (go_simp; done) | (go_simp; rfl)); intro gb127 hg w66 hbox hb; have n0_ := Aside0.mk (Kd.R_below (by (with_reducible repeat (first | apply Kd.R_alloc | apply Kd.R_drewN | apply Kd.R_drew)); exact HO_120000.out) hb); have n1_ := Aside0.mk (Kd.R_below (Kd.R_elderB (by (with_reducible repeat (first | apply Kd.R_alloc | apply Kd.R_drewN | apply Kd.R_drew)); exact HO_120001.out) gb127 (Nat.le_of_eq hg.symm)) hb); have n2_ := Aside0.mk (Kd.R_below (by (with_reducible repeat (first | apply Kd.R_alloc | apply Kd.R_drewN | apply Kd.R_drew)); exact HO_120002.out) hb); have n3_ := Aside0.mk (blk_below (g := gb114) (o := .cells #[.int .i64 a1_0, .int .i64 a1_1] 47 (0, 0)) (by (with_reducible repeat (first | refine blk_drewN ?_ _ | refine blk_drew ?_ | refine blk_alloc ?_ _)); exact BK114.out) hb); have n4_ := Aside0.mk (blk_below (g := gb115) (o := .cells #[.slice none 0 0, .slice none 0 0, .slice none 0 0] 54 (0, 0)) (by (with_reducible repeat (first | refine blk_drewN ?_ _ | refine blk_drew ?_ | refine blk_alloc ?_ _)); exact BK115.out) hb); have n5_ := Aside0.mk (blk_below (g := gb119) (o := .cells #[u120000, u120001, u120002] 54 (0, 0)) (by (with_reducible repeat (first | refine blk_drewN ?_ _ | refine blk_drew ?_ | refine blk_alloc ?_ _)); exact BK119.out) hb); have n6_ := Aside0.mk (below_step (by repeat (first | (with_reducible first | exact HB.out | apply below_alloc | apply pw_below_drewN | apply below_drew1 | refine below_set ?_ GE114.out | refine below_set ?_ GE115.out | refine below_set ?_ GE119.out) | exact HB.out)) hb); have n7_ := Aside0.mk (hbox); have n8_ := Aside0.mk ((by rw [hg]; exact (below_size (by repeat (first | (with_reducible first | exact HB.out | apply below_alloc | apply pw_below_drewN | apply below_drew1 | refine below_set ?_ GE114.out | refine below_set ?_ GE115.out | refine below_set ?_ GE119.out) | exact HB.out))) : w.heap.size ≤ gb127)); have n9_ := Aside0.mk ((by rw [hg]; exact (below_size (by repeat (first | (with_reducible first | exact HB.out | apply below_alloc | apply pw_below_drewN | apply below_drew1 | refine below_set ?_ GE114.out | refine below_set ?_ GE115.out | refine below_set ?_ GE119.out) | exact HB.out))) : w.heap.size ≤ gb127)); have n10_ := Aside0.mk ((by rw [hg]; exact Nat.ne_of_lt (blk_lt (g := gb114) (o := .cells #[.int .i64 a1_0, .int .i64 a1_1] 47 (0, 0)) (by (with_reducible repeat (first | refine blk_drewN ?_ _ | refine blk_drew ?_ | refine blk_alloc ?_ _)); exact BK114.out)) : gb114 ≠ gb127)); have n11_ := Aside0.mk ((by rw [hg]; exact Nat.ne_of_gt (blk_lt (g := gb114) (o := .cells #[.int .i64 a1_0, .int .i64 a1_1] 47 (0, 0)) (by (with_reducible repeat (first | refine blk_drewN ?_ _ | refine blk_drew ?_ | refine blk_alloc ?_ _)); exact BK114.out)) : gb127 ≠ gb114)); have n12_ := Aside0.mk ((by rw [hg]; exact Nat.ne_of_lt (blk_lt (g := gb115) (o := .cells #[.slice none 0 0, .slice none 0 0, .slice none 0 0] 54 (0, 0)) (by (with_reducible repeat (first | refine blk_drewN ?_ _ | refine blk_drew ?_ | refine blk_alloc ?_ _)); exact BK115.out)) : gb115 ≠ gb127)); have n13_ := Aside0.mk ((by rw [hg]; exact Nat.ne_of_gt (blk_lt (g := gb115) (o := .cells #[.slice none 0 0, .slice none 0 0, .slice none 0 0] 54 (0, 0)) (by (with_reducible repeat (first | refine blk_drewN ?_ _ | refine blk_drew ?_ | refine blk_alloc ?_ _)); exact BK115.out)) : gb127 ≠ gb115)); have n14_ := Aside0.mk ((by rw [hg]; exact Nat.ne_of_lt (blk_lt (g := gb119) (o := .cells #[u120000, u120001, u120002] 54 (0, 0)) (by (with_reducible repeat (first | refine blk_drewN ?_ _ | refine blk_drew ?_ | refine blk_alloc ?_ _)); exact BK119.out)) : gb119 ≠ gb127)); have n15_ := Aside0.mk ((by rw [hg]; exact Nat.ne_of_gt (blk_lt (g := gb119) (o := .cells #[u120000, u120001, u120002] 54 (0, 0)) (by (with_reducible repeat (first | refine blk_drewN ?_ _ | refine blk_drew ?_ | refine blk_alloc ?_ _)); exact BK119.out)) : gb127 ≠ gb119)); clear HO_120000; clear HO_120001; clear HO_120002; clear BK114; clear BK115; clear BK119; clear HB; have HO_120000 := n0_; have HO_120001 := n1_; have HO_120002 := n2_; have BK114 := n3_; have BK115 := n4_; have BK119 := n5_; have HB := n6_; have BK127 := n7_; have GW127 := n8_; have GE127 := n9_; have NB114_127 := n10_; have NB127_114 := n11_; have NB115_127 := n12_; have NB127_115 := n13_; have NB119_127 := n14_; have NB127_119 := n15_; clear n0_ n1_ n2_ n3_ n4_ n5_ n6_ n7_ n8_ n9_ n10_ n11_ n12_ n13_ n14_ n15_; clear hb hbox hg; have hnb67 := NB127_114.out; have hnc67 := NB114_127.out; have hnb68 := NB127_115.out; have hnc68 := NB115_127.out; have hnb69 := NB127_119.out; have hnc69 := NB119_127.out; have hcz70_0 : w66.cell? ⟨gb127, 0, none⟩ = some (.int .i64 0) := (blk_cell BK127.out 0).trans rfl; have hcz70_1 : w66.cell? ⟨gb127, 1, none⟩ = some (.int .i64 0) := (blk_cell BK127.out 1).trans rfl; have hfz70_0 := blk_frozen BK127.out 0; have hfz70_1 := blk_frozen BK127.out 1; have hnb71 := NB114_115.out; have hnc71 := NB115_114.out; have hnb72 := NB114_119.out; have hnc72 := NB119_114.out; have hcz73_0 : w66.cell? ⟨gb114, 0, none⟩ = some (.int .i64 a1_0) := (blk_cell BK114.out 0).trans rfl; have hcz73_1 : w66.cell? ⟨gb114, 1, none⟩ = some (.int .i64 a1_1) := (blk_cell BK114.out 1).trans rfl; have hfz73_0 := blk_frozen BK114.out 0; have hfz73_1 := blk_frozen BK114.out 1))
                              go_roundg k3
                              case measure => have := HJ3.out; have := HK2.out; have := HK3.out; omega
                              case rel => exact ⟨((rd_T47 l0 x39_3).f1), (wrap64 (x39_3 + 1)), (by first | rfl | (simp; done) | (simp [*]; done)), (by first | rfl | (simp; done) | (simp [*]; done)), H', ⟨by have := HJ3.out; have := HK2.out; have := HK3.out; omega⟩, ⟨by (with_reducible repeat (first | apply Kd.R_alloc | apply Kd.R_drewN | apply Kd.R_drew)); exact Kd.R_mono (Kd.R_far (p := ⟨gb127, 1, none⟩) (Kd.R_far (p := ⟨gb127, 0, none⟩) (Kd.R_types HO_120000.out BK127.out (by decide)) (fun _ hk => hk.2) (.int .i64 ((rd_T47 l0 x39_3).f0))) (fun _ hk => hk.2) (.int .i64 ((rd_T47 l0 x39_3).f1))) (fun _ hk => hk.1)⟩, ⟨by (with_reducible repeat (first | apply Kd.R_alloc | apply Kd.R_drewN | apply Kd.R_drew)); exact Kd.R_mono (Kd.R_far (p := ⟨gb127, 1, none⟩) (Kd.R_far (p := ⟨gb127, 0, none⟩) (Kd.R_mono HO_120001.out (fun k_ hk => (⟨hk, hk.2⟩ : _ ∧ k_ ≠ gb127))) (fun _ hk => hk.2) (.int .i64 ((rd_T47 l0 x39_3).f0))) (fun _ hk => hk.2) (.int .i64 ((rd_T47 l0 x39_3).f1))) (fun _ hk => hk.1.1)⟩, ⟨by (with_reducible repeat (first | apply Kd.R_alloc | apply Kd.R_drewN | apply Kd.R_drew)); exact Kd.R_mono (Kd.R_far (p := ⟨gb127, 1, none⟩) (Kd.R_far (p := ⟨gb127, 0, none⟩) (Kd.R_types HO_120002.out BK127.out (by decide)) (fun _ hk => hk.2) (.int .i64 ((rd_T47 l0 x39_3).f0))) (fun _ hk => hk.2) (.int .i64 ((rd_T47 l0 x39_3).f1))) (fun _ hk => hk.1)⟩, ⟨by (with_reducible repeat (first | refine blk_drewN ?_ _ | refine blk_drew ?_ | refine blk_alloc ?_ _)); refine blk_far ?_ NB114_127.out _; (with_reducible repeat (first | refine blk_drewN ?_ _ | refine blk_drew ?_ | refine blk_alloc ?_ _)); refine blk_far ?_ NB114_127.out _; (with_reducible repeat (first | refine blk_drewN ?_ _ | refine blk_drew ?_ | refine blk_alloc ?_ _)); exact BK114.out⟩, ⟨by (with_reducible repeat (first | refine blk_drewN ?_ _ | refine blk_drew ?_ | refine blk_alloc ?_ _)); refine blk_far ?_ NB115_127.out _; (with_reducible repeat (first | refine blk_drewN ?_ _ | refine blk_drew ?_ | refine blk_alloc ?_ _)); refine blk_far ?_ NB115_127.out _; (with_reducible repeat (first | refine blk_drewN ?_ _ | refine blk_drew ?_ | refine blk_alloc ?_ _)); exact BK115.out⟩, ⟨by (with_reducible repeat (first | refine blk_drewN ?_ _ | refine blk_drew ?_ | refine blk_alloc ?_ _)); refine blk_far ?_ NB119_127.out _; (with_reducible repeat (first | refine blk_drewN ?_ _ | refine blk_drew ?_ | refine blk_alloc ?_ _)); refine blk_far ?_ NB119_127.out _; (with_reducible repeat (first | refine blk_drewN ?_ _ | refine blk_drew ?_ | refine blk_alloc ?_ _)); exact BK119.out⟩, ⟨by repeat (first | (with_reducible first | exact HB.out | apply below_alloc | apply pw_below_drewN | apply below_drew1 | refine below_set ?_ GE114.out | refine below_set ?_ GE115.out | refine below_set ?_ GE119.out | refine below_set ?_ GE127.out) | exact HB.out)⟩⟩
                          · rw [if_neg c47] at H
                            have c47b0 : decide (x9_3 < ((rd_T47 l0 x39_3).f1)) = false := decide_eq_false c47
                            clear c47
                            have H' := Aside0.mk H
                            clear H
                            have p126 : 0 ≤ (x39_3 : Int) := of_decide_eq_true (by first | (with_reducible assumption) | assumption)
                            have q126 : x39_3 < (l0.length : Int) := of_decide_eq_true (by first | (with_reducible assumption) | assumption)
                            obtain ⟨ad126, e126, hx126_0, hx126_1⟩ := at_T47 HR0.out x39_3 p126 q126
                            cases e126
                            replace hx126_0 := (HB.out.cell (World.block_lt_of_cell? w _ hx126_0)).trans hx126_0
                            replace hx126_1 := (HB.out.cell (World.block_lt_of_cell? w _ hx126_1)).trans hx126_1
                            replace p126 := eq_true p126
                            replace q126 := eq_true q126
                            go_wp2_with (first | ((with_reducible refine gate_dst (N := 11) rfl ?_); refine box_event ?hg (N := 11) ?hd (cs := #[.int .i64 0, .int .i64 0]) (t := 47) ?hr ?_; (case hd => rfl); (case hg => rfl); (case hr => first | (go_simp; done) | (go_simp; rfl)); intro gb127 hg w74 hbox hb; have n0_ := Aside0.mk (Kd.R_below (by (with_reducible repeat (first | apply Kd.R_alloc | apply Kd.R_drewN | apply Kd.R_drew)); exact HO_120000.out) hb); have n1_ := Aside0.mk (Kd.R_below (Kd.R_elderB (by (with_reducible repeat (first | apply Kd.R_alloc | apply Kd.R_drewN | apply Kd.R_drew)); exact HO_120001.out) gb127 (Nat.le_of_eq hg.symm)) hb); have n2_ := Aside0.mk (Kd.R_below (by (with_reducible repeat (first | apply Kd.R_alloc | apply Kd.R_drewN | apply Kd.R_drew)); exact HO_120002.out) hb); have n3_ := Aside0.mk (blk_below (g := gb114) (o := .cells #[.int .i64 a1_0, .int .i64 a1_1] 47 (0, 0)) (by (with_reducible repeat (first | refine blk_drewN ?_ _ | refine blk_drew ?_ | refine blk_alloc ?_ _)); exact BK114.out) hb); have n4_ := Aside0.mk (blk_below (g := gb115) (o := .cells #[.slice none 0 0, .slice none 0 0, .slice none 0 0] 54 (0, 0)) (by (with_reducible repeat (first | refine blk_drewN ?_ _ | refine blk_drew ?_ | refine blk_alloc ?_ _)); exact BK115.out) hb); have n5_ := Aside0.mk (blk_below (g := gb119) (o := .cells #[u120000, u120001, u120002] 54 (0, 0)) (by (with_reducible repeat (first | refine blk_drewN ?_ _ | refine blk_drew ?_ | refine blk_alloc ?_ _)); exact BK119.out) hb); have n6_ := Aside0.mk (below_step (by repeat (first | (with_reducible first | exact HB.out | apply below_alloc | apply pw_below_drewN | apply below_drew1 | refine below_set ?_ GE114.out | refine below_set ?_ GE115.out | refine below_set ?_ GE119.out) | exact HB.out)) hb); have n7_ := Aside0.mk (hbox); have n8_ := Aside0.mk ((by rw [hg]; exact (below_size (by repeat (first | (with_reducible first | exact HB.out | apply below_alloc | apply pw_below_drewN | apply below_drew1 | refine below_set ?_ GE114.out | refine below_set ?_ GE115.out | refine below_set ?_ GE119.out) | exact HB.out))) : w.heap.size ≤ gb127)); have n9_ := Aside0.mk ((by rw [hg]; exact (below_size (by repeat (first | (with_reducible first | exact HB.out | apply below_alloc | apply pw_below_drewN | apply below_drew1 | refine below_set ?_ GE114.out | refine below_set ?_ GE115.out | refine below_set ?_ GE119.out) | exact HB.out))) : w.heap.size ≤ gb127)); have n10_ := Aside0.mk ((by rw [hg]; exact Nat.ne_of_lt (blk_lt (g := gb114) (o := .cells #[.int .i64 a1_0, .int .i64 a1_1] 47 (0, 0)) (by (with_reducible repeat (first | refine blk_drewN ?_ _ | refine blk_drew ?_ | refine blk_alloc ?_ _)); exact BK114.out)) : gb114 ≠ gb127)); have n11_ := Aside0.mk ((by rw [hg]; exact Nat.ne_of_gt (blk_lt (g := gb114) (o := .cells #[.int .i64 a1_0, .int .i64 a1_1] 47 (0, 0)) (by (with_reducible repeat (first | refine blk_drewN ?_ _ | refine blk_drew ?_ | refine blk_alloc ?_ _)); exact BK114.out)) : gb127 ≠ gb114)); have n12_ := Aside0.mk ((by rw [hg]; exact Nat.ne_of_lt (blk_lt (g := gb115) (o := .cells #[.slice none 0 0, .slice none 0 0, .slice none 0 0] 54 (0, 0)) (by (with_reducible repeat (first | refine blk_drewN ?_ _ | refine blk_drew ?_ | refine blk_alloc ?_ _)); exact BK115.out)) : gb115 ≠ gb127)); have n13_ := Aside0.mk ((by rw [hg]; exact Nat.ne_of_gt (blk_lt (g := gb115) (o := .cells #[.slice none 0 0, .slice none 0 0, .slice none 0 0] 54 (0, 0)) (by (with_reducible repeat (first | refine blk_drewN ?_ _ | refine blk_drew ?_ | refine blk_alloc ?_ _)); exact BK115.out)) : gb127 ≠ gb115)); have n14_ := Aside0.mk ((by rw [hg]; exact Nat.ne_of_lt (blk_lt (g := gb119) (o := .cells #[u120000, u120001, u120002] 54 (0, 0)) (by (with_reducible repeat (first | refine blk_drewN ?_ _ | refine blk_drew ?_ | refine blk_alloc ?_ _)); exact BK119.out)) : gb119 ≠ gb127)); have n15_ := Aside0.mk ((by rw [hg]; exact Nat.ne_of_gt (blk_lt (g := gb119) (o := .cells #[u120000, u120001, u120002] 54 (0, 0)) (by (with_reducible repeat (first | refine blk_drewN ?_ _ | refine blk_drew ?_ | refine blk_alloc ?_ _)); exact BK119.out)) : gb127 ≠ gb119)); clear HO_120000; clear HO_120001; clear HO_120002; clear BK114; clear BK115; clear BK119; clear HB; have HO_120000 := n0_; have HO_120001 := n1_; have HO_120002 := n2_; have BK114 := n3_; have BK115 := n4_; have BK119 := n5_; have HB := n6_; have BK127 := n7_; have GW127 := n8_; have GE127 := n9_; have NB114_127 := n10_; have NB127_114 := n11_; have NB115_127 := n12_; have NB127_115 := n13_; have NB119_127 := n14_; have NB127_119 := n15_; clear n0_ n1_ n2_ n3_ n4_ n5_ n6_ n7_ n8_ n9_ n10_ n11_ n12_ n13_ n14_ n15_; clear hb hbox hg; have hnb75 := NB127_114.out; have hnc75 := NB114_127.out; have hnb76 := NB127_115.out; have hnc76 := NB115_127.out; have hnb77 := NB127_119.out; have hnc77 := NB119_127.out; have hcz78_0 : w74.cell? ⟨gb127, 0, none⟩ = some (.int .i64 0) := (blk_cell BK127.out 0).trans rfl; have hcz78_1 : w74.cell? ⟨gb127, 1, none⟩ = some (.int .i64 0) := (blk_cell BK127.out 1).trans rfl; have hfz78_0 := blk_frozen BK127.out 0; have hfz78_1 := blk_frozen BK127.out 1; have hnb79 := NB114_115.out; have hnc79 := NB115_114.out; have hnb80 := NB114_119.out; have hnc80 := NB119_114.out; have hcz81_0 : w74.cell? ⟨gb114, 0, none⟩ = some (.int .i64 a1_0) := (blk_cell BK114.out 0).trans rfl; have hcz81_1 : w74.cell? ⟨gb114, 1, none⟩ = some (.int .i64 a1_1) := (blk_cell BK114.out 1).trans rfl; have hfz81_0 := blk_frozen BK114.out 0; have hfz81_1 := blk_frozen BK114.out 1))
                            go_roundg k3
                            case measure => have := HJ3.out; have := HK2.out; have := HK3.out; omega
                            case rel => exact ⟨(x9_3), (wrap64 (x39_3 + 1)), (by first | rfl | (simp; done) | (simp [*]; done)), (by first | rfl | (simp; done) | (simp [*]; done)), H', ⟨by have := HJ3.out; have := HK2.out; have := HK3.out; omega⟩, ⟨by (with_reducible repeat (first | apply Kd.R_alloc | apply Kd.R_drewN | apply Kd.R_drew)); exact Kd.R_mono (Kd.R_far (p := ⟨gb127, 1, none⟩) (Kd.R_far (p := ⟨gb127, 0, none⟩) (Kd.R_types HO_120000.out BK127.out (by decide)) (fun _ hk => hk.2) (.int .i64 ((rd_T47 l0 x39_3).f0))) (fun _ hk => hk.2) (.int .i64 ((rd_T47 l0 x39_3).f1))) (fun _ hk => hk.1)⟩, ⟨by (with_reducible repeat (first | apply Kd.R_alloc | apply Kd.R_drewN | apply Kd.R_drew)); exact Kd.R_mono (Kd.R_far (p := ⟨gb127, 1, none⟩) (Kd.R_far (p := ⟨gb127, 0, none⟩) (Kd.R_mono HO_120001.out (fun k_ hk => (⟨hk, hk.2⟩ : _ ∧ k_ ≠ gb127))) (fun _ hk => hk.2) (.int .i64 ((rd_T47 l0 x39_3).f0))) (fun _ hk => hk.2) (.int .i64 ((rd_T47 l0 x39_3).f1))) (fun _ hk => hk.1.1)⟩, ⟨by (with_reducible repeat (first | apply Kd.R_alloc | apply Kd.R_drewN | apply Kd.R_drew)); exact Kd.R_mono (Kd.R_far (p := ⟨gb127, 1, none⟩) (Kd.R_far (p := ⟨gb127, 0, none⟩) (Kd.R_types HO_120002.out BK127.out (by decide)) (fun _ hk => hk.2) (.int .i64 ((rd_T47 l0 x39_3).f0))) (fun _ hk => hk.2) (.int .i64 ((rd_T47 l0 x39_3).f1))) (fun _ hk => hk.1)⟩, ⟨by (with_reducible repeat (first | refine blk_drewN ?_ _ | refine blk_drew ?_ | refine blk_alloc ?_ _)); refine blk_far ?_ NB114_127.out _; (with_reducible repeat (first | refine blk_drewN ?_ _ | refine blk_drew ?_ | refine blk_alloc ?_ _)); refine blk_far ?_ NB114_127.out _; (with_reducible repeat (first | refine blk_drewN ?_ _ | refine blk_drew ?_ | refine blk_alloc ?_ _)); exact BK114.out⟩, ⟨by (with_reducible repeat (first | refine blk_drewN ?_ _ | refine blk_drew ?_ | refine blk_alloc ?_ _)); refine blk_far ?_ NB115_127.out _; (with_reducible repeat (first | refine blk_drewN ?_ _ | refine blk_drew ?_ | refine blk_alloc ?_ _)); refine blk_far ?_ NB115_127.out _; (with_reducible repeat (first | refine blk_drewN ?_ _ | refine blk_drew ?_ | refine blk_alloc ?_ _)); exact BK115.out⟩, ⟨by (with_reducible repeat (first | refine blk_drewN ?_ _ | refine blk_drew ?_ | refine blk_alloc ?_ _)); refine blk_far ?_ NB119_127.out _; (with_reducible repeat (first | refine blk_drewN ?_ _ | refine blk_drew ?_ | refine blk_alloc ?_ _)); refine blk_far ?_ NB119_127.out _; (with_reducible repeat (first | refine blk_drewN ?_ _ | refine blk_drew ?_ | refine blk_alloc ?_ _)); exact BK119.out⟩, ⟨by repeat (first | (with_reducible first | exact HB.out | apply below_alloc | apply pw_below_drewN | apply below_drew1 | refine below_set ?_ GE114.out | refine below_set ?_ GE115.out | refine below_set ?_ GE119.out | refine below_set ?_ GE127.out) | exact HB.out)⟩⟩
                        · rw [if_neg c46] at H
                          have c46b0 : decide (((rd_T47 l0 x39_3).f1) ≤ a1_1) = false := decide_eq_false c46
                          clear c46
                          have H' := Aside0.mk H
                          clear H
                          have p126 : 0 ≤ (x39_3 : Int) := of_decide_eq_true (by first | (with_reducible assumption) | assumption)
                          have q126 : x39_3 < (l0.length : Int) := of_decide_eq_true (by first | (with_reducible assumption) | assumption)
                          obtain ⟨ad126, e126, hx126_0, hx126_1⟩ := at_T47 HR0.out x39_3 p126 q126
                          cases e126
                          replace hx126_0 := (HB.out.cell (World.block_lt_of_cell? w _ hx126_0)).trans hx126_0
                          replace hx126_1 := (HB.out.cell (World.block_lt_of_cell? w _ hx126_1)).trans hx126_1
                          replace p126 := eq_true p126
                          replace q126 := eq_true q126
                          go_wp2_with (first | ((with_reducible refine gate_dst (N := 11) rfl ?_); refine box_event ?hg (N := 11) ?hd (cs := #[.int .i64 0, .int .i64 0]) (t := 47) ?hr ?_; (case hd => rfl); (case hg => rfl); (case hr => first | (go_simp; done) | (go_simp; rfl)); intro gb127 hg w82 hbox hb; have n0_ := Aside0.mk (Kd.R_below (by (with_reducible repeat (first | apply Kd.R_alloc | apply Kd.R_drewN | apply Kd.R_drew)); exact HO_120000.out) hb); have n1_ := Aside0.mk (Kd.R_below (Kd.R_elderB (by (with_reducible repeat (first | apply Kd.R_alloc | apply Kd.R_drewN | apply Kd.R_drew)); exact HO_120001.out) gb127 (Nat.le_of_eq hg.symm)) hb); have n2_ := Aside0.mk (Kd.R_below (by (with_reducible repeat (first | apply Kd.R_alloc | apply Kd.R_drewN | apply Kd.R_drew)); exact HO_120002.out) hb); have n3_ := Aside0.mk (blk_below (g := gb114) (o := .cells #[.int .i64 a1_0, .int .i64 a1_1] 47 (0, 0)) (by (with_reducible repeat (first | refine blk_drewN ?_ _ | refine blk_drew ?_ | refine blk_alloc ?_ _)); exact BK114.out) hb); have n4_ := Aside0.mk (blk_below (g := gb115) (o := .cells #[.slice none 0 0, .slice none 0 0, .slice none 0 0] 54 (0, 0)) (by (with_reducible repeat (first | refine blk_drewN ?_ _ | refine blk_drew ?_ | refine blk_alloc ?_ _)); exact BK115.out) hb); have n5_ := Aside0.mk (blk_below (g := gb119) (o := .cells #[u120000, u120001, u120002] 54 (0, 0)) (by (with_reducible repeat (first | refine blk_drewN ?_ _ | refine blk_drew ?_ | refine blk_alloc ?_ _)); exact BK119.out) hb); have n6_ := Aside0.mk (below_step (by repeat (first | (with_reducible first | exact HB.out | apply below_alloc | apply pw_below_drewN | apply below_drew1 | refine below_set ?_ GE114.out | refine below_set ?_ GE115.out | refine below_set ?_ GE119.out) | exact HB.out)) hb); have n7_ := Aside0.mk (hbox); have n8_ := Aside0.mk ((by rw [hg]; exact (below_size (by repeat (first | (with_reducible first | exact HB.out | apply below_alloc | apply pw_below_drewN | apply below_drew1 | refine below_set ?_ GE114.out | refine below_set ?_ GE115.out | refine below_set ?_ GE119.out) | exact HB.out))) : w.heap.size ≤ gb127)); have n9_ := Aside0.mk ((by rw [hg]; exact (below_size (by repeat (first | (with_reducible first | exact HB.out | apply below_alloc | apply pw_below_drewN | apply below_drew1 | refine below_set ?_ GE114.out | refine below_set ?_ GE115.out | refine below_set ?_ GE119.out) | exact HB.out))) : w.heap.size ≤ gb127)); have n10_ := Aside0.mk ((by rw [hg]; exact Nat.ne_of_lt (blk_lt (g := gb114) (o := .cells #[.int .i64 a1_0, .int .i64 a1_1] 47 (0, 0)) (by (with_reducible repeat (first | refine blk_drewN ?_ _ | refine blk_drew ?_ | refine blk_alloc ?_ _)); exact BK114.out)) : gb114 ≠ gb127)); have n11_ := Aside0.mk ((by rw [hg]; exact Nat.ne_of_gt (blk_lt (g := gb114) (o := .cells #[.int .i64 a1_0, .int .i64 a1_1] 47 (0, 0)) (by (with_reducible repeat (first | refine blk_drewN ?_ _ | refine blk_drew ?_ | refine blk_alloc ?_ _)); exact BK114.out)) : gb127 ≠ gb114)); have n12_ := Aside0.mk ((by rw [hg]; exact Nat.ne_of_lt (blk_lt (g := gb115) (o := .cells #[.slice none 0 0, .slice none 0 0, .slice none 0 0] 54 (0, 0)) (by (with_reducible repeat (first | refine blk_drewN ?_ _ | refine blk_drew ?_ | refine blk_alloc ?_ _)); exact BK115.out)) : gb115 ≠ gb127)); have n13_ := Aside0.mk ((by rw [hg]; exact Nat.ne_of_gt (blk_lt (g := gb115) (o := .cells #[.slice none 0 0, .slice none 0 0, .slice none 0 0] 54 (0, 0)) (by (with_reducible repeat (first | refine blk_drewN ?_ _ | refine blk_drew ?_ | refine blk_alloc ?_ _)); exact BK115.out)) : gb127 ≠ gb115)); have n14_ := Aside0.mk ((by rw [hg]; exact Nat.ne_of_lt (blk_lt (g := gb119) (o := .cells #[u120000, u120001, u120002] 54 (0, 0)) (by (with_reducible repeat (first | refine blk_drewN ?_ _ | refine blk_drew ?_ | refine blk_alloc ?_ _)); exact BK119.out)) : gb119 ≠ gb127)); have n15_ := Aside0.mk ((by rw [hg]; exact Nat.ne_of_gt (blk_lt (g := gb119) (o := .cells #[u120000, u120001, u120002] 54 (0, 0)) (by (with_reducible repeat (first | refine blk_drewN ?_ _ | refine blk_drew ?_ | refine blk_alloc ?_ _)); exact BK119.out)) : gb127 ≠ gb119)); clear HO_120000; clear HO_120001; clear HO_120002; clear BK114; clear BK115; clear BK119; clear HB; have HO_120000 := n0_; have HO_120001 := n1_; have HO_120002 := n2_; have BK114 := n3_; have BK115 := n4_; have BK119 := n5_; have HB := n6_; have BK127 := n7_; have GW127 := n8_; have GE127 := n9_; have NB114_127 := n10_; have NB127_114 := n11_; have NB115_127 := n12_; have NB127_115 := n13_; have NB119_127 := n14_; have NB127_119 := n15_; clear n0_ n1_ n2_ n3_ n4_ n5_ n6_ n7_ n8_ n9_ n10_ n11_ n12_ n13_ n14_ n15_; clear hb hbox hg; have hnb83 := NB127_114.out; have hnc83 := NB114_127.out; have hnb84 := NB127_115.out; have hnc84 := NB115_127.out; have hnb85 := NB127_119.out; have hnc85 := NB119_127.out; have hcz86_0 : w82.cell? ⟨gb127, 0, none⟩ = some (.int .i64 0) := (blk_cell BK127.out 0).trans rfl; have hcz86_1 : w82.cell? ⟨gb127, 1, none⟩ = some (.int .i64 0) := (blk_cell BK127.out 1).trans rfl; have hfz86_0 := blk_frozen BK127.out 0; have hfz86_1 := blk_frozen BK127.out 1; have hnb87 := NB114_115.out; have hnc87 := NB115_114.out; have hnb88 := NB114_119.out; have hnc88 := NB119_114.out; have hcz89_0 : w82.cell? ⟨gb114, 0, none⟩ = some (.int .i64 a1_0) := (blk_cell BK114.out 0).trans rfl; have hcz89_1 : w82.cell? ⟨gb114, 1, none⟩ = some (.int .i64 a1_1) := (blk_cell BK114.out 1).trans rfl; have hfz89_0 := blk_frozen BK114.out 0; have hfz89_1 := blk_frozen BK114.out 1))
                          go_roundg k3
                          case measure => have := HJ3.out; have := HK2.out; have := HK3.out; omega
                          case rel => exact ⟨(x9_3), (wrap64 (x39_3 + 1)), (by first | rfl | (simp; done) | (simp [*]; done)), (by first | rfl | (simp; done) | (simp [*]; done)), H', ⟨by have := HJ3.out; have := HK2.out; have := HK3.out; omega⟩, ⟨by (with_reducible repeat (first | apply Kd.R_alloc | apply Kd.R_drewN | apply Kd.R_drew)); exact Kd.R_mono (Kd.R_far (p := ⟨gb127, 1, none⟩) (Kd.R_far (p := ⟨gb127, 0, none⟩) (Kd.R_types HO_120000.out BK127.out (by decide)) (fun _ hk => hk.2) (.int .i64 ((rd_T47 l0 x39_3).f0))) (fun _ hk => hk.2) (.int .i64 ((rd_T47 l0 x39_3).f1))) (fun _ hk => hk.1)⟩, ⟨by (with_reducible repeat (first | apply Kd.R_alloc | apply Kd.R_drewN | apply Kd.R_drew)); exact Kd.R_mono (Kd.R_far (p := ⟨gb127, 1, none⟩) (Kd.R_far (p := ⟨gb127, 0, none⟩) (Kd.R_mono HO_120001.out (fun k_ hk => (⟨hk, hk.2⟩ : _ ∧ k_ ≠ gb127))) (fun _ hk => hk.2) (.int .i64 ((rd_T47 l0 x39_3).f0))) (fun _ hk => hk.2) (.int .i64 ((rd_T47 l0 x39_3).f1))) (fun _ hk => hk.1.1)⟩, ⟨by (with_reducible repeat (first | apply Kd.R_alloc | apply Kd.R_drewN | apply Kd.R_drew)); exact Kd.R_mono (Kd.R_far (p := ⟨gb127, 1, none⟩) (Kd.R_far (p := ⟨gb127, 0, none⟩) (Kd.R_types HO_120002.out BK127.out (by decide)) (fun _ hk => hk.2) (.int .i64 ((rd_T47 l0 x39_3).f0))) (fun _ hk => hk.2) (.int .i64 ((rd_T47 l0 x39_3).f1))) (fun _ hk => hk.1)⟩, ⟨by (with_reducible repeat (first | refine blk_drewN ?_ _ | refine blk_drew ?_ | refine blk_alloc ?_ _)); refine blk_far ?_ NB114_127.out _; (with_reducible repeat (first | refine blk_drewN ?_ _ | refine blk_drew ?_ | refine blk_alloc ?_ _)); refine blk_far ?_ NB114_127.out _; (with_reducible repeat (first | refine blk_drewN ?_ _ | refine blk_drew ?_ | refine blk_alloc ?_ _)); exact BK114.out⟩, ⟨by (with_reducible repeat (first | refine blk_drewN ?_ _ | refine blk_drew ?_ | refine blk_alloc ?_ _)); refine blk_far ?_ NB115_127.out _; (with_reducible repeat (first | refine blk_drewN ?_ _ | refine blk_drew ?_ | refine blk_alloc ?_ _)); refine blk_far ?_ NB115_127.out _; (with_reducible repeat (first | refine blk_drewN ?_ _ | refine blk_drew ?_ | refine blk_alloc ?_ _)); exact BK115.out⟩, ⟨by (with_reducible repeat (first | refine blk_drewN ?_ _ | refine blk_drew ?_ | refine blk_alloc ?_ _)); refine blk_far ?_ NB119_127.out _; (with_reducible repeat (first | refine blk_drewN ?_ _ | refine blk_drew ?_ | refine blk_alloc ?_ _)); refine blk_far ?_ NB119_127.out _; (with_reducible repeat (first | refine blk_drewN ?_ _ | refine blk_drew ?_ | refine blk_alloc ?_ _)); exact BK119.out⟩, ⟨by repeat (first | (with_reducible first | exact HB.out | apply below_alloc | apply pw_below_drewN | apply below_drew1 | refine below_set ?_ GE114.out | refine below_set ?_ GE115.out | refine below_set ?_ GE119.out | refine below_set ?_ GE127.out) | exact HB.out)⟩⟩
                      · rw [if_neg c45] at H
                        have c45b0 : (((rd_T47 l0 x39_3).f0) == x8_2) = false := beq_eq_false_iff_ne.mpr c45
                        have c45b1 : (((rd_T47 l0 x39_3).f0) != x8_2) = true := bne_iff_ne.mpr c45
                        have H' := Aside0.mk H
                        clear H
                        have p126 : 0 ≤ (x39_3 : Int) := of_decide_eq_true (by first | (with_reducible assumption) | assumption)
                        have q126 : x39_3 < (l0.length : Int) := of_decide_eq_true (by first | (with_reducible assumption) | assumption)
                        obtain ⟨ad126, e126, hx126_0, hx126_1⟩ := at_T47 HR0.out x39_3 p126 q126
                        cases e126
                        replace hx126_0 := (HB.out.cell (World.block_lt_of_cell? w _ hx126_0)).trans hx126_0
                        replace hx126_1 := (HB.out.cell (World.block_lt_of_cell? w _ hx126_1)).trans hx126_1
                        replace p126 := eq_true p126
                        replace q126 := eq_true q126
                        go_wp2_with (first | ((with_reducible refine gate_dst (N := 11) rfl ?_); refine box_event ?hg (N := 11) ?hd (cs := #[.int .i64 0, .int .i64 0]) (t := 47) ?hr ?_; (case hd => rfl); (case hg => rfl); (case hr => first | (go_simp; done) | (go_simp; rfl)); intro gb127 hg w90 hbox hb; have n0_ := Aside0.mk (Kd.R_below (by (with_reducible repeat (first | apply Kd.R_alloc | apply Kd.R_drewN | apply Kd.R_drew)); exact HO_120000.out) hb); have n1_ := Aside0.mk (Kd.R_below (Kd.R_elderB (by (with_reducible repeat (first | apply Kd.R_alloc | apply Kd.R_drewN | apply Kd.R_drew)); exact HO_120001.out) gb127 (Nat.le_of_eq hg.symm)) hb); have n2_ := Aside0.mk (Kd.R_below (by (with_reducible repeat (first | apply Kd.R_alloc | apply Kd.R_drewN | apply Kd.R_drew)); exact HO_120002.out) hb); have n3_ := Aside0.mk (blk_below (g := gb114) (o := .cells #[.int .i64 a1_0, .int .i64 a1_1] 47 (0, 0)) (by (with_reducible repeat (first | refine blk_drewN ?_ _ | refine blk_drew ?_ | refine blk_alloc ?_ _)); exact BK114.out) hb); have n4_ := Aside0.mk (blk_below (g := gb115) (o := .cells #[.slice none 0 0, .slice none 0 0, .slice none 0 0] 54 (0, 0)) (by (with_reducible repeat (first | refine blk_drewN ?_ _ | refine blk_drew ?_ | refine blk_alloc ?_ _)); exact BK115.out) hb); have n5_ := Aside0.mk (blk_below (g := gb119) (o := .cells #[u120000, u120001, u120002] 54 (0, 0)) (by (with_reducible repeat (first | refine blk_drewN ?_ _ | refine blk_drew ?_ | refine blk_alloc ?_ _)); exact BK119.out) hb); have n6_ := Aside0.mk (below_step (by repeat (first | (with_reducible first | exact HB.out | apply below_alloc | apply pw_below_drewN | apply below_drew1 | refine below_set ?_ GE114.out | refine below_set ?_ GE115.out | refine below_set ?_ GE119.out) | exact HB.out)) hb); have n7_ := Aside0.mk (hbox); have n8_ := Aside0.mk ((by rw [hg]; exact (below_size (by repeat (first | (with_reducible first | exact HB.out | apply below_alloc | apply pw_below_drewN | apply below_drew1 | refine below_set ?_ GE114.out | refine below_set ?_ GE115.out | refine below_set ?_ GE119.out) | exact HB.out))) : w.heap.size ≤ gb127)); have n9_ := Aside0.mk ((by rw [hg]; exact (below_size (by repeat (first | (with_reducible first | exact HB.out | apply below_alloc | apply pw_below_drewN | apply below_drew1 | refine below_set ?_ GE114.out | refine below_set ?_ GE115.out | refine below_set ?_ GE119.out) | exact HB.out))) : w.heap.size ≤ gb127)); have n10_ := Aside0.mk ((by rw [hg]; exact Nat.ne_of_lt (blk_lt (g := gb114) (o := .cells #[.int .i64 a1_0, .int .i64 a1_1] 47 (0, 0)) (by (with_reducible repeat (first | refine blk_drewN ?_ _ | refine blk_drew ?_ | refine blk_alloc ?_ _)); exact BK114.out)) : gb114 ≠ gb127)); have n11_ := Aside0.mk ((by rw [hg]; exact Nat.ne_of_gt (blk_lt (g := gb114) (o := .cells #[.int .i64 a1_0, .int .i64 a1_1] 47 (0, 0)) (by (with_reducible repeat (first | refine blk_drewN ?_ _ | refine blk_drew ?_ | refine blk_alloc ?_ _)); exact BK114.out)) : gb127 ≠ gb114)); have n12_ := Aside0.mk ((by rw [hg]; exact Nat.ne_of_lt (blk_lt (g := gb115) (o := .cells #[.slice none 0 0, .slice none 0 0, .slice none 0 0] 54 (0, 0)) (by (with_reducible repeat (first | refine blk_drewN ?_ _ | refine blk_drew ?_ | refine blk_alloc ?_ _)); exact BK115.out)) : gb115 ≠ gb127)); have n13_ := Aside0.mk ((by rw [hg]; exact Nat.ne_of_gt (blk_lt (g := gb115) (o := .cells #[.slice none 0 0, .slice none 0 0, .slice none 0 0] 54 (0, 0)) (by (with_reducible repeat (first | refine blk_drewN ?_ _ | refine blk_drew ?_ | refine blk_alloc ?_ _)); exact BK115.out)) : gb127 ≠ gb115)); have n14_ := Aside0.mk ((by rw [hg]; exact Nat.ne_of_lt (blk_lt (g := gb119) (o := .cells #[u120000, u120001, u120002] 54 (0, 0)) (by (with_reducible repeat (first | refine blk_drewN ?_ _ | refine blk_drew ?_ | refine blk_alloc ?_ _)); exact BK119.out)) : gb119 ≠ gb127)); have n15_ := Aside0.mk ((by rw [hg]; exact Nat.ne_of_gt (blk_lt (g := gb119) (o := .cells #[u120000, u120001, u120002] 54 (0, 0)) (by (with_reducible repeat (first | refine blk_drewN ?_ _ | refine blk_drew ?_ | refine blk_alloc ?_ _)); exact BK119.out)) : gb127 ≠ gb119)); clear HO_120000; clear HO_120001; clear HO_120002; clear BK114; clear BK115; clear BK119; clear HB; have HO_120000 := n0_; have HO_120001 := n1_; have HO_120002 := n2_; have BK114 := n3_; have BK115 := n4_; have BK119 := n5_; have HB := n6_; have BK127 := n7_; have GW127 := n8_; have GE127 := n9_; have NB114_127 := n10_; have NB127_114 := n11_; have NB115_127 := n12_; have NB127_115 := n13_; have NB119_127 := n14_; have NB127_119 := n15_; clear n0_ n1_ n2_ n3_ n4_ n5_ n6_ n7_ n8_ n9_ n10_ n11_ n12_ n13_ n14_ n15_; clear hb hbox hg; have hnb91 := NB127_114.out; have hnc91 := NB114_127.out; have hnb92 := NB127_115.out; have hnc92 := NB115_127.out; have hnb93 := NB127_119.out; have hnc93 := NB119_127.out; have hcz94_0 : w90.cell? ⟨gb127, 0, none⟩ = some (.int .i64 0) := (blk_cell BK127.out 0).trans rfl; have hcz94_1 : w90.cell? ⟨gb127, 1, none⟩ = some (.int .i64 0) := (blk_cell BK127.out 1).trans rfl; have hfz94_0 := blk_frozen BK127.out 0; have hfz94_1 := blk_frozen BK127.out 1))
                        go_roundg k3
                        case measure => have := HJ3.out; have := HK2.out; have := HK3.out; omega
                        case rel => exact ⟨(x9_3), (wrap64 (x39_3 + 1)), (by first | rfl | (simp; done) | (simp [*]; done)), (by first | rfl | (simp; done) | (simp [*]; done)), H', ⟨by have := HJ3.out; have := HK2.out; have := HK3.out; omega⟩, ⟨by (with_reducible repeat (first | apply Kd.R_alloc | apply Kd.R_drewN | apply Kd.R_drew)); exact Kd.R_mono (Kd.R_far (p := ⟨gb127, 1, none⟩) (Kd.R_far (p := ⟨gb127, 0, none⟩) (Kd.R_types HO_120000.out BK127.out (by decide)) (fun _ hk => hk.2) (.int .i64 ((rd_T47 l0 x39_3).f0))) (fun _ hk => hk.2) (.int .i64 ((rd_T47 l0 x39_3).f1))) (fun _ hk => hk.1)⟩, ⟨by (with_reducible repeat (first | apply Kd.R_alloc | apply Kd.R_drewN | apply Kd.R_drew)); exact Kd.R_mono (Kd.R_far (p := ⟨gb127, 1, none⟩) (Kd.R_far (p := ⟨gb127, 0, none⟩) (Kd.R_mono HO_120001.out (fun k_ hk => (⟨hk, hk.2⟩ : _ ∧ k_ ≠ gb127))) (fun _ hk => hk.2) (.int .i64 ((rd_T47 l0 x39_3).f0))) (fun _ hk => hk.2) (.int .i64 ((rd_T47 l0 x39_3).f1))) (fun _ hk => hk.1.1)⟩, ⟨by (with_reducible repeat (first | apply Kd.R_alloc | apply Kd.R_drewN | apply Kd.R_drew)); exact Kd.R_mono (Kd.R_far (p := ⟨gb127, 1, none⟩) (Kd.R_far (p := ⟨gb127, 0, none⟩) (Kd.R_types HO_120002.out BK127.out (by decide)) (fun _ hk => hk.2) (.int .i64 ((rd_T47 l0 x39_3).f0))) (fun _ hk => hk.2) (.int .i64 ((rd_T47 l0 x39_3).f1))) (fun _ hk => hk.1)⟩, ⟨by (with_reducible repeat (first | refine blk_drewN ?_ _ | refine blk_drew ?_ | refine blk_alloc ?_ _)); refine blk_far ?_ NB114_127.out _; (with_reducible repeat (first | refine blk_drewN ?_ _ | refine blk_drew ?_ | refine blk_alloc ?_ _)); refine blk_far ?_ NB114_127.out _; (with_reducible repeat (first | refine blk_drewN ?_ _ | refine blk_drew ?_ | refine blk_alloc ?_ _)); exact BK114.out⟩, ⟨by (with_reducible repeat (first | refine blk_drewN ?_ _ | refine blk_drew ?_ | refine blk_alloc ?_ _)); refine blk_far ?_ NB115_127.out _; (with_reducible repeat (first | refine blk_drewN ?_ _ | refine blk_drew ?_ | refine blk_alloc ?_ _)); refine blk_far ?_ NB115_127.out _; (with_reducible repeat (first | refine blk_drewN ?_ _ | refine blk_drew ?_ | refine blk_alloc ?_ _)); exact BK115.out⟩, ⟨by (with_reducible repeat (first | refine blk_drewN ?_ _ | refine blk_drew ?_ | refine blk_alloc ?_ _)); refine blk_far ?_ NB119_127.out _; (with_reducible repeat (first | refine blk_drewN ?_ _ | refine blk_drew ?_ | refine blk_alloc ?_ _)); refine blk_far ?_ NB119_127.out _; (with_reducible repeat (first | refine blk_drewN ?_ _ | refine blk_drew ?_ | refine blk_alloc ?_ _)); exact BK119.out⟩, ⟨by repeat (first | (with_reducible first | exact HB.out | apply below_alloc | apply pw_below_drewN | apply below_drew1 | refine below_set ?_ GE114.out | refine below_set ?_ GE115.out | refine below_set ?_ GE119.out | refine below_set ?_ GE127.out) | exact HB.out)⟩⟩
                    · rw [if_neg c44] at H
                      exact absurd H (by simp)
                  · rw [if_neg c43] at H
                    exact absurd H (by simp)
                · rw [if_neg c42] at H
                  have c42b0 : decide (x39_3 < (l0.length : Int)) = false := decide_eq_false c42
                  clear c42
                  by_cases c95 : x9_3 > x8_2
                  · rw [if_pos c95] at H
                    have c95b0 : decide (x8_2 < x9_3) = true := decide_eq_true c95
                    clear c95
                    by_cases c96 : x120001_2.length < 8796093022208
                    · rw [if_pos c96] at H
                      have LMc96 := Aside0.mk c96
                      clear c96
                      obtain ⟨y128, hy128⟩ : ∃ y_ : List (S47), y_ = (x120001_2 ++ [(⟨x8_2, x9_3⟩ : S47)]) := ⟨_, rfl⟩
                      replace H : (if x120000_2.length < 17592186044416 then (impl_regionInside.l0 k3 l0 a2 x9_3 a1_0 a1_1 (x120000_2 ++ [x9_3]) y128 x120002_2) else (none)) = some (r1, r2, r3) := by first | (rw [hy128]; with_reducible exact H) | (have H2_ := (Option.bind_some _ _).symm.trans H; rw [hy128]; with_reducible exact H2_) | (have H2_ := (Option.bind_some _ _).symm.trans H; with_reducible exact H2_) | with_reducible exact H | (rw [hy128]; exact H) | exact H
                      have Ny128 := Aside0.mk hy128
                      clear hy128
                      by_cases c97 : x120000_2.length < 17592186044416
                      · rw [if_pos c97] at H
                        have LMc97 := Aside0.mk c97
                        clear c97
                        obtain ⟨y131, hy131⟩ : ∃ y_ : List Int, y_ = (x120000_2 ++ [x9_3]) := ⟨_, rfl⟩
                        replace H : (impl_regionInside.l0 k3 l0 a2 x9_3 a1_0 a1_1 y131 y128 x120002_2) = some (r1, r2, r3) := by first | (rw [hy131]; with_reducible exact H) | (have H2_ := (Option.bind_some _ _).symm.trans H; rw [hy131]; with_reducible exact H2_) | (have H2_ := (Option.bind_some _ _).symm.trans H; with_reducible exact H2_) | with_reducible exact H | (rw [hy131]; exact H) | exact H
                        have Ny131 := Aside0.mk hy131
                        clear hy131
                        have H' := Aside0.mk H
                        clear H
                        have hnb98 := NB119_114.out
                        have hnc98 := NB114_119.out
                        have hnb99 := NB119_115.out
                        have hnc99 := NB115_119.out
                        have hcz100_0 : wr.cell? ⟨gb119, 0, none⟩ = some (u120000) := (blk_cell BK119.out 0).trans rfl
                        have hcz100_1 : wr.cell? ⟨gb119, 1, none⟩ = some (u120001) := (blk_cell BK119.out 1).trans rfl
                        have hcz100_2 : wr.cell? ⟨gb119, 2, none⟩ = some (u120002) := (blk_cell BK119.out 2).trans rfl
                        have hfz100_0 := blk_frozen BK119.out 0
                        have hfz100_1 := blk_frozen BK119.out 1
                        have hfz100_2 := blk_frozen BK119.out 2
                        go_wp2_with (first | ((with_reducible refine gate_builtin (b := .append) (xs := #[.tmp 76, .tmp 80]) rfl ?_); at_builtin; refine Kd.R_append k47 (w0 := w) w.heap.size rfl (.tmp 76) (.tmp 80) 27 47 (.agg #[(.int .i64 0), (.int .i64 0)]) 16 rfl Try.underlying27 info47 rfl (by decide) (by omega) u120001 x120001_2 (⟨x8_2, x9_3⟩ : S47) [.int .i64 x8_2, .int .i64 x9_3] (fun k_ => k_ ≠ gb114) (fun _ => False) rfl rfl ?aP (fun _ hk => hk.elim) ?aF ?aO ?aB ?aS ?aL ?_; (case aP => exact k47_mkM _ _ _ (⟨x8_2, x9_3⟩ : S47)); (case aB => exact (by repeat (first | (with_reducible first | exact HB.out | apply below_alloc | apply pw_below_drewN | apply below_drew1 | refine below_set ?_ GE114.out | refine below_set ?_ GE115.out | refine below_set ?_ GE119.out) | exact HB.out))); (case aF => exact (fun k_ hk => Kd.freshB (g := gb114) (o := .cells #[.int .i64 a1_0, .int .i64 a1_1] 47 (0, 0)) (by (with_reducible repeat (first | refine blk_drewN ?_ _ | refine blk_drew ?_ | refine blk_alloc ?_ _)); exact BK114.out) k_ hk)); (case aO => exact (by (with_reducible repeat (first | apply Kd.R_alloc | apply Kd.R_drewN | apply Kd.R_drew)); exact HO_120001.out)); (case aS => exact (below_size (by repeat (first | (with_reducible first | exact HB.out | apply below_alloc | apply pw_below_drewN | apply below_drew1 | refine below_set ?_ GE114.out | refine below_set ?_ GE115.out | refine below_set ?_ GE119.out) | exact HB.out)))); (case aL => have := LMc96.out; omega); intro v129 w101 ho hb hg hat; rw [← Ny128.out] at ho; have n0_ := Aside0.mk (Kd.R_over' (by (with_reducible repeat (first | apply Kd.R_alloc | apply Kd.R_drewN | apply Kd.R_drew)); exact HO_120000.out) (Kd.R_typed (by (with_reducible repeat (first | apply Kd.R_alloc | apply Kd.R_drewN | apply Kd.R_drew)); exact HO_120001.out)) (by decide) hg); have n1_ := Aside0.mk (Kd.R_over' (by (with_reducible repeat (first | apply Kd.R_alloc | apply Kd.R_drewN | apply Kd.R_drew)); exact HO_120002.out) (Kd.R_typed (by (with_reducible repeat (first | apply Kd.R_alloc | apply Kd.R_drewN | apply Kd.R_drew)); exact HO_120001.out)) (by decide) hg); have n2_ := Aside0.mk (blk_grown (g := gb114) (o := .cells #[.int .i64 a1_0, .int .i64 a1_1] 47 (0, 0)) (by (with_reducible repeat (first | refine blk_drewN ?_ _ | refine blk_drew ?_ | refine blk_alloc ?_ _)); exact BK114.out) hg (Kd.R_away HO_120001.out (fun _ hk => hk))); have n3_ := Aside0.mk (blk_grown (g := gb115) (o := .cells #[.slice none 0 0, .slice none 0 0, .slice none 0 0] 54 (0, 0)) (by (with_reducible repeat (first | refine blk_drewN ?_ _ | refine blk_drew ?_ | refine blk_alloc ?_ _)); exact BK115.out) hg (Kd.R_ne HO_120001.out BK115.out (by decide))); have n4_ := Aside0.mk (blk_grown (g := gb119) (o := .cells #[u120000, u120001, u120002] 54 (0, 0)) (by (with_reducible repeat (first | refine blk_drewN ?_ _ | refine blk_drew ?_ | refine blk_alloc ?_ _)); exact BK119.out) hg (Kd.R_ne HO_120001.out BK119.out (by decide))); have n5_ := Aside0.mk (hb); have n6_ := Aside0.mk (ho); clear HO_120000; clear HO_120002; clear BK114; clear BK115; clear BK119; clear HB; clear HO_120001; have HO_120000 := n0_; have HO_120002 := n1_; have BK114 := n2_; have BK115 := n3_; have BK119 := n4_; have HB := n5_; have HO130 := n6_; clear n0_ n1_ n2_ n3_ n4_ n5_ n6_; clear ho hb hg hat; obtain ⟨Ao102, co102, eo102⟩ := Kd.R_slice HO130.out; subst eo102; have hcz103_0 : w101.cell? ⟨gb119, 0, none⟩ = some (u120000) := (blk_cell BK119.out 0).trans rfl; have hcz103_1 : w101.cell? ⟨gb119, 1, none⟩ = some (u120001) := (blk_cell BK119.out 1).trans rfl; have hcz103_2 : w101.cell? ⟨gb119, 2, none⟩ = some (u120002) := (blk_cell BK119.out 2).trans rfl; have hfz103_0 := blk_frozen BK119.out 0; have hfz103_1 := blk_frozen BK119.out 1; have hfz103_2 := blk_frozen BK119.out 2) | ((with_reducible refine gate_builtin (b := .append) (xs := #[.tmp 93, .tmp 95]) rfl ?_); at_builtin; refine Kd.R_append (Kd.int .i64) (w0 := w) w.heap.size rfl (.tmp 93) (.tmp 95) 24 3 (.int .i64 0) 8 rfl Try.underlying24 info3 rfl (by decide) (by omega) u120000 x120000_2 x9_3 [.int .i64 x9_3] (fun k_ => some k_ ≠ (u120002 : Value).ownBlock) (fun _ => False) rfl (by first | (go_simp; done) | (go_simp; rfl)) ?aP (fun _ hk => hk.elim) ?aF ?aO ?aB ?aS ?aL ?_; (case aP => exact rfl); (case aB => exact (by repeat (first | (with_reducible first | exact HB.out | apply below_alloc | apply pw_below_drewN | apply below_drew1 | refine below_set ?_ GE114.out | refine below_set ?_ GE115.out | refine below_set ?_ GE119.out) | exact HB.out))); (case aF => exact (fun k_ hk => Kd.fresh' (Kd.R_lt (by (with_reducible repeat (first | apply Kd.R_alloc | apply Kd.R_drewN | apply Kd.R_drew)); exact (Kd.R_mono (Kd.R_far (p := ⟨gb119, 1, none⟩) (Kd.R_types HO_120002.out BK119.out (by decide)) (fun _ hk => hk.2) (.slice Ao102 y128.length co102)) (fun _ h_ => h_.1)))) k_ hk)); (case aO => exact (by (with_reducible repeat (first | apply Kd.R_alloc | apply Kd.R_drewN | apply Kd.R_drew)); exact Kd.R_mono (Kd.R_far (p := ⟨gb119, 1, none⟩) (Kd.R_types HO_120000.out BK119.out (by decide)) (fun _ hk => hk.2) (.slice Ao102 y128.length co102)) (fun _ hk => hk.1))); (case aS => exact (below_size (by repeat (first | (with_reducible first | exact HB.out | apply below_alloc | apply pw_below_drewN | apply below_drew1 | refine below_set ?_ GE114.out | refine below_set ?_ GE115.out | refine below_set ?_ GE119.out) | exact HB.out)))); (case aL => have := LMc97.out; omega); intro v132 w104 ho hb hg hat; rw [← Ny131.out] at ho; have n0_ := Aside0.mk (Kd.R_after (ok := (fun _ => True)) (by (with_reducible repeat (first | apply Kd.R_alloc | apply Kd.R_drewN | apply Kd.R_drew)); exact Kd.R_mono (Kd.R_far (p := ⟨gb119, 1, none⟩) (Kd.R_types HO_120002.out BK119.out (by decide)) (fun _ hk => hk.2) (.slice Ao102 y128.length co102)) (fun _ hk => ⟨trivial, hk.1⟩)) hg hat); have n1_ := Aside0.mk (blk_grown (g := gb114) (o := .cells #[.int .i64 a1_0, .int .i64 a1_1] 47 (0, 0)) (by (with_reducible repeat (first | refine blk_drewN ?_ _ | refine blk_drew ?_ | refine blk_alloc ?_ _)); refine blk_far ?_ NB114_119.out _; (with_reducible repeat (first | refine blk_drewN ?_ _ | refine blk_drew ?_ | refine blk_alloc ?_ _)); exact BK114.out) hg (Kd.R_ne HO_120000.out BK114.out (by decide))); have n2_ := Aside0.mk (blk_grown (g := gb115) (o := .cells #[.slice none 0 0, .slice none 0 0, .slice none 0 0] 54 (0, 0)) (by (with_reducible repeat (first | refine blk_drewN ?_ _ | refine blk_drew ?_ | refine blk_alloc ?_ _)); refine blk_far ?_ NB115_119.out _; (with_reducible repeat (first | refine blk_drewN ?_ _ | refine blk_drew ?_ | refine blk_alloc ?_ _)); exact BK115.out) hg (Kd.R_ne HO_120000.out BK115.out (by decide))); have n3_ := Aside0.mk (blk_grown (g := gb119) (o := .cells #[u120000, .slice Ao102 y128.length co102, u120002] 54 (0, 0)) (by (with_reducible repeat (first | refine blk_drewN ?_ _ | refine blk_drew ?_ | refine blk_alloc ?_ _)); refine blk_put (cs := #[u120000, u120001, u120002]) ?_ 1 _ rfl; (with_reducible repeat (first | refine blk_drewN ?_ _ | refine blk_drew ?_ | refine blk_alloc ?_ _)); exact BK119.out) hg (Kd.R_ne HO_120000.out BK119.out (by decide))); have n4_ := Aside0.mk (Kd.R_over' (by (with_reducible repeat (first | apply Kd.R_alloc | apply Kd.R_drewN | apply Kd.R_drew)); exact (Kd.R_mono (Kd.R_far (p := ⟨gb119, 1, none⟩) (Kd.R_types HO130.out BK119.out (by decide)) (fun _ hk => hk.2) (.slice Ao102 y128.length co102)) (fun _ h_ => h_.1))) (Kd.R_typed (by (with_reducible repeat (first | apply Kd.R_alloc | apply Kd.R_drewN | apply Kd.R_drew)); exact (Kd.R_mono (Kd.R_far (p := ⟨gb119, 1, none⟩) (Kd.R_types HO_120000.out BK119.out (by decide)) (fun _ hk => hk.2) (.slice Ao102 y128.length co102)) (fun _ h_ => h_.1)))) (by decide) hg); have n5_ := Aside0.mk (hb); have n6_ := Aside0.mk (ho); clear HO_120002; clear BK114; clear BK115; clear BK119; clear HO130; clear HB; clear HO_120000; have HO_120002 := n0_; have BK114 := n1_; have BK115 := n2_; have BK119 := n3_; have HO130 := n4_; have HB := n5_; have HO133 := n6_; clear n0_ n1_ n2_ n3_ n4_ n5_ n6_; clear ho hb hg hat; obtain ⟨Ao105, co105, eo105⟩ := Kd.R_slice HO133.out; subst eo105; have hcz106_0 : w104.cell? ⟨gb119, 0, none⟩ = some (u120000) := (blk_cell BK119.out 0).trans rfl; have hcz106_1 : w104.cell? ⟨gb119, 1, none⟩ = some (.slice Ao102 y128.length co102) := (blk_cell BK119.out 1).trans rfl; have hcz106_2 : w104.cell? ⟨gb119, 2, none⟩ = some (u120002) := (blk_cell BK119.out 2).trans rfl; have hfz106_0 := blk_frozen BK119.out 0; have hfz106_1 := blk_frozen BK119.out 1; have hfz106_2 := blk_frozen BK119.out 2))
                        go_roundg k3
                        case measure => have := HJ3.out; have := HK2.out; have := HK3.out; omega
                        case rel => exact ⟨(x9_3), (y131), (y128), (x120002_2), (.slice Ao105 y131.length co105), (.slice Ao102 y128.length co102), (u120002), (by first | rfl | (simp; done) | (simp [*]; done)), H', ⟨by have := HJ3.out; have := HK2.out; have := HK3.out; omega⟩, ⟨by (with_reducible repeat (first | apply Kd.R_alloc | apply Kd.R_drewN | apply Kd.R_drew)); exact Kd.R_mono (Kd.R_far (p := ⟨gb119, 0, none⟩) (Kd.R_types HO133.out BK119.out (by decide)) (fun _ hk => hk.2) (.slice Ao105 y131.length co105)) (fun _ hk => hk.1)⟩, ⟨by (with_reducible repeat (first | apply Kd.R_alloc | apply Kd.R_drewN | apply Kd.R_drew)); exact Kd.R_mono (Kd.R_far (p := ⟨gb119, 0, none⟩) (Kd.R_types HO130.out BK119.out (by decide)) (fun _ hk => hk.2) (.slice Ao105 y131.length co105)) (fun _ hk => hk.1)⟩, ⟨by (with_reducible repeat (first | apply Kd.R_alloc | apply Kd.R_drewN | apply Kd.R_drew)); exact Kd.R_mono (Kd.R_far (p := ⟨gb119, 0, none⟩) (Kd.R_types HO_120002.out BK119.out (by decide)) (fun _ hk => hk.2) (.slice Ao105 y131.length co105)) (fun _ hk => hk.1.2)⟩, ⟨by (with_reducible repeat (first | refine blk_drewN ?_ _ | refine blk_drew ?_ | refine blk_alloc ?_ _)); refine blk_far ?_ NB114_119.out _; (with_reducible repeat (first | refine blk_drewN ?_ _ | refine blk_drew ?_ | refine blk_alloc ?_ _)); exact BK114.out⟩, ⟨by (with_reducible repeat (first | refine blk_drewN ?_ _ | refine blk_drew ?_ | refine blk_alloc ?_ _)); refine blk_far ?_ NB115_119.out _; (with_reducible repeat (first | refine blk_drewN ?_ _ | refine blk_drew ?_ | refine blk_alloc ?_ _)); exact BK115.out⟩, ⟨by (with_reducible repeat (first | refine blk_drewN ?_ _ | refine blk_drew ?_ | refine blk_alloc ?_ _)); refine blk_put (cs := #[u120000, .slice Ao102 y128.length co102, u120002]) ?_ 0 _ rfl; (with_reducible repeat (first | refine blk_drewN ?_ _ | refine blk_drew ?_ | refine blk_alloc ?_ _)); exact BK119.out⟩, ⟨by repeat (first | (with_reducible first | exact HB.out | apply below_alloc | apply pw_below_drewN | apply below_drew1 | refine below_set ?_ GE114.out | refine below_set ?_ GE115.out | refine below_set ?_ GE119.out) | exact HB.out)⟩⟩
                      · rw [if_neg c97] at H
                        exact absurd H (by simp)
                    · rw [if_neg c96] at H
                      exact absurd H (by simp)
                  · rw [if_neg c95] at H
                    have c95b0 : decide (x8_2 < x9_3) = false := decide_eq_false c95
                    clear c95
                    by_cases c107 : x120002_2.length < 17592186044416
                    · rw [if_pos c107] at H
                      have LMc107 := Aside0.mk c107
                      clear c107
                      obtain ⟨y134, hy134⟩ : ∃ y_ : List Int, y_ = (x120002_2 ++ [x8_2]) := ⟨_, rfl⟩
                      replace H : (if x120000_2.length < 17592186044416 then (impl_regionInside.l0 k3 l0 a2 (wrap64 (x8_2 + 1)) a1_0 a1_1 (x120000_2 ++ [wrap64 (x8_2 + 1)]) x120001_2 y134) else (none)) = some (r1, r2, r3) := by first | (rw [hy134]; with_reducible exact H) | (have H2_ := (Option.bind_some _ _).symm.trans H; rw [hy134]; with_reducible exact H2_) | (have H2_ := (Option.bind_some _ _).symm.trans H; with_reducible exact H2_) | with_reducible exact H | (rw [hy134]; exact H) | exact H
                      have Ny134 := Aside0.mk hy134
                      clear hy134
                      by_cases c108 : x120000_2.length < 17592186044416
                      · rw [if_pos c108] at H
                        have LMc108 := Aside0.mk c108
                        clear c108
                        obtain ⟨y137, hy137⟩ : ∃ y_ : List Int, y_ = (x120000_2 ++ [wrap64 (x8_2 + 1)]) := ⟨_, rfl⟩
                        replace H : (impl_regionInside.l0 k3 l0 a2 (wrap64 (x8_2 + 1)) a1_0 a1_1 y137 x120001_2 y134) = some (r1, r2, r3) := by first | (rw [hy137]; with_reducible exact H) | (have H2_ := (Option.bind_some _ _).symm.trans H; rw [hy137]; with_reducible exact H2_) | (have H2_ := (Option.bind_some _ _).symm.trans H; with_reducible exact H2_) | with_reducible exact H | (rw [hy137]; exact H) | exact H
                        have Ny137 := Aside0.mk hy137
                        clear hy137
                        have H' := Aside0.mk H
                        clear H
                        have hnb109 := NB119_114.out
                        have hnc109 := NB114_119.out
                        have hnb110 := NB119_115.out
                        have hnc110 := NB115_119.out
                        have hcz111_0 : wr.cell? ⟨gb119, 0, none⟩ = some (u120000) := (blk_cell BK119.out 0).trans rfl
                        have hcz111_1 : wr.cell? ⟨gb119, 1, none⟩ = some (u120001) := (blk_cell BK119.out 1).trans rfl
                        have hcz111_2 : wr.cell? ⟨gb119, 2, none⟩ = some (u120002) := (blk_cell BK119.out 2).trans rfl
                        have hfz111_0 := blk_frozen BK119.out 0
                        have hfz111_1 := blk_frozen BK119.out 1
                        have hfz111_2 := blk_frozen BK119.out 2
                        go_wp2_with (first | ((with_reducible refine gate_builtin (b := .append) (xs := #[.tmp 84, .tmp 86]) rfl ?_); at_builtin; refine Kd.R_append (Kd.int .i64) (w0 := w) w.heap.size rfl (.tmp 84) (.tmp 86) 24 3 (.int .i64 0) 8 rfl Try.underlying24 info3 rfl (by decide) (by omega) u120002 x120002_2 x8_2 [.int .i64 x8_2] (fun k_ => some k_ ≠ (u120000 : Value).ownBlock) (fun _ => False) rfl rfl ?aP (fun _ hk => hk.elim) ?aF ?aO ?aB ?aS ?aL ?_; (case aP => exact rfl); (case aB => exact (by repeat (first | (with_reducible first | exact HB.out | apply below_alloc | apply pw_below_drewN | apply below_drew1 | refine below_set ?_ GE114.out | refine below_set ?_ GE115.out | refine below_set ?_ GE119.out) | exact HB.out))); (case aF => exact (fun k_ hk => Kd.fresh' (Kd.R_lt (by (with_reducible repeat (first | apply Kd.R_alloc | apply Kd.R_drewN | apply Kd.R_drew)); exact HO_120000.out)) k_ hk)); (case aO => exact (by (with_reducible repeat (first | apply Kd.R_alloc | apply Kd.R_drewN | apply Kd.R_drew)); exact HO_120002.out)); (case aS => exact (below_size (by repeat (first | (with_reducible first | exact HB.out | apply below_alloc | apply pw_below_drewN | apply below_drew1 | refine below_set ?_ GE114.out | refine below_set ?_ GE115.out | refine below_set ?_ GE119.out) | exact HB.out)))); (case aL => have := LMc107.out; omega); intro v135 w112 ho hb hg hat; rw [← Ny134.out] at ho; have n0_ := Aside0.mk (Kd.R_after (ok := (fun _ => True)) (by (with_reducible repeat (first | apply Kd.R_alloc | apply Kd.R_drewN | apply Kd.R_drew)); exact Kd.R_mono HO_120000.out (fun _ hk => ⟨trivial, hk⟩)) hg hat); have n1_ := Aside0.mk (Kd.R_over' (by (with_reducible repeat (first | apply Kd.R_alloc | apply Kd.R_drewN | apply Kd.R_drew)); exact HO_120001.out) (Kd.R_typed (by (with_reducible repeat (first | apply Kd.R_alloc | apply Kd.R_drewN | apply Kd.R_drew)); exact HO_120002.out)) (by decide) hg); have n2_ := Aside0.mk (blk_grown (g := gb114) (o := .cells #[.int .i64 a1_0, .int .i64 a1_1] 47 (0, 0)) (by (with_reducible repeat (first | refine blk_drewN ?_ _ | refine blk_drew ?_ | refine blk_alloc ?_ _)); exact BK114.out) hg (Kd.R_ne HO_120002.out BK114.out (by decide))); have n3_ := Aside0.mk (blk_grown (g := gb115) (o := .cells #[.slice none 0 0, .slice none 0 0, .slice none 0 0] 54 (0, 0)) (by (with_reducible repeat (first | refine blk_drewN ?_ _ | refine blk_drew ?_ | refine blk_alloc ?_ _)); exact BK115.out) hg (Kd.R_ne HO_120002.out BK115.out (by decide))); have n4_ := Aside0.mk (blk_grown (g := gb119) (o := .cells #[u120000, u120001, u120002] 54 (0, 0)) (by (with_reducible repeat (first | refine blk_drewN ?_ _ | refine blk_drew ?_ | refine blk_alloc ?_ _)); exact BK119.out) hg (Kd.R_ne HO_120002.out BK119.out (by decide))); have n5_ := Aside0.mk (hb); have n6_ := Aside0.mk (ho); clear HO_120000; clear HO_120001; clear BK114; clear BK115; clear BK119; clear HB; clear HO_120002; have HO_120000 := n0_; have HO_120001 := n1_; have BK114 := n2_; have BK115 := n3_; have BK119 := n4_; have HB := n5_; have HO136 := n6_; clear n0_ n1_ n2_ n3_ n4_ n5_ n6_; clear ho hb hg hat; obtain ⟨Ao113, co113, eo113⟩ := Kd.R_slice HO136.out; subst eo113; have hcz114_0 : w112.cell? ⟨gb119, 0, none⟩ = some (u120000) := (blk_cell BK119.out 0).trans rfl; have hcz114_1 : w112.cell? ⟨gb119, 1, none⟩ = some (u120001) := (blk_cell BK119.out 1).trans rfl; have hcz114_2 : w112.cell? ⟨gb119, 2, none⟩ = some (u120002) := (blk_cell BK119.out 2).trans rfl; have hfz114_0 := blk_frozen BK119.out 0; have hfz114_1 := blk_frozen BK119.out 1; have hfz114_2 := blk_frozen BK119.out 2) | ((with_reducible refine gate_builtin (b := .append) (xs := #[.tmp 93, .tmp 95]) rfl ?_); at_builtin; refine Kd.R_append (Kd.int .i64) (w0 := w) w.heap.size rfl (.tmp 93) (.tmp 95) 24 3 (.int .i64 0) 8 rfl Try.underlying24 info3 rfl (by decide) (by omega) u120000 x120000_2 (wrap64 (x8_2 + 1)) [.int .i64 (wrap64 (x8_2 + 1))] (fun k_ => some k_ ≠ (.slice Ao113 y134.length co113 : Value).ownBlock) (fun _ => False) rfl (by first | (go_simp; done) | (go_simp; rfl)) ?aP (fun _ hk => hk.elim) ?aF ?aO ?aB ?aS ?aL ?_; (case aP => exact rfl); (case aB => exact (by repeat (first | (with_reducible first | exact HB.out | apply below_alloc | apply pw_below_drewN | apply below_drew1 | refine below_set ?_ GE114.out | refine below_set ?_ GE115.out | refine below_set ?_ GE119.out) | exact HB.out))); (case aF => exact (fun k_ hk => Kd.fresh' (Kd.R_lt (by (with_reducible repeat (first | apply Kd.R_alloc | apply Kd.R_drewN | apply Kd.R_drew)); exact (Kd.R_mono (Kd.R_far (p := ⟨gb119, 2, none⟩) (Kd.R_types HO136.out BK119.out (by decide)) (fun _ hk => hk.2) (.slice Ao113 y134.length co113)) (fun _ h_ => h_.1)))) k_ hk)); (case aO => exact (by (with_reducible repeat (first | apply Kd.R_alloc | apply Kd.R_drewN | apply Kd.R_drew)); exact Kd.R_mono (Kd.R_far (p := ⟨gb119, 2, none⟩) (Kd.R_types HO_120000.out BK119.out (by decide)) (fun _ hk => hk.2) (.slice Ao113 y134.length co113)) (fun _ hk => hk.1.2))); (case aS => exact (below_size (by repeat (first | (with_reducible first | exact HB.out | apply below_alloc | apply pw_below_drewN | apply below_drew1 | refine below_set ?_ GE114.out | refine below_set ?_ GE115.out | refine below_set ?_ GE119.out) | exact HB.out)))); (case aL => have := LMc108.out; omega); intro v138 w115 ho hb hg hat; rw [← Ny137.out] at ho; have n0_ := Aside0.mk (Kd.R_over' (by (with_reducible repeat (first | apply Kd.R_alloc | apply Kd.R_drewN | apply Kd.R_drew)); exact (Kd.R_mono (Kd.R_far (p := ⟨gb119, 2, none⟩) (Kd.R_types HO_120001.out BK119.out (by decide)) (fun _ hk => hk.2) (.slice Ao113 y134.length co113)) (fun _ h_ => h_.1))) (Kd.R_typed (by (with_reducible repeat (first | apply Kd.R_alloc | apply Kd.R_drewN | apply Kd.R_drew)); exact (Kd.R_mono (Kd.R_far (p := ⟨gb119, 2, none⟩) (Kd.R_types HO_120000.out BK119.out (by decide)) (fun _ hk => hk.2) (.slice Ao113 y134.length co113)) (fun _ h_ => h_.1)))) (by decide) hg); have n1_ := Aside0.mk (blk_grown (g := gb114) (o := .cells #[.int .i64 a1_0, .int .i64 a1_1] 47 (0, 0)) (by (with_reducible repeat (first | refine blk_drewN ?_ _ | refine blk_drew ?_ | refine blk_alloc ?_ _)); refine blk_far ?_ NB114_119.out _; (with_reducible repeat (first | refine blk_drewN ?_ _ | refine blk_drew ?_ | refine blk_alloc ?_ _)); exact BK114.out) hg (Kd.R_ne HO_120000.out BK114.out (by decide))); have n2_ := Aside0.mk (blk_grown (g := gb115) (o := .cells #[.slice none 0 0, .slice none 0 0, .slice none 0 0] 54 (0, 0)) (by (with_reducible repeat (first | refine blk_drewN ?_ _ | refine blk_drew ?_ | refine blk_alloc ?_ _)); refine blk_far ?_ NB115_119.out _; (with_reducible repeat (first | refine blk_drewN ?_ _ | refine blk_drew ?_ | refine blk_alloc ?_ _)); exact BK115.out) hg (Kd.R_ne HO_120000.out BK115.out (by decide))); have n3_ := Aside0.mk (blk_grown (g := gb119) (o := .cells #[u120000, u120001, .slice Ao113 y134.length co113] 54 (0, 0)) (by (with_reducible repeat (first | refine blk_drewN ?_ _ | refine blk_drew ?_ | refine blk_alloc ?_ _)); refine blk_put (cs := #[u120000, u120001, u120002]) ?_ 2 _ rfl; (with_reducible repeat (first | refine blk_drewN ?_ _ | refine blk_drew ?_ | refine blk_alloc ?_ _)); exact BK119.out) hg (Kd.R_ne HO_120000.out BK119.out (by decide))); have n4_ := Aside0.mk (Kd.R_after (ok := (fun _ => True)) (by (with_reducible repeat (first | apply Kd.R_alloc | apply Kd.R_drewN | apply Kd.R_drew)); exact Kd.R_mono (Kd.R_far (p := ⟨gb119, 2, none⟩) (Kd.R_types HO136.out BK119.out (by decide)) (fun _ hk => hk.2) (.slice Ao113 y134.length co113)) (fun _ hk => ⟨trivial, hk.1⟩)) hg hat); have n5_ := Aside0.mk (hb); have n6_ := Aside0.mk (ho); clear HO_120001; clear BK114; clear BK115; clear BK119; clear HO136; clear HB; clear HO_120000; have HO_120001 := n0_; have BK114 := n1_; have BK115 := n2_; have BK119 := n3_; have HO136 := n4_; have HB := n5_; have HO139 := n6_; clear n0_ n1_ n2_ n3_ n4_ n5_ n6_; clear ho hb hg hat; obtain ⟨Ao116, co116, eo116⟩ := Kd.R_slice HO139.out; subst eo116; have hcz117_0 : w115.cell? ⟨gb119, 0, none⟩ = some (u120000) := (blk_cell BK119.out 0).trans rfl; have hcz117_1 : w115.cell? ⟨gb119, 1, none⟩ = some (u120001) := (blk_cell BK119.out 1).trans rfl; have hcz117_2 : w115.cell? ⟨gb119, 2, none⟩ = some (.slice Ao113 y134.length co113) := (blk_cell BK119.out 2).trans rfl; have hfz117_0 := blk_frozen BK119.out 0; have hfz117_1 := blk_frozen BK119.out 1; have hfz117_2 := blk_frozen BK119.out 2))
                        go_roundg k3
                        case measure => have := HJ3.out; have := HK2.out; have := HK3.out; omega
                        case rel => exact ⟨(wrap64 (x8_2 + 1)), (y137), (x120001_2), (y134), (.slice Ao116 y137.length co116), (u120001), (.slice Ao113 y134.length co113), (by first | rfl | (simp; done) | (simp [*]; done)), H', ⟨by have := HJ3.out; have := HK2.out; have := HK3.out; omega⟩, ⟨by (with_reducible repeat (first | apply Kd.R_alloc | apply Kd.R_drewN | apply Kd.R_drew)); exact Kd.R_mono (Kd.R_far (p := ⟨gb119, 0, none⟩) (Kd.R_types HO139.out BK119.out (by decide)) (fun _ hk => hk.2) (.slice Ao116 y137.length co116)) (fun _ hk => hk.1)⟩, ⟨by (with_reducible repeat (first | apply Kd.R_alloc | apply Kd.R_drewN | apply Kd.R_drew)); exact Kd.R_mono (Kd.R_far (p := ⟨gb119, 0, none⟩) (Kd.R_types HO_120001.out BK119.out (by decide)) (fun _ hk => hk.2) (.slice Ao116 y137.length co116)) (fun _ hk => hk.1)⟩, ⟨by (with_reducible repeat (first | apply Kd.R_alloc | apply Kd.R_drewN | apply Kd.R_drew)); exact Kd.R_mono (Kd.R_far (p := ⟨gb119, 0, none⟩) (Kd.R_types HO136.out BK119.out (by decide)) (fun _ hk => hk.2) (.slice Ao116 y137.length co116)) (fun _ hk => hk.1.2)⟩, ⟨by (with_reducible repeat (first | refine blk_drewN ?_ _ | refine blk_drew ?_ | refine blk_alloc ?_ _)); refine blk_far ?_ NB114_119.out _; (with_reducible repeat (first | refine blk_drewN ?_ _ | refine blk_drew ?_ | refine blk_alloc ?_ _)); exact BK114.out⟩, ⟨by (with_reducible repeat (first | refine blk_drewN ?_ _ | refine blk_drew ?_ | refine blk_alloc ?_ _)); refine blk_far ?_ NB115_119.out _; (with_reducible repeat (first | refine blk_drewN ?_ _ | refine blk_drew ?_ | refine blk_alloc ?_ _)); exact BK115.out⟩, ⟨by (with_reducible repeat (first | refine blk_drewN ?_ _ | refine blk_drew ?_ | refine blk_alloc ?_ _)); refine blk_put (cs := #[u120000, u120001, .slice Ao113 y134.length co113]) ?_ 0 _ rfl; (with_reducible repeat (first | refine blk_drewN ?_ _ | refine blk_drew ?_ | refine blk_alloc ?_ _)); exact BK119.out⟩, ⟨by repeat (first | (with_reducible first | exact HB.out | apply below_alloc | apply pw_below_drewN | apply below_drew1 | refine below_set ?_ GE114.out | refine below_set ?_ GE115.out | refine below_set ?_ GE119.out) | exact HB.out)⟩⟩
                      · rw [if_neg c108] at H
                        exact absurd H (by simp)
                    · rw [if_neg c107] at H
                      exact absurd H (by simp)
          · rw [if_neg c38] at H
            have c38b0 : decide (x8_2 < a1_1) = false := decide_eq_false c38
            clear c38
            simp only [Option.some.injEq, Prod.mk.injEq] at H
            obtain ⟨rfl, rfl, rfl⟩ := H
            have hnb118 := NB114_115.out
            have hnc118 := NB115_114.out
            have hnb119 := NB114_119.out
            have hnc119 := NB119_114.out
            have hcz120_0 : wr.cell? ⟨gb114, 0, none⟩ = some (.int .i64 a1_0) := (blk_cell BK114.out 0).trans rfl
            have hcz120_1 : wr.cell? ⟨gb114, 1, none⟩ = some (.int .i64 a1_1) := (blk_cell BK114.out 1).trans rfl
            have hfz120_0 := blk_frozen BK114.out 0
            have hfz120_1 := blk_frozen BK114.out 1
            have hnb121 := NB119_115.out
            have hnc121 := NB115_119.out
            have hcz122_0 : wr.cell? ⟨gb119, 0, none⟩ = some (u120000) := (blk_cell BK119.out 0).trans rfl
            have hcz122_1 : wr.cell? ⟨gb119, 1, none⟩ = some (u120001) := (blk_cell BK119.out 1).trans rfl
            have hcz122_2 : wr.cell? ⟨gb119, 2, none⟩ = some (u120002) := (blk_cell BK119.out 2).trans rfl
            have hfz122_0 := blk_frozen BK119.out 0
            have hfz122_1 := blk_frozen BK119.out 1
            have hfz122_2 := blk_frozen BK119.out 2
            obtain ⟨Ao123, co123, eo123⟩ := Kd.R_slice HO_120000.out
            subst eo123
            have hcz124_0 : wr.cell? ⟨gb115, 0, none⟩ = some (.slice none 0 0) := (blk_cell BK115.out 0).trans rfl
            have hcz124_1 : wr.cell? ⟨gb115, 1, none⟩ = some (.slice none 0 0) := (blk_cell BK115.out 1).trans rfl
            have hcz124_2 : wr.cell? ⟨gb115, 2, none⟩ = some (.slice none 0 0) := (blk_cell BK115.out 2).trans rfl
            have hfz124_0 := blk_frozen BK115.out 0
            have hfz124_1 := blk_frozen BK115.out 1
            have hfz124_2 := blk_frozen BK115.out 2
            obtain ⟨Ao125, co125, eo125⟩ := Kd.R_slice HO_120001.out
            subst eo125
            obtain ⟨Ao126, co126, eo126⟩ := Kd.R_slice HO_120002.out
            subst eo126
            go_wp2
            refine bodyPost_ret (results_cell_row rfl _ _ gb115 54 #[.slice Ao123 x120000_2.length co123, .slice Ao125 x120001_2.length co125, .slice Ao126 x120002_2.length co126] (0, 0) _ rfl (by (with_reducible repeat (first | refine blk_drewN ?_ _ | refine blk_drew ?_ | refine blk_alloc ?_ _)); refine blk_put (cs := #[.slice Ao123 x120000_2.length co123, .slice Ao125 x120001_2.length co125, .slice none 0 0]) ?_ 2 _ rfl; (with_reducible repeat (first | refine blk_drewN ?_ _ | refine blk_drew ?_ | refine blk_alloc ?_ _)); refine blk_put (cs := #[.slice Ao123 x120000_2.length co123, .slice none 0 0, .slice none 0 0]) ?_ 1 _ rfl; (with_reducible repeat (first | refine blk_drewN ?_ _ | refine blk_drew ?_ | refine blk_alloc ?_ _)); refine blk_put (cs := #[.slice none 0 0, .slice none 0 0, .slice none 0 0]) ?_ 0 _ rfl; (with_reducible repeat (first | refine blk_drewN ?_ _ | refine blk_drew ?_ | refine blk_alloc ?_ _)); exact BK115.out) Try.underlying54 rfl (by kernel_rfl)) rfl ?_
            exact ⟨_, _, _, by first | rfl | (simp [errW_none, errW_some] <;> rfl) | (simp [*, errW_none, errW_some] <;> rfl), by (with_reducible repeat (first | apply Kd.R_alloc | apply Kd.R_drewN | apply Kd.R_drew)); exact Kd.R_mono (Kd.R_far (p := ⟨gb115, 2, none⟩) (Kd.R_far (p := ⟨gb115, 1, none⟩) (Kd.R_far (p := ⟨gb115, 0, none⟩) (Kd.R_types HO_120000.out BK115.out (by decide)) (fun _ hk => hk.2) (.slice Ao123 x120000_2.length co123)) (fun _ hk => hk.2) (.slice Ao125 x120001_2.length co125)) (fun _ hk => hk.2) (.slice Ao126 x120002_2.length co126)) (fun _ hk => hk.1), by (with_reducible repeat (first | apply Kd.R_alloc | apply Kd.R_drewN | apply Kd.R_drew)); exact Kd.R_mono (Kd.R_far (p := ⟨gb115, 2, none⟩) (Kd.R_far (p := ⟨gb115, 1, none⟩) (Kd.R_far (p := ⟨gb115, 0, none⟩) (Kd.R_types HO_120001.out BK115.out (by decide)) (fun _ hk => hk.2) (.slice Ao123 x120000_2.length co123)) (fun _ hk => hk.2) (.slice Ao125 x120001_2.length co125)) (fun _ hk => hk.2) (.slice Ao126 x120002_2.length co126)) (fun _ hk => trivial), by (with_reducible repeat (first | apply Kd.R_alloc | apply Kd.R_drewN | apply Kd.R_drew)); exact Kd.R_mono (Kd.R_far (p := ⟨gb115, 2, none⟩) (Kd.R_far (p := ⟨gb115, 1, none⟩) (Kd.R_far (p := ⟨gb115, 0, none⟩) (Kd.R_types HO_120002.out BK115.out (by decide)) (fun _ hk => hk.2) (.slice Ao123 x120000_2.length co123)) (fun _ hk => hk.2) (.slice Ao125 x120001_2.length co125)) (fun _ hk => hk.2) (.slice Ao126 x120002_2.length co126)) (fun _ hk => hk.1), by repeat (first | (with_reducible first | exact HB.out | apply below_alloc | apply pw_below_drewN | apply below_drew1 | refine below_set ?_ GE114.out | refine below_set ?_ GE115.out | refine below_set ?_ GE119.out) | exact HB.out)⟩

end Go.Proofs.Ytdeenfpcmaadcaa.Pr

/- The program's planeRegions, by hand: all regions of a plane set, in the order of the points. -/
namespace Go.Proofs.Ytdeenfpcmaadcaa.Pr
open Go.RowKit Go.Proofs.YtdeenfpcmaadcaaW.PrintWords Go.Proofs.YtdeenfpcmaadcaaW.PrintLast Go.Proofs.YtdeenfpcmaadcaaW.PrintMore
set_option linter.unusedVariables false
set_option linter.unusedSimpArgs false
abbrev CH := S47
def mkR (q : List Int × List CH × List Int) : SR := ⟨q.1, q.2.1, q.2.2⟩
def allR (k : Nat) (l : List CH) : List CH → Option (List SR)
  | [] => some []
  | c :: cs => (impl_regionInside.f k l c.f0 c.f1 true).bind fun q => (allR k l cs).bind fun rs => some (mkR q :: rs)
theorem allR_mono (l : List CH) (k : Nat) : ∀ cs, LeO (allR k l cs) (allR (k + 1) l cs)
  | [] => LeO.refl _
  | c :: cs => LeO.bind (impl_regionInside.mono _ _ _ _ _) (fun _ => LeO.bind (allR_mono l k cs) (fun _ => LeO.refl _))
def impl_planeRegions.f (k : Nat) (a0 : Int) (l1 : List CH) : Option ((List SR) × Bool) :=
  (impl_isSet.f k a0 l1).bind fun s => if s = true then (impl_crossings.f k l1).bind fun n => if n > 0 then some ([], false) else
    if 0 ≤ a0 ∧ a0 ≤ 1000 ∧ l1.length ≤ 1000 then (impl_regionInside.f k l1 0 (a0 - 1) false).bind fun q => (allR k l1 l1).bind fun rs =>
      if ((mkR q :: rs).map (·.f0)).Nodup ∧ (∀ x ∈ mkR q :: rs, x.f0.length ≤ 1000000) then some (sortR (mkR q :: rs), true) else none
    else none
  else some ([], false)
theorem impl_planeRegions.mono : ∀ a0 a1 k, LeO (impl_planeRegions.f k a0 a1) (impl_planeRegions.f (k + 1) a0 a1) := by
  intro a0 a1 k
  unfold impl_planeRegions.f
  exact LeO.bind (impl_isSet.mono _ _ _) (fun _ => LeO.ite (LeO.bind (impl_crossings.mono _ _) (fun _ => LeO.ite (LeO.refl _) (LeO.ite (LeO.bind (impl_regionInside.mono _ _ _ _ _) (fun _ => LeO.bind (allR_mono _ _ _) (fun _ => LeO.refl _))) (LeO.refl _)))) (LeO.refl _))
section
variable {w W w3 : World} {base : Nat} {v v0 v1 v2 : Value} {xs : List SR} {r1 : List Int} {r2 : List CH} {r3 : List Int} {P0 P1 P2 : Nat → Prop}
theorem reg_M (hb : base ≤ W.heap.size) (h0 : (Kd.int .i64).R 3 w3 W.heap.size P0 v0 r1) (h1 : k47.R 47 w3 W.heap.size P1 v1 r2) (h2 : (Kd.int .i64).R 3 w3 W.heap.size P2 v2 r3) : k54.M w3 base (fun k => W.heap.size ≤ k) (mkR (r1, r2, r3)) [v0, v1, v2] :=
  k54_mkM w3 base _ (mkR (r1, r2, r3)) (Kd.R_mono (Kd.R_bound (Kd.R_lower h0 (Nat.le_refl _))) (fun k hk => hk.2.1) |> fun h => Kd.R_lower h hb) (Kd.R_mono (Kd.R_bound h1) (fun k hk => hk.2.1) |> fun h => Kd.R_lower h hb) (Kd.R_mono (Kd.R_bound h2) (fun k hk => hk.2.1) |> fun h => Kd.R_lower h hb)
theorem S_one {x : SR} {ok : Nat → Prop} (hb : base ≤ W.heap.size) (h : k54.M W base ok x [v0, v1, v2]) : Kd.S k54 54 (W.alloc (.cells #[v0, v1, v2] 54)) base (fun _ => True) (.slice (some ⟨W.heap.size, 0, none⟩) 1 1) [x] := by
  have hb1 : (W.alloc (.cells #[v0, v1, v2] 54)).heap[W.heap.size]? = some (.cells #[v0, v1, v2] 54 (0, 0)) := by
    show (W.heap.push _)[W.heap.size]? = _
    exact Array.getElem?_push_size
  exact S_shut (d := k54) (e := 54) (W := W.alloc (.cells #[v0, v1, v2] 54)) (base := base) (g := W.heap.size) (cap := 1) (cur := #[v0, v1, v2]) (cs := [([v0, v1, v2], (x, 0))]) (f := fun _ => 0) trivial hb hb1 (Nat.le_refl 1) (by unfold maxLen; omega) rfl (by simp)
    (fun c hc => by
      rw [List.mem_singleton.1 hc]
      exact Kd.M_below (k54.M_mono (fun k hk => ⟨⟨trivial, by have := hk.2.2.1; omega⟩, rfl⟩) (k54.M_bound h)) (below_alloc (Below.refl _ _) _))
    (fun j hj i hi => by
      obtain rfl : j = 0 := by simpa using hj
      rw [blk_cell hb1]
      simp)
/-- A region that was made, beside those that were there. -/
structure PB (w w3 : World) (N : Nat) (v : Value) (xs : List SR) (v0 v1 v2 : Value) (x : SR) : Prop where
  so : Kd.S k54 54 w3 w.heap.size (fun k => True ∧ ¬ (N ≤ k)) v xs
  m : k54.M w3 w.heap.size (fun k => N ≤ k) x [v0, v1, v2]
  ne : ∀ k, N ≤ k → True ∧ some k ≠ v.ownBlock
  bl : Below w.heap.size w w3
theorem PB.of {o : Obj} (hB : Below w.heap.size w W) (hS : Kd.S k54 54 W w.heap.size (fun _ => True) v xs) (hb : Below (W.alloc o).heap.size (W.alloc o) w3)
    (h0 : (Kd.int .i64).R 3 w3 (W.alloc o).heap.size P0 v0 r1) (h1 : k47.R 47 w3 (W.alloc o).heap.size P1 v1 r2) (h2 : (Kd.int .i64).R 3 w3 (W.alloc o).heap.size P2 v2 r3) : PB w w3 (W.alloc o).heap.size v xs v0 v1 v2 (mkR (r1, r2, r3)) := by
  have hs : (W.alloc o).heap.size = W.heap.size + 1 := by simp
  have hb2 : Below W.heap.size W w3 := (below_alloc (Below.refl _ _) o).trans (hb.mono (by omega))
  refine ⟨Kd.S_mono (Kd.S_old hS hb2) (fun k hk => ⟨trivial, by omega⟩), reg_M (by have := hB.size; omega) h0 h1 h2, fun k hk => ⟨trivial, fun e => ?_⟩, below_step hB hb2⟩
  have := Kd.S_lt hS k e.symm
  omega
end
set_option maxHeartbeats 4000000 in
set_option maxRecDepth 100000 in
theorem impl_planeRegions.calls (k : Nat) (a0 : Int) (A1 : Option Addr) (c1 : Nat) (l1 : List CH) (r1 : List SR) (r2 : Bool) (w : World) (hr1 : Kd.C k47 w A1 l1.length l1) (hc1 : l1.length ≤ c1) (h : impl_planeRegions.f k a0 l1 = some (r1, r2)) :
    Calls Try.prog 35 #[.int .i64 a0, .slice A1 l1.length c1] w fun e w' => ∃ v0_ : Value, e = .returned (.tuple #[v0_, .bool r2]) ∧ Kd.S k54 54 w' w.heap.size (fun _ => True) v0_ r1 ∧ Below w.heap.size w w' := by
  obtain ⟨s, hs, h⟩ := Option.bind_eq_some_iff.mp h
  have HI := Aside0.mk (impl_isSet.calls k a0 A1 c1 l1 s w hr1 hc1 hs)
  have HR1 := Aside0.mk hr1
  have HC1 := Aside0.mk hc1
  clear hr1 hc1 hs
  cases s with
  | false =>
    rw [if_neg (by simp)] at h
    injection h with h
    injection h with h1 h2
    subst h1 h2
    go_enter Try.func35, Try.ntmps35
    go_wp2_with (go_at_call 61; refine HI.out.mono ?_; rintro e w' ⟨rfl, hb⟩)
    go_ret2
    exact ⟨_, rfl, Kd.S_nil _ _ _ _ _, hb⟩
  | true =>
    rw [if_pos rfl] at h
    obtain ⟨n, hn, h⟩ := Option.bind_eq_some_iff.mp h
    have HN := Aside0.mk (fun (W : World) (hb : Below w.heap.size w W) => impl_crossings.calls k A1 c1 l1 n W (Kd.C_below HR1.out hb) HC1.out hn)
    clear hn
    by_cases h0 : n > 0
    · rw [if_pos h0] at h
      injection h with h
      injection h with h1 h2
      subst h1 h2
      have e0 : decide (n > 0) = true := decide_eq_true h0
      have e1 : decide (0 < n) = true := decide_eq_true h0
      clear h0
      go_enter Try.func35, Try.ntmps35
      go_wp2_with (first | (go_at_call 61; refine HI.out.mono ?_; rintro e w' ⟨rfl, hb⟩; have HBa := Aside0.mk hb; clear hb) | (go_at_call 62; refine (HN.out _ HBa.out).mono ?_; rintro e w' ⟨rfl, hb⟩; have HBb := Aside0.mk (below_step HBa.out hb); clear hb))
      go_ret2
      exact ⟨_, rfl, Kd.S_nil _ _ _ _ _, HBb.out⟩
    · rw [if_neg h0] at h
      by_cases hr : 0 ≤ a0 ∧ a0 ≤ 1000 ∧ l1.length ≤ 1000
      rotate_left
      · rw [if_neg hr] at h; cases h
      rw [if_pos hr] at h
      obtain ⟨q, hq, h⟩ := Option.bind_eq_some_iff.mp h
      obtain ⟨rs, hrs, h⟩ := Option.bind_eq_some_iff.mp h
      split at h
      rotate_left
      · cases h
      rename_i hok
      injection h with h
      injection h with h1 h2
      subst h1 h2
      have e0 : decide (n > 0) = false := decide_eq_false h0
      have e1 : decide (0 < n) = false := decide_eq_false h0
      have e2 : IntKind.i64.wrap (a0 - 1) = a0 - 1 := by
        rw [i64_w]
        exact M.w64 (by omega) (by omega)
      obtain ⟨q1, q2, q3⟩ := q
      have HQ := Aside0.mk (fun (W : World) (hb : Below w.heap.size w W) => impl_regionInside.calls k A1 c1 l1 0 (a0 - 1) false q1 q2 q3 W (Kd.C_below HR1.out hb) HC1.out hq)
      obtain ⟨al, hal⟩ : ∃ al, al = mkR (q1, q2, q3) :: rs := ⟨_, rfl⟩
      rw [← hal] at hok ⊢
      have HOK := Aside0.mk hok
      have HAL := Aside0.mk (show (allR k l1 (l1.drop 0)).bind (fun rs => some ([mkR (q1, q2, q3)] ++ rs)) = some al by rw [List.drop_zero, hrs, hal]; rfl)
      have HL := Aside0.mk hr
      have hlen : l1.length ≤ 1000 := hr.2.2
      clear h0 hq hrs hok hal hr
      go_enter Try.func35, Try.ntmps35
      go_wp2_with (first | (go_at_call 61; refine HI.out.mono ?_; rintro e w' ⟨rfl, hb⟩; have HBa := Aside0.mk hb; clear hb) | (go_at_call 62; refine (HN.out _ HBa.out).mono ?_; rintro e w' ⟨rfl, hb⟩; have HBb := Aside0.mk (below_step HBa.out hb); clear hb) | (go_at_call 63; refine (HQ.out _ HBb.out).mono ?_; rintro e w3 ⟨v0, v1, v2, rfl, g0, g1, g2, hb⟩; have HBc := Aside0.mk (below_alloc (below_step HBb.out hb) (.cells #[v0, v1, v2] 54)); have HS := Aside0.mk (S_one (Nat.le_trans HBb.out.size hb.size) (reg_M HBb.out.size g0 g1 g2)); clear hb g0 g1 g2))
      clear e0 e1 e2
      obtain ⟨N, hN⟩ : ∃ N, N = l1.length := ⟨_, rfl⟩
      go_loopg [6, 26] N (fun gg v6 v26 W => ∃ (j : Nat) (xs : List SR), v26 = .int .i64 j ∧ Aside0 (j + gg = N) ∧ Aside0 (Below w.heap.size w W) ∧ Aside0 (Kd.S k54 54 W w.heap.size (fun _ => True) v6 xs) ∧ Aside0 (xs.length = j + 1) ∧ Aside0 ((allR k l1 (l1.drop j)).bind (fun rs => some (xs ++ rs)) = some al))
      case atStart => exact ⟨0, [mkR (q1, q2, q3)], by first | rfl | (simp; done), ⟨by omega⟩, HBc, HS, ⟨rfl⟩, HAL⟩
      case round =>
        clear HBc HS HAL HI HN HQ HBa HBb
        obtain ⟨j, xs, rfl, HG, HB, HS, HXL, HA⟩ := hrel
        have hN2 : (N : Int) = (l1.length : Int) := by omega
        by_cases hj : j < N
        · have hjl : j < l1.length := by omega
          have e1 : decide ((j : Int) < (l1.length : Int)) = true := decide_eq_true (by omega)
          have e2 : IntKind.i64.wrap ((j : Int) + 1) = ((j + 1 : Nat) : Int) := by
            rw [i64_w]
            exact M.w64 (by omega) (by omega)
          obtain ⟨gm, rfl⟩ : ∃ gm, gk = gm + 1 := ⟨gk - 1, by have := HG.out; omega⟩
          obtain ⟨c, hc⟩ : ∃ c, c = l1[j] := ⟨_, rfl⟩
          have hA := HA.out
          rw [List.drop_eq_getElem_cons hjl, ← hc, allR] at hA
          obtain ⟨rs', hA, hA2⟩ := Option.bind_eq_some_iff.mp hA
          obtain ⟨⟨p1, p2, p3⟩, hp, hA⟩ := Option.bind_eq_some_iff.mp hA
          obtain ⟨rs2, hA3, hA⟩ := Option.bind_eq_some_iff.mp hA
          injection hA with hA
          subst hA
          have HA2 := Aside0.mk (show (allR k l1 (l1.drop (j + 1))).bind (fun rs => some ((xs ++ [mkR (p1, p2, p3)]) ++ rs)) = some al by
            rw [hA3, ← hA2]
            simp)
          have HP := Aside0.mk (fun (W : World) (hb : Below w.heap.size w W) => impl_regionInside.calls k A1 c1 l1 c.f0 c.f1 true p1 p2 p3 W (Kd.C_below HR1.out hb) HC1.out hp)
          obtain ⟨ad, ea, x0, x1⟩ := at_T47 (Kd.C_below HR1.out HB.out) (j : Int) (by omega) (by omega)
          rw [M.rd_ch l1 j hjl, ← hc] at x0 x1
          rw [Int.toNat_natCast] at x0 x1
          cases ea
          clear hc hA2 hA3 hp HA
          go_wp2_with (first | (go_at_call 63; refine (HP.out _ (below_alloc HB.out _)).mono ?_; rintro e w3 ⟨v0, v1, v2, rfl, g0, g1, g2, hb⟩; have HPB := Aside0.mk (PB.of HB.out HS.out hb g0 g1 g2); clear hb g0 g1 g2) | ((with_reducible refine gate_builtin (b := .append) (xs := #[.tmp 30, .tmp 34]) rfl ?_); at_builtin; refine Kd.S_append k54 (w0 := w) w.heap.size rfl (.tmp 30) (.tmp 34) 50 54 (.agg #[.slice none 0 0, .slice none 0 0, .slice none 0 0]) 72 rfl Try.underlying50 info54 rfl (by decide) (by omega) _ xs (mkR (p1, p2, p3)) [v0, v1, v2] (fun _ => True) _ rfl rfl HPB.out.m HPB.out.ne (fun _ _ => trivial) HPB.out.so HPB.out.bl HPB.out.bl.size ?hl1 ?_; (case hl1 => have := HXL.out; omega); intro v7 w7 hs7 hb7 hg7 hat7; have HS7 := Aside0.mk hs7; have HB7 := Aside0.mk hb7; clear hs7 hb7 hg7 hat7))
          go_roundg gm
          case measure => omega
          case rel => exact ⟨j + 1, xs ++ [mkR (p1, p2, p3)], by first | rfl | (simp; done), ⟨by have := HG.out; omega⟩, HB7, HS7, ⟨by rw [List.length_append, HXL.out]; rfl⟩, HA2⟩
        · have hA := HA.out
          have e1 : decide ((j : Int) < (l1.length : Int)) = false := decide_eq_false (by omega)
          have e1' : decide (j < l1.length) = false := decide_eq_false (by omega)
          have hxl : xs.length ≤ 1000000 := by have := HXL.out; have := HG.out; omega
          have hxn : xs ≠ [] := fun e => by have := HXL.out; rw [e] at this; simp at this
          rw [List.drop_eq_nil_of_le (by omega), allR, Option.bind_some, List.append_nil] at hA
          injection hA with hA
          subst hA
          have HX := Aside0.mk (show xs.length ≤ 1000000 ∧ xs ≠ [] from ⟨hxl, hxn⟩)
          clear HA hj hxl hxn
          go_wp2_with (go_at_call 64; refine (sort_region w.heap.size (fun _ => True) _ xs _ HS.out HB.out.size HX.out.2 HX.out.1 HOK.out.2 HOK.out.1).mono ?_; rintro e w8 ⟨rfl, hs8, hb8⟩; have HS8 := Aside0.mk hs8; have HB8 := Aside0.mk (HB.out.trans hb8); clear hs8 hb8)
          go_ret2
          exact ⟨_, by first | rfl | (simp; done), HS8.out, HB8.out⟩
end Go.Proofs.Ytdeenfpcmaadcaa.Pr

/- What is asked of a predicate that is handed to the library, and the place of the first element for which it holds. -/
namespace Go.Proofs.Ytdeenfpcmaadcaa.Pr
open Go.RowKit Go.Proofs.YtdeenfpcmaadcaaW.PrintWords Go.Proofs.YtdeenfpcmaadcaaW.PrintLast Go.Proofs.YtdeenfpcmaadcaaW.PrintMore
set_option linter.unusedVariables false
set_option linter.unusedSimpArgs false

/-- A function value that tells p of the elements of a list, in any world in which what was there is as it was. -/
def PredB {α : Type} (g : Nat) (lb : Array Value) (enc : α → Value) (p : α → Bool) (zs : List α) (w : World) : Prop :=
  ∀ (W : World) (x : α), x ∈ zs → Below w.heap.size w W → Calls Try.prog g (#[enc x] ++ lb) W fun e w' => e = .returned (.bool (p x)) ∧ Below W.heap.size W w'
/-- The place of the first element for which p holds, or -1. -/
def idxP {α : Type} (p : α → Bool) : List α → Int
  | [] => -1
  | x :: r => if p x = true then 0 else if idxP p r < 0 then -1 else idxP p r + 1
theorem idxP_ge {α : Type} (p : α → Bool) : ∀ l : List α, -1 ≤ idxP p l
  | [] => by simp [idxP]
  | x :: r => by
    have := idxP_ge p r
    unfold idxP
    split
    · omega
    · split <;> omega
theorem idxP_nonneg {α : Type} (p : α → Bool) : ∀ l : List α, decide (idxP p l ≥ 0) = l.any p
  | [] => by simp [idxP]
  | x :: r => by
    have ih := idxP_nonneg p r
    unfold idxP
    rw [List.any_cons, ← ih]
    cases hx : p x with
    | true => simp
    | false =>
      simp only [Bool.false_eq_true, if_false, Bool.false_or]
      split
      · rename_i h; simp; omega
      · rename_i h; simp; omega
theorem idxP_none {α : Type} (p : α → Bool) : ∀ l : List α, (∀ x ∈ l, p x = false) → idxP p l = -1
  | [], _ => rfl
  | x :: r, h => by
    unfold idxP
    rw [if_neg (by rw [h x (List.mem_cons_self ..)]; simp), idxP_none p r (fun y hy => h y (List.mem_cons_of_mem _ hy))]
    simp
theorem idxP_at {α : Type} (p : α → Bool) : ∀ (l : List α) (i : Nat) (h : i < l.length), p l[i] = true → (∀ j (hj : j < i), p (l[j]'(by omega)) = false) → idxP p l = i
  | [], i, h, _, _ => by simp at h
  | x :: r, 0, h, hp, _ => by
    unfold idxP
    rw [if_pos (by simpa using hp)]
    rfl
  | x :: r, i + 1, h, hp, hn => by
    have h0 := hn 0 (by omega)
    have ih := idxP_at p r i (by simpa using h) (by simpa using hp) (fun j hj => by simpa using hn (j + 1) (by omega))
    unfold idxP
    rw [if_neg (by simp at h0; rw [h0]; simp), ih, if_neg (by omega)]
    omega

end Go.Proofs.Ytdeenfpcmaadcaa.Pr

-- Written by a program for this claim.
namespace Go.Proofs.Ytdeenfpcmaadcaa.Pr
open Go.RowKit Go.Proofs.YtdeenfpcmaadcaaW.PrintWords Go.Proofs.YtdeenfpcmaadcaaW.PrintLast Go.Proofs.YtdeenfpcmaadcaaW.PrintMore
attribute [local go_sem] max2_int min2_int max_two min_two max_three min_three max_four min_four   -- for this text's walks alone
set_option linter.unusedVariables false
set_option linter.unusedSimpArgs false

/-! ### slices_Index_int_int: function 68 -/
def slices_Index_int_int.l0 : Nat → List Int → Int → Int → Int → Option (Int)
  | 0, _, _, _, _ => none
  | k + 1, x0, x1, x7, x8 => if x8 < x7 then (if 0 ≤ x8 then (if x8 < (x0.length : Int) then (if x1 = (rd x0 x8) then (some x8) else (slices_Index_int_int.l0 k x0 x1 x7 (wrap64 (x8 + 1)))) else (none)) else (none)) else (some (-1))
def slices_Index_int_int.f (k : Nat) (l0 : List Int) (a1 : Int) : Option (Int) := slices_Index_int_int.l0 k l0 a1 (l0.length : Int) 0
theorem slices_Index_int_int.mono_l : ∀ k, (∀ y0 y1 y2 y3, LeO (slices_Index_int_int.l0 k y0 y1 y2 y3) (slices_Index_int_int.l0 (k + 1) y0 y1 y2 y3))
  | 0 => fun _ _ _ _ r h => by simp [slices_Index_int_int.l0] at h
  | k + 1 => by
    have ih0 := slices_Index_int_int.mono_l k
    · intro y0 y1 y2 y3
      unfold slices_Index_int_int.l0
      repeat' first
      | (with_reducible exact ih0 _ _ _ _)
      | (with_reducible exact LeO.refl _)
      | (with_reducible exact LeO.none _)
      | (with_reducible refine LeO.ite ?_ ?_)
      | (with_reducible refine LeO.bind ?_ (fun _ => ?_))
      | exact ih0 _ _ _ _
      | exact LeO.none _
      | refine LeO.ite ?_ ?_
      | refine LeO.bind ?_ (fun _ => ?_)
theorem slices_Index_int_int.mono : ∀ a0 a1 k, LeO (slices_Index_int_int.f k a0 a1) (slices_Index_int_int.f (k + 1) a0 a1) := by
  intro a0 a1 k
  have ih0 := slices_Index_int_int.mono_l k
  unfold slices_Index_int_int.f
  repeat' first
      | (with_reducible exact ih0 _ _ _ _)
      | (with_reducible exact LeO.refl _)
      | (with_reducible exact LeO.none _)
      | (with_reducible refine LeO.ite ?_ ?_)
      | (with_reducible refine LeO.bind ?_ (fun _ => ?_))
      | exact ih0 _ _ _ _
      | exact LeO.none _
      | refine LeO.ite ?_ ?_
      | refine LeO.bind ?_ (fun _ => ?_)
set_option maxHeartbeats 8000000 in
set_option maxRecDepth 100000 in
theorem slices_Index_int_int.calls (k : Nat) (A0 : Option Addr) (c0 : Nat) (l0 : List Int) (a1 : Int) (r : Int) (w : World) (hr0 : Kd.C (Kd.int .i64) w A0 l0.length l0) (hc0 : l0.length ≤ c0) (h : slices_Index_int_int.f k l0 a1 = some r) :
    Calls Try.prog 68 #[.slice A0 l0.length c0, .int .i64 a1] w fun e w' => e = .returned (.int .i64 r) ∧ Drawn0 w w' := by
  have HR0 := Aside0.mk hr0
  have HC0 := Aside0.mk hc0
  clear hr0 hc0
  have H : (slices_Index_int_int.l0 k l0 a1 (l0.length : Int) 0) = some r := h
  clear h
  have H' := Aside0.mk H
  clear H
  go_enter Try.func68, Try.ntmps68
  go_wp2
  go_loopg [8] k (fun kq v8 w' => ∃ (x8_1 : Int), v8 = .int .i64 x8_1 ∧ Aside0 (slices_Index_int_int.l0 kq l0 a1 (l0.length : Int) x8_1 = some r) ∧ Aside0 (kq ≤ k) ∧ Drawn0 w w')
  case atStart => exact ⟨(0), (by first | rfl | (simp; done) | (simp [*]; done)), H', ⟨Nat.le_refl _⟩, by repeat (first | exact Drawn0.refl _ | apply Drawn0.step)⟩
  case round =>
    clear H'
    try clear p2
    obtain ⟨x8_1, rfl, HA, HK1, ⟨m1, rfl⟩⟩ := hrel
    cases gk with
    | zero => exact absurd HA.out (by simp [slices_Index_int_int.l0])
    | succ k1 =>
      have H := HA.out
      clear HA
      simp only [slices_Index_int_int.l0] at H
      by_cases c3 : x8_1 < (l0.length : Int)
      · rw [if_pos c3] at H
        have c3b0 : decide (x8_1 < (l0.length : Int)) = true := decide_eq_true c3
        clear c3
        by_cases c4 : 0 ≤ x8_1
        · rw [if_pos c4] at H
          have c4b0 : decide (0 ≤ x8_1) = true := decide_eq_true c4
          clear c4
          by_cases c5 : x8_1 < (l0.length : Int)
          · rw [if_pos c5] at H
            have c5b0 : decide (x8_1 < (l0.length : Int)) = true := decide_eq_true c5
            clear c5
            by_cases c6 : a1 = (rd l0 x8_1)
            · rw [if_pos c6] at H
              have c6b0 : (a1 == (rd l0 x8_1)) = true := beq_iff_eq.mpr c6
              have c6b1 : (a1 != (rd l0 x8_1)) = false := bne_eq_false_iff_eq.mpr c6
              clear c6
              obtain rfl := Option.some.inj H
              have p151 : 0 ≤ (x8_1 : Int) := of_decide_eq_true (by first | (with_reducible assumption) | assumption)
              have q151 : x8_1 < (l0.length : Int) := of_decide_eq_true (by first | (with_reducible assumption) | assumption)
              obtain ⟨ad151, e151, hx151_0⟩ := Kd.at_int HR0.out x8_1 p151 q151
              cases e151
              replace p151 := eq_true p151
              replace q151 := eq_true q151
              go_wp2
              go_ret
              exact ⟨by first | rfl | (simp; done) | (simp [*]; done), by repeat (first | exact Drawn0.refl _ | apply Drawn0.step)⟩
            · rw [if_neg c6] at H
              have c6b0 : (a1 == (rd l0 x8_1)) = false := beq_eq_false_iff_ne.mpr c6
              have c6b1 : (a1 != (rd l0 x8_1)) = true := bne_iff_ne.mpr c6
              have H' := Aside0.mk H
              clear H
              have p151 : 0 ≤ (x8_1 : Int) := of_decide_eq_true (by first | (with_reducible assumption) | assumption)
              have q151 : x8_1 < (l0.length : Int) := of_decide_eq_true (by first | (with_reducible assumption) | assumption)
              obtain ⟨ad151, e151, hx151_0⟩ := Kd.at_int HR0.out x8_1 p151 q151
              cases e151
              replace p151 := eq_true p151
              replace q151 := eq_true q151
              go_wp2
              go_roundg k1
              case measure => have := HK1.out; omega
              case rel => exact ⟨(wrap64 (x8_1 + 1)), (by first | rfl | (simp; done) | (simp [*]; done)), H', ⟨by have := HK1.out; omega⟩, by repeat (first | exact Drawn0.refl _ | apply Drawn0.step)⟩
          · rw [if_neg c5] at H
            exact absurd H (by simp)
        · rw [if_neg c4] at H
          exact absurd H (by simp)
      · rw [if_neg c3] at H
        have c3b0 : decide (x8_1 < (l0.length : Int)) = false := decide_eq_false c3
        clear c3
        obtain rfl := Option.some.inj H
        go_wp2
        go_ret
        exact ⟨by first | rfl | (simp; done) | (simp [*]; done), by repeat (first | exact Drawn0.refl _ | apply Drawn0.step)⟩

end Go.Proofs.Ytdeenfpcmaadcaa.Pr

-- Written by a program for this claim.
namespace Go.Proofs.Ytdeenfpcmaadcaa.Pr
open Go.RowKit Go.Proofs.YtdeenfpcmaadcaaW.PrintWords Go.Proofs.YtdeenfpcmaadcaaW.PrintLast Go.Proofs.YtdeenfpcmaadcaaW.PrintMore
attribute [local go_sem] max2_int min2_int max_two min_two max_three min_three max_four min_four   -- for this text's walks alone
set_option linter.unusedVariables false
set_option linter.unusedSimpArgs false

/-! ### slices_Contains_int_int: function 42 -/
def slices_Contains_int_int.f (k : Nat) (l0 : List Int) (a1 : Int) : Option (Bool) := (slices_Index_int_int.f k l0 a1).bind fun t152 => (some (decide (t152 ≥ 0)))
theorem slices_Contains_int_int.mono : ∀ a0 a1 k, LeO (slices_Contains_int_int.f k a0 a1) (slices_Contains_int_int.f (k + 1) a0 a1) := by
  intro a0 a1 k
  unfold slices_Contains_int_int.f
  repeat' first
      | (with_reducible exact slices_Index_int_int.mono _ _ _)
      | (with_reducible exact LeO.refl _)
      | (with_reducible exact LeO.none _)
      | (with_reducible refine LeO.ite ?_ ?_)
      | (with_reducible refine LeO.bind ?_ (fun _ => ?_))
      | exact slices_Index_int_int.mono _ _ _
      | exact LeO.none _
      | refine LeO.ite ?_ ?_
      | refine LeO.bind ?_ (fun _ => ?_)
set_option maxHeartbeats 8000000 in
set_option maxRecDepth 100000 in
theorem slices_Contains_int_int.calls (k : Nat) (A0 : Option Addr) (c0 : Nat) (l0 : List Int) (a1 : Int) (r : Bool) (w : World) (hr0 : Kd.C (Kd.int .i64) w A0 l0.length l0) (hc0 : l0.length ≤ c0) (h : slices_Contains_int_int.f k l0 a1 = some r) :
    Calls Try.prog 42 #[.slice A0 l0.length c0, .int .i64 a1] w fun e w' => e = .returned (.bool r) ∧ Drawn0 w w' := by
  have HR0 := Aside0.mk hr0
  have HC0 := Aside0.mk hc0
  clear hr0 hc0
  have H : ((slices_Index_int_int.f k l0 a1).bind fun t152 => (some (decide (t152 ≥ 0)))) = some r := h
  clear h
  replace H := Option.bind_eq_some_iff.mp H
  obtain ⟨t152, A30, H⟩ := H
  replace H : (some (decide (t152 ≥ 0))) = some r := H
  have A3 := Aside0.mk A30
  clear A30
  obtain rfl := Option.some.inj H
  go_enter Try.func42, Try.ntmps42
  go_wp2_with (first | ((with_reducible refine gate_callee (f := 68) rfl ?_); refine goesL_ (some 7) rfl rfl Try.func68 (by kernel_rfl) rfl #[.slice A0 l0.length c0, .int .i64 a1] rfl (by (try simp only [List.map_toArray, List.map_cons, List.map_nil]); first | done | rfl | (simp only [List.length_drop, List.length_take]; rfl)) ?_; (with_reducible refine (slices_Index_int_int.calls k _ _ l0 a1 t152 _ ?side1 ?side2 A3.out).mono ?_); (case side1 => repeat (first | exact HR0.out | (with_reducible refine Kd.C_alloc ?_ _) | (with_reducible refine Kd.C_drewN ?_ _) | (with_reducible refine Kd.C_drew ?_))); (case side2 => exact HC0.out); rintro e w' ⟨rfl, ⟨nd, rfl⟩⟩; refine ⟨_, rfl, ?_⟩))
  go_ret
  exact ⟨by first | rfl | (simp; done) | (simp [*]; done), by repeat (first | exact Drawn0.refl _ | apply Drawn0.step)⟩

end Go.Proofs.Ytdeenfpcmaadcaa.Pr

/- Whether a number is one of a row of numbers: the library's Contains, in plain words. -/
namespace Go.Proofs.Ytdeenfpcmaadcaa.M
open Go.RowKit Go.Proofs.YtdeenfpcmaadcaaW.PrintWords Go.Proofs.Ytdeenfpcmaadcaa.Pr
set_option linter.unusedVariables false
set_option linter.unusedSimpArgs false
theorem rd_num (l : List Int) (i : Nat) (h : i < l.length) : rd l (i : Int) = l[i] := by
  unfold rd
  simp [List.getD_eq_getElem?_getD, List.getElem?_eq_getElem h]
theorem indexI_ev (l : List Int) (c : Int) (hl : l.length ≤ 9223372036854775807) : Ev (fun k => slices_Index_int_int.f k l c) (if l.contains c = true then ((l.findIdx fun d => c == d : Nat) : Int) else -1) := by
  unfold slices_Index_int_int.f
  have e := Ev.scan0 (fun k i (n : Nat) => slices_Index_int_int.l0 k l c (l.length : Int) i) l (fun rest n => if rest.contains c = true then (((n + rest.findIdx fun d => c == d) : Nat) : Int) else -1) (fun i n => n = i)
    (fun n hn => by
      refine Ev.step (fun k => by rw [slices_Index_int_int.l0]) ?_
      exact Ev.neg (by omega) (Ev.val (by simp)))
    (fun i h n hn => by
      subst hn
      by_cases hx : c = l[n]
      · right
        refine Ev.step (fun k => by rw [slices_Index_int_int.l0]) ?_
        refine Ev.pos (by omega) (Ev.pos (by omega) (Ev.pos (by omega) (Ev.pos (by rw [rd_num l n h]; exact hx) (Ev.val ?_))))
        rw [List.contains_cons, beq_iff_eq.2 hx, Bool.true_or, if_pos rfl, List.findIdx_cons, beq_iff_eq.2 hx]
        simp
      · refine .inl ⟨n + 1, rfl, ?_, fun r hr => ?_⟩
        · have hx2 : (c == l[n]) = false := beq_eq_false_iff_ne.2 hx
          rw [List.contains_cons, hx2, Bool.false_or, List.findIdx_cons, hx2]
          split
          · simp; omega
          · rfl
        · refine Ev.step (fun k => by rw [slices_Index_int_int.l0]) ?_
          refine Ev.pos (by omega) (Ev.pos (by omega) (Ev.pos (by omega) (Ev.neg (by rw [rd_num l n h]; exact hx) ?_)))
          rw [w64 (by omega) (by omega)]
          exact hr)
    0 rfl
  simpa using e
theorem hasI_ev (l : List Int) (c : Int) (hl : l.length ≤ 9223372036854775807) : Ev (fun k => slices_Contains_int_int.f k l c) (l.contains c) := by
  unfold slices_Contains_int_int.f
  refine Ev.bindk (indexI_ev l c hl) (Ev.val ?_)
  cases h : l.contains c with
  | true => rw [if_pos rfl]; simp
  | false => rw [if_neg (by simp)]; simp
end Go.Proofs.Ytdeenfpcmaadcaa.M

/- The program's RegionOfArc, by hand: the place of the first region with an arc. -/
namespace Go.Proofs.Ytdeenfpcmaadcaa.Pr
open Go.RowKit Go.Proofs.YtdeenfpcmaadcaaW.PrintWords Go.Proofs.YtdeenfpcmaadcaaW.PrintLast Go.Proofs.YtdeenfpcmaadcaaW.PrintMore
set_option linter.unusedVariables false
set_option linter.unusedSimpArgs false
theorem rd_reg (l : List SR) (i : Nat) (h : i < l.length) : rd_T54 l (i : Int) = l[i] := by
  unfold rd_T54
  simp [List.getD_eq_getElem?_getD, List.getElem?_eq_getElem h]
/-- A function value that tells p of a region, however it lies. -/
def PredR (g : Nat) (lb : Array Value) (p : SR → Bool) (zs : List SR) (w : World) : Prop :=
  ∀ (W : World) (x : SR), x ∈ zs → Below w.heap.size w W → ∀ (A0 : Option Addr) (c0 : Nat) (A1 : Option Addr) (c1 : Nat) (A2 : Option Addr) (c2 : Nat), x.f2.length ≤ c2 → KI.C W A2 x.f2.length x.f2 →
    Calls Try.prog g (#[.agg #[.slice A0 x.f0.length c0, .slice A1 x.f1.length c1, .slice A2 x.f2.length c2]] ++ lb) W fun e w' => e = .returned (.bool (p x)) ∧ Below W.heap.size W w'
set_option maxHeartbeats 2000000 in
set_option maxRecDepth 100000 in
theorem indexFunc_region (A : Option Addr) (c : Nat) (zs : List SR) (p : SR → Bool) (g : Nat) (lb : Array Value) (eg : ∀ args w, (callFunc g args).run Try.prog w = .ok (.enter g args) w) (w : World)
    (hr : Kd.C k54 w A zs.length zs) (hc : zs.length ≤ c) (hp : PredR g lb p zs w) :
    Calls Try.prog 40 #[.slice A zs.length c, .func (.func g) #[] lb] w fun e w' => e = .returned (.int .i64 (idxP p zs)) ∧ Below w.heap.size w w' := by
  have hbig : zs.length ≤ 9223372036854775807 := hr.2.1
  have HR := Aside0.mk hr
  have HP := Aside0.mk hp
  have hu60 := Try.underlying54
  clear hr hp hc
  go_enter Try.func40, Try.ntmps40
  go_wp2
  go_loopg [5, 8] zs.length (fun gg _ s8 wr => ∃ i : Nat, s8 = .int .i64 i ∧ Aside0 (i ≤ zs.length) ∧ Aside0 (zs.length - i ≤ gg) ∧ Aside0 (Below w.heap.size w wr) ∧ Aside0 (∀ j (hj : j < zs.length), j < i → p zs[j] = false))
  case atStart => exact ⟨0, rfl, ⟨Nat.zero_le _⟩, ⟨by omega⟩, ⟨Below.refl _ w⟩, ⟨fun j _ hj => absurd hj (Nat.not_lt_zero _)⟩⟩
  case round =>
    obtain ⟨i, rfl, HI, HG, HB, HA⟩ := hrel
    by_cases hlt : i < zs.length
    · have c4b0 : decide ((i : Int) < (zs.length : Int)) = true := decide_eq_true (by omega)
      have c5b0 : decide (i < zs.length) = true := decide_eq_true hlt
      obtain ⟨ad, X0, d0, X1, d1, X2, d2, e, h0, h1, h2, hl0, hC0, hl1, hC1, hl2, hC2⟩ := at_T54 HR.out (i : Int) (by omega) (by omega)
      cases e
      rw [rd_reg zs i hlt] at h0 h1 h2 hl0 hC0 hl1 hC1 hl2 hC2
      rw [Int.toNat_natCast] at h0 h1 h2
      replace h0 := (HB.out.cell (World.block_lt_of_cell? w _ h0)).trans h0
      replace h1 := (HB.out.cell (World.block_lt_of_cell? w ⟨(ad.add (i * 3)).block, (ad.add (i * 3)).off + 1, none⟩ h1)).trans h1
      replace h2 := (HB.out.cell (World.block_lt_of_cell? w ⟨(ad.add (i * 3)).block, (ad.add (i * 3)).off + 2, none⟩ h2)).trans h2
      have hcall := HP.out wr zs[i] (List.getElem_mem hlt) HB.out X0 d0 X1 d1 X2 d2 hl2 (Kd.C_below hC2 HB.out)
      clear hl0 hC0 hl1 hC1 hl2 hC2
      have hn := HA.out
      obtain ⟨y, hy⟩ : ∃ y, zs[i] = y := ⟨_, rfl⟩
      have HY := Aside0.mk hy
      rw [hy] at h0 h1 h2 hcall
      have HN := Aside0.mk hn
      clear hn hy
      cases hq : p y with
      | true =>
        rw [hq] at hcall
        have HQ := Aside0.mk hq
        clear hq
        go_wp2_with (go_at_fn g; refine hcall.mono ?_; rintro e w' ⟨rfl, hb1⟩)
        have hb' := HB.out.trans (hb1.mono HB.out.size)
        go_ret
        exact ⟨congrArg (fun z => Ending.returned (Value.int .i64 z)) (idxP_at p zs i hlt (by rw [HY.out]; exact HQ.out) (fun j hj => HN.out j (by omega) hj)).symm, hb'⟩
      | false =>
        rw [hq] at hcall
        have HQ := Aside0.mk hq
        clear hq
        go_wp2_with (go_at_fn g; refine hcall.mono ?_; rintro e w' ⟨rfl, hb1⟩)
        have hb' := HB.out.trans (hb1.mono HB.out.size)
        go_roundg (zs.length - (i + 1))
        case measure => have := HG.out; omega
        case rel =>
          refine ⟨i + 1, by go_num, ⟨by omega⟩, ⟨by omega⟩, ⟨hb'⟩, ⟨fun j hj hji => ?_⟩⟩
          by_cases e : j = i
          · subst e
            rw [HY.out]; exact HQ.out
          · exact HN.out j hj (by omega)
    · have c4b0 : decide ((i : Int) < (zs.length : Int)) = false := decide_eq_false (by omega)
      have c5b0 : decide (i < zs.length) = false := decide_eq_false hlt
      have hall := Aside0.mk (idxP_none p zs (fun x hx => by
        obtain ⟨j, hj, rfl⟩ := List.getElem_of_mem hx
        exact HA.out j hj (by omega)))
      have HB2 := HB
      clear HA HP HR
      go_wp2
      go_ret
      exact ⟨congrArg (fun z => Ending.returned (Value.int .i64 z)) hall.out.symm, HB2.out⟩
set_option maxHeartbeats 2000000 in
theorem arc_pred (B : Nat) (i : Int) (zs : List SR) (w : World) (hB : B < w.heap.size) (hcell : w.cell? ⟨B, 0, none⟩ = some (.int .i64 i)) : PredR 41 #[.pointer (some ⟨B, 0, none⟩)] (fun r => r.f2.contains i) zs w := by
  intro W x _ hb A0 c0 A1 c1 A2 c2 hl hC
  have hc : W.cell? ⟨B, 0, none⟩ = some (.int .i64 i) := (hb.cell (p := ⟨B, 0, none⟩) hB).trans hcell
  have hBW : B < W.heap.size := Nat.lt_of_lt_of_le hB hb.size
  have hne : B ≠ W.heap.size := by omega
  show Calls Try.prog 41 #[.agg #[.slice A0 x.f0.length c0, .slice A1 x.f1.length c1, .slice A2 x.f2.length c2], .pointer (some ⟨B, 0, none⟩)] W fun e w' => e = .returned (.bool (x.f2.contains i)) ∧ Below W.heap.size W w'
  obtain ⟨zs2, hz⟩ : ∃ zs2, x.f2 = zs2 := ⟨_, rfl⟩
  rw [hz] at hl hC ⊢
  obtain ⟨K, hK⟩ := M.hasI_ev zs2 i hC.2.1
  have hcall := Aside0.mk (fun (W2 : World) (hb : Below W.heap.size W W2) => slices_Contains_int_int.calls K A2 c2 zs2 i (zs2.contains i) W2 (Kd.C_below hC hb) hl (hK K (Nat.le_refl _)))
  have hu := Try.underlying54
  clear hcell hb hz hC hl hK
  generalize zs2.contains i = b at hcall ⊢
  go_enter Try.func41, Try.ntmps41
  go_wp2_with (go_at_call 42; refine (hcall.out _ (below_alloc (Below.refl _ _) _)).mono ?_; rintro e w' ⟨rfl, ⟨nd, rfl⟩⟩)
  go_ret
  exact ⟨by simp, pw_below_drewN (below_alloc (Below.refl _ _) _) _⟩
def impl_RegionOfArc.f (k : Nat) (a0 : Int) (l1 : List CH) (a2 : Int) : Option (Int × Bool) :=
  (impl_planeRegions.f k a0 l1).bind fun q => if q.2 = true then (if 0 ≤ a0 ∧ a0 ≤ 1000 then (if M.inB a2 0 (a0 - 1) = true then some (idxP (fun r => r.f2.contains a2) q.1, true) else some (0, false)) else none) else some (0, false)
theorem impl_RegionOfArc.mono : ∀ a0 a1 a2 k, LeO (impl_RegionOfArc.f k a0 a1 a2) (impl_RegionOfArc.f (k + 1) a0 a1 a2) := by
  intro a0 a1 a2 k
  unfold impl_RegionOfArc.f
  exact LeO.bind (impl_planeRegions.mono _ _ _) (fun _ => LeO.refl _)
set_option maxHeartbeats 4000000 in
theorem impl_RegionOfArc.calls (k : Nat) (a0 : Int) (A1 : Option Addr) (c1 : Nat) (l1 : List CH) (a2 : Int) (r1 : Int) (r2 : Bool) (w : World) (hr1 : Kd.C k47 w A1 l1.length l1) (hc1 : l1.length ≤ c1) (h : impl_RegionOfArc.f k a0 l1 a2 = some (r1, r2)) :
    Calls Try.prog 19 #[.int .i64 a0, .slice A1 l1.length c1, .int .i64 a2] w fun e w' => e = .returned (.tuple #[.int .i64 r1, .bool r2]) ∧ Below w.heap.size w w' := by
  obtain ⟨⟨rs, ok⟩, hp, h⟩ := Option.bind_eq_some_iff.mp h
  dsimp only at h
  obtain ⟨W0, hW0⟩ : ∃ W0, W0 = w.alloc (.cells #[.int .i64 a2] 3) := ⟨_, rfl⟩
  have hb0 : Below w.heap.size w W0 := by rw [hW0]; exact below_alloc (Below.refl _ _) _
  have hs0 : w.heap.size < W0.heap.size := by rw [hW0]; simp
  have hx0 : W0.cell? ⟨w.heap.size, 0, none⟩ = some (.int .i64 a2) := by rw [hW0]; simp
  have HC := Aside0.mk (impl_planeRegions.calls k a0 A1 c1 l1 rs ok W0 (Kd.C_below hr1 hb0) hc1 hp)
  have HB0 := Aside0.mk hb0
  have HX0 := Aside0.mk hx0
  have HS0 := Aside0.mk hs0
  clear hb0 hx0 hs0 hr1 hc1 hp
  cases ok with
  | false =>
    rw [if_neg (by simp)] at h
    injection h with h
    injection h with h1 h2
    subst h1 h2
    go_enter Try.func19, Try.ntmps19
    go_upto_region 1 with fail
    rw [← hW0]
    clear hW0
    go_wp2_with (go_at_call 35; refine HC.out.mono ?_; rintro e w' ⟨v0, rfl, hs, hb⟩)
    go_ret2
    exact ⟨rfl, HB0.out.trans (hb.mono HB0.out.size)⟩
  | true =>
    rw [if_pos rfl] at h
    by_cases hr : 0 ≤ a0 ∧ a0 ≤ 1000
    rotate_left
    · rw [if_neg hr] at h; cases h
    rw [if_pos hr] at h
    have ew : IntKind.i64.wrap (a0 - 1) = a0 - 1 := by
      rw [i64_w]
      exact M.w64 (by omega) (by omega)
    have HI := Aside0.mk (fun (W : World) => calls_drawn (impl_within.calls a2 0 (a0 - 1) (M.inB a2 0 (a0 - 1)) W (M.within_eq _ _ _)))
    have eg : ∀ args w, (callFunc 41 args).run Try.prog w = .ok (.enter 41 args) w := enters_of Try.func41 (by kernel_rfl) rfl
    have HX := Aside0.mk (fun (Av : Option Addr) (cv : Nat) (W : World) (hb : Below W0.heap.size W0 W) (hC : Kd.C k54 W Av rs.length rs) (hc : rs.length ≤ cv) =>
      indexFunc_region Av cv rs (fun r => r.f2.contains a2) 41 #[.pointer (some ⟨w.heap.size, 0, none⟩)] eg W hC hc (arc_pred w.heap.size a2 rs W (Nat.lt_of_lt_of_le HS0.out hb.size) ((hb.cell (p := ⟨w.heap.size, 0, none⟩) HS0.out).trans HX0.out)))
    generalize idxP (fun r => r.f2.contains a2) rs = ix at h HX
    clear hr eg
    cases hin : M.inB a2 0 (a0 - 1) with
    | false =>
      rw [hin] at h HI
      rw [if_neg (by simp)] at h
      injection h with h
      injection h with h1 h2
      subst h1 h2
      clear hin HX
      go_enter Try.func19, Try.ntmps19
      go_upto_region 1 with fail
      rw [← hW0]
      clear hW0
      go_wp2_with (first | (go_at_call 35; refine HC.out.mono ?_; rintro e w2 ⟨v0, rfl, hs, hb⟩; have hx := (hb.cell (p := ⟨w.heap.size, 0, none⟩) HS0.out).trans HX0.out; have HBa := Aside0.mk hb; clear hb hs) | (go_at_call 39; refine (HI.out _).mono ?_; rintro e w3 ⟨rfl, hb⟩; have HBb := Aside0.mk (below_step HBa.out hb); clear hb))
      go_ret2
      exact ⟨rfl, HB0.out.trans (HBb.out.mono HB0.out.size)⟩
    | true =>
      rw [hin] at h HI
      rw [if_pos rfl] at h
      injection h with h
      injection h with h1 h2
      subst h1 h2
      clear hin
      go_enter Try.func19, Try.ntmps19
      go_upto_region 1 with fail
      rw [← hW0]
      clear hW0
      go_wp2_with (first | (go_at_call 35; refine HC.out.mono ?_; rintro e w2 ⟨v0, rfl, hs, hb⟩; obtain ⟨Av, cv, ev, hcv, hCv⟩ := Kd.S_reads hs; subst ev; have HCv := Aside0.mk hCv; have Hcv := Aside0.mk hcv; have hx := (hb.cell (p := ⟨w.heap.size, 0, none⟩) HS0.out).trans HX0.out; have HBa := Aside0.mk hb; clear hb hs hCv hcv) | (go_at_call 39; refine (HI.out _).mono ?_; rintro e w3 ⟨rfl, hb⟩; have HBb := Aside0.mk (below_step HBa.out hb); have HCw := Aside0.mk (Kd.C_below HCv.out hb); clear hb hx) | (go_at_call 40; refine (HX.out _ _ _ HBb.out HCw.out Hcv.out).mono ?_; rintro e w4 ⟨rfl, hb⟩; have HBc := Aside0.mk (below_step HBb.out hb); clear hb))
      go_ret2
      exact ⟨rfl, HB0.out.trans (HBc.out.mono HB0.out.size)⟩
end Go.Proofs.Ytdeenfpcmaadcaa.Pr

-- Written by a program for this claim.
namespace Go.Proofs.Ytdeenfpcmaadcaa.Pr
open Go.RowKit Go.Proofs.YtdeenfpcmaadcaaW.PrintWords Go.Proofs.YtdeenfpcmaadcaaW.PrintLast Go.Proofs.YtdeenfpcmaadcaaW.PrintMore
attribute [local go_sem] max2_int min2_int max_two min_two max_three min_three max_four min_four   -- for this text's walks alone
set_option linter.unusedVariables false
set_option linter.unusedSimpArgs false

/-! ### laws_FnExactRegionOfArc: function 4 -/
def laws_FnExactRegionOfArc.j0 : Nat → List (S49) → List (S47) → Bool → Option (Bool)
  | 0, _, _, _ => none
  | k + 1, x1, x10, x42 => if x42 = true then (some false) else ((laws_toChordS.f k x1).bind fun t415 => ((laws_eqChordS.f k x10 t415).bind fun t418 => (if t418 = true then (some true) else (some false))))
def laws_FnExactRegionOfArc.f (k : Nat) (a0 : Int) (l1 : List (S49)) (a2 : Int) : Option (Bool) := (laws_szChordS.f l1 1048576).bind fun t404 => (if t404 < 0 then (some true) else ((laws_toChordS.f k l1).bind fun t405 => ((spec_RegionOfArc.f k a0 t405 a2).bind fun bt408 => ((laws_toChordS.f k l1).bind fun t410 => ((impl_RegionOfArc.f k a0 t410 a2).bind fun bt413 => (if bt413.1 = bt408.1 then (laws_FnExactRegionOfArc.j0 k l1 t410 (bt413.2 != bt408.2)) else (laws_FnExactRegionOfArc.j0 k l1 t410 true)))))))
theorem laws_FnExactRegionOfArc.mono_l : ∀ k, (∀ y0 y1 y2, LeO (laws_FnExactRegionOfArc.j0 k y0 y1 y2) (laws_FnExactRegionOfArc.j0 (k + 1) y0 y1 y2))
  | 0 => fun _ _ _ r h => by simp [laws_FnExactRegionOfArc.j0] at h
  | k + 1 => by
    have ih0 := laws_FnExactRegionOfArc.mono_l k
    · intro y0 y1 y2
      unfold laws_FnExactRegionOfArc.j0
      repeat' first
      | (with_reducible exact ih0 _ _ _)
      | (with_reducible exact impl_RegionOfArc.mono _ _ _ _)
      | (with_reducible exact laws_eqChordS.mono _ _ _)
      | (with_reducible exact laws_toChordS.mono _ _)
      | (with_reducible exact spec_RegionOfArc.mono _ _ _ _)
      | (with_reducible exact LeO.refl _)
      | (with_reducible exact LeO.none _)
      | (with_reducible refine LeO.ite ?_ ?_)
      | (with_reducible refine LeO.bind ?_ (fun _ => ?_))
      | exact ih0 _ _ _
      | exact impl_RegionOfArc.mono _ _ _ _
      | exact laws_eqChordS.mono _ _ _
      | exact laws_toChordS.mono _ _
      | exact spec_RegionOfArc.mono _ _ _ _
      | exact LeO.none _
      | refine LeO.ite ?_ ?_
      | refine LeO.bind ?_ (fun _ => ?_)
theorem laws_FnExactRegionOfArc.mono : ∀ a0 a1 a2 k, LeO (laws_FnExactRegionOfArc.f k a0 a1 a2) (laws_FnExactRegionOfArc.f (k + 1) a0 a1 a2) := by
  intro a0 a1 a2 k
  have ih0 := laws_FnExactRegionOfArc.mono_l k
  unfold laws_FnExactRegionOfArc.f
  repeat' first
      | (with_reducible exact ih0 _ _ _)
      | (with_reducible exact impl_RegionOfArc.mono _ _ _ _)
      | (with_reducible exact laws_eqChordS.mono _ _ _)
      | (with_reducible exact laws_toChordS.mono _ _)
      | (with_reducible exact spec_RegionOfArc.mono _ _ _ _)
      | (with_reducible exact LeO.refl _)
      | (with_reducible exact LeO.none _)
      | (with_reducible refine LeO.ite ?_ ?_)
      | (with_reducible refine LeO.bind ?_ (fun _ => ?_))
      | exact ih0 _ _ _
      | exact impl_RegionOfArc.mono _ _ _ _
      | exact laws_eqChordS.mono _ _ _
      | exact laws_toChordS.mono _ _
      | exact spec_RegionOfArc.mono _ _ _ _
      | exact LeO.none _
      | refine LeO.ite ?_ ?_
      | refine LeO.bind ?_ (fun _ => ?_)
set_option maxHeartbeats 8000000 in
set_option maxRecDepth 100000 in
theorem laws_FnExactRegionOfArc.calls (k : Nat) (a0 : Int) (A1 : Option Addr) (c1 : Nat) (l1 : List (S49)) (a2 : Int) (r : Bool) (w : World) (hr1 : Kd.C k49 w A1 l1.length l1) (hc1 : l1.length ≤ c1) (h : laws_FnExactRegionOfArc.f k a0 l1 a2 = some r) :
    Calls Try.prog 4 #[.int .i64 a0, .slice A1 l1.length c1, .int .i64 a2] w fun e w' => e = .returned (.bool r) ∧ Below w.heap.size w w' := by
  have HR1 := Aside0.mk hr1
  have HC1 := Aside0.mk hc1
  clear hr1 hc1
  have HB := Aside0.mk (Below.refl w.heap.size w)
  have H : ((laws_szChordS.f l1 1048576).bind fun t404 => (if t404 < 0 then (some true) else ((laws_toChordS.f k l1).bind fun t405 => ((spec_RegionOfArc.f k a0 t405 a2).bind fun bt408 => ((laws_toChordS.f k l1).bind fun t410 => ((impl_RegionOfArc.f k a0 t410 a2).bind fun bt413 => (if bt413.1 = bt408.1 then (laws_FnExactRegionOfArc.j0 k l1 t410 (bt413.2 != bt408.2)) else (laws_FnExactRegionOfArc.j0 k l1 t410 true)))))))) = some r := h
  clear h
  replace H := Option.bind_eq_some_iff.mp H
  obtain ⟨t404, A40, H⟩ := H
  replace H : (if t404 < 0 then (some true) else ((laws_toChordS.f k l1).bind fun t405 => ((spec_RegionOfArc.f k a0 t405 a2).bind fun bt408 => ((laws_toChordS.f k l1).bind fun t410 => ((impl_RegionOfArc.f k a0 t410 a2).bind fun bt413 => (if bt413.1 = bt408.1 then (laws_FnExactRegionOfArc.j0 k l1 t410 (bt413.2 != bt408.2)) else (laws_FnExactRegionOfArc.j0 k l1 t410 true))))))) = some r := H
  have A4 := Aside0.mk A40
  clear A40
  by_cases c5 : t404 < 0
  · rw [if_pos c5] at H
    have c5b0 : decide (t404 < 0) = true := decide_eq_true c5
    clear c5
    obtain rfl := Option.some.inj H
    go_enter Try.func4, Try.ntmps4
    go_wp2_with (first | ((with_reducible refine gate_callee (f := 9) rfl ?_); refine goesL_ (some 15) rfl rfl Try.func9 (by kernel_rfl) rfl #[.slice A1 l1.length c1, .int .i64 1048576] rfl (by (try simp only [List.map_toArray, List.map_cons, List.map_nil]); first | done | rfl | (simp only [List.length_drop, List.length_take]; rfl)) ?_; (with_reducible refine (laws_szChordS.calls _ _ l1 1048576 t404 _ ?side1 ?side2 A4.out).mono ?_); (case side1 => repeat (first | exact HR1.out | (with_reducible refine Kd.C_alloc ?_ _) | (with_reducible refine Kd.C_drewN ?_ _) | (with_reducible refine Kd.C_drew ?_))); (case side2 => exact HC1.out); rintro e w' ⟨rfl, ⟨nd, rfl⟩⟩; refine ⟨_, rfl, ?_⟩))
    go_ret
    exact ⟨by first | rfl | (simp [errW_none, errW_some] <;> rfl) | (simp [*, errW_none, errW_some] <;> rfl), by repeat (first | (with_reducible first | exact HB.out | apply below_alloc | apply pw_below_drewN | apply below_drew1) | exact HB.out)⟩
  · rw [if_neg c5] at H
    have c5b0 : decide (t404 < 0) = false := decide_eq_false c5
    clear c5
    replace H := Option.bind_eq_some_iff.mp H
    obtain ⟨t405, A60, H⟩ := H
    replace H : ((spec_RegionOfArc.f k a0 t405 a2).bind fun bt408 => ((laws_toChordS.f k l1).bind fun t410 => ((impl_RegionOfArc.f k a0 t410 a2).bind fun bt413 => (if bt413.1 = bt408.1 then (laws_FnExactRegionOfArc.j0 k l1 t410 (bt413.2 != bt408.2)) else (laws_FnExactRegionOfArc.j0 k l1 t410 true))))) = some r := H
    have A6 := Aside0.mk A60
    clear A60
    replace H := Option.bind_eq_some_iff.mp H
    obtain ⟨⟨t408, t409⟩, A70, H⟩ := H
    replace H : ((laws_toChordS.f k l1).bind fun t410 => ((impl_RegionOfArc.f k a0 t410 a2).bind fun bt413 => (if bt413.1 = t408 then (laws_FnExactRegionOfArc.j0 k l1 t410 (bt413.2 != t409)) else (laws_FnExactRegionOfArc.j0 k l1 t410 true)))) = some r := H
    have A7 := Aside0.mk A70
    clear A70
    replace H := Option.bind_eq_some_iff.mp H
    obtain ⟨t410, A80, H⟩ := H
    replace H : ((impl_RegionOfArc.f k a0 t410 a2).bind fun bt413 => (if bt413.1 = t408 then (laws_FnExactRegionOfArc.j0 k l1 t410 (bt413.2 != t409)) else (laws_FnExactRegionOfArc.j0 k l1 t410 true))) = some r := H
    have A8 := Aside0.mk A80
    clear A80
    replace H := Option.bind_eq_some_iff.mp H
    obtain ⟨⟨t413, t414⟩, A90, H⟩ := H
    replace H : (if t413 = t408 then (laws_FnExactRegionOfArc.j0 k l1 t410 (t414 != t409)) else (laws_FnExactRegionOfArc.j0 k l1 t410 true)) = some r := H
    have A9 := Aside0.mk A90
    clear A90
    have HC10 := Aside0.mk H
    clear H
    go_enter Try.func4, Try.ntmps4
    go_upto_region 8 with (first | ((with_reducible refine gate_callee (f := 9) rfl ?_); refine goesL_ (some 15) rfl rfl Try.func9 (by kernel_rfl) rfl #[.slice A1 l1.length c1, .int .i64 1048576] rfl (by (try simp only [List.map_toArray, List.map_cons, List.map_nil]); first | done | rfl | (simp only [List.length_drop, List.length_take]; rfl)) ?_; (with_reducible refine (laws_szChordS.calls _ _ l1 1048576 t404 _ ?side1 ?side2 A4.out).mono ?_); (case side1 => repeat (first | exact HR1.out | (with_reducible refine Kd.C_alloc ?_ _) | (with_reducible refine Kd.C_drewN ?_ _) | (with_reducible refine Kd.C_drew ?_))); (case side2 => exact HC1.out); rintro e w' ⟨rfl, ⟨nd, rfl⟩⟩; refine ⟨_, rfl, ?_⟩) | ((with_reducible refine gate_callee (f := 11) rfl ?_); refine goesL_ (some 21) rfl rfl Try.func11 (by kernel_rfl) rfl #[.slice A1 l1.length c1] rfl (by (try simp only [List.map_toArray, List.map_cons, List.map_nil]); first | done | rfl | (simp only [List.length_drop, List.length_take]; rfl)) ?_; (with_reducible refine (laws_toChordS.calls k _ _ l1 t405 _ ?side1 ?side2 A6.out).mono ?_); (case side1 => repeat (first | exact HR1.out | (with_reducible refine Kd.C_alloc ?_ _) | (with_reducible refine Kd.C_drewN ?_ _) | (with_reducible refine Kd.C_drew ?_))); (case side2 => exact HC1.out); rintro e w11 ⟨v406, rfl, ho0, hb⟩; refine ⟨_, rfl, ?_⟩; have n0_ := Aside0.mk (Kd.R_lower ho0 (below_size (by repeat (first | (with_reducible first | exact HB.out | apply below_alloc | apply pw_below_drewN | apply below_drew1) | exact HB.out)))); have n1_ := Aside0.mk (below_step (by repeat (first | (with_reducible first | exact HB.out | apply below_alloc | apply pw_below_drewN | apply below_drew1) | exact HB.out)) hb); clear HB; have HO407 := n0_; have HB := n1_; clear n0_ n1_; (try clear hb); (try clear hb2); (try clear hk); (try clear hi); (try clear ho0); obtain ⟨Ao12, co12, eo12⟩ := Kd.R_slice HO407.out; subst eo12) | ((with_reducible refine gate_callee (f := 18) rfl ?_); refine goesL_ (some 23) rfl rfl Try.func18 (by kernel_rfl) rfl #[.int .i64 a0, .slice Ao12 t405.length co12, .int .i64 a2] rfl (by (try simp only [List.map_toArray, List.map_cons, List.map_nil]); first | done | rfl | (simp only [List.length_drop, List.length_take]; rfl)) ?_; (with_reducible refine (spec_RegionOfArc.calls k a0 _ _ t405 a2 t408 t409 _ ?side1 ?side2 A7.out).mono ?_); (case side1 => repeat (first | exact (Kd.R_reads' HO407.out).2.2 | (with_reducible refine Kd.C_alloc ?_ _) | (with_reducible refine Kd.C_drewN ?_ _) | (with_reducible refine Kd.C_drew ?_))); (case side2 => exact (Kd.R_reads' HO407.out).2.1); rintro e w13 ⟨rfl, hb⟩; refine ⟨_, rfl, ?_⟩; have n0_ := Aside0.mk (Kd.R_below (by (with_reducible repeat (first | apply Kd.R_alloc | apply Kd.R_drewN | apply Kd.R_drew)); exact HO407.out) hb); have n1_ := Aside0.mk (below_step (by repeat (first | (with_reducible first | exact HB.out | apply below_alloc | apply pw_below_drewN | apply below_drew1) | exact HB.out)) hb); clear HO407; clear HB; have HO407 := n0_; have HB := n1_; clear n0_ n1_; (try clear hb); (try clear hb2); (try clear hk); (try clear hi)) | ((with_reducible refine gate_callee (f := 11) rfl ?_); refine goesL_ (some 27) rfl rfl Try.func11 (by kernel_rfl) rfl #[.slice A1 l1.length c1] rfl (by (try simp only [List.map_toArray, List.map_cons, List.map_nil]); first | done | rfl | (simp only [List.length_drop, List.length_take]; rfl)) ?_; (with_reducible refine (laws_toChordS.calls k _ _ l1 t410 _ ?side1 ?side2 A8.out).mono ?_); (case side1 => repeat (first | exact (Kd.C_below HR1.out HB.out) | (with_reducible refine Kd.C_alloc ?_ _) | (with_reducible refine Kd.C_drewN ?_ _) | (with_reducible refine Kd.C_drew ?_))); (case side2 => exact HC1.out); rintro e w14 ⟨v411, rfl, ho0, hb⟩; refine ⟨_, rfl, ?_⟩; have n0_ := Aside0.mk (Kd.R_elder' (by (with_reducible repeat (first | apply Kd.R_alloc | apply Kd.R_drewN | apply Kd.R_drew)); exact HO407.out) (Kd.R_base ho0) hb); have n1_ := Aside0.mk (Kd.R_lower (Kd.R_new' ho0 (Kd.R_lt (by (with_reducible repeat (first | apply Kd.R_alloc | apply Kd.R_drewN | apply Kd.R_drew)); exact HO407.out))) (below_size (by repeat (first | (with_reducible first | exact HB.out | apply below_alloc | apply pw_below_drewN | apply below_drew1) | exact HB.out)))); have n2_ := Aside0.mk (below_step (by repeat (first | (with_reducible first | exact HB.out | apply below_alloc | apply pw_below_drewN | apply below_drew1) | exact HB.out)) hb); clear HO407; clear HB; have HO407 := n0_; have HO412 := n1_; have HB := n2_; clear n0_ n1_ n2_; (try clear hb); (try clear hb2); (try clear hk); (try clear hi); (try clear ho0); obtain ⟨Ao15, co15, eo15⟩ := Kd.R_slice HO412.out; subst eo15) | ((with_reducible refine gate_callee (f := 19) rfl ?_); refine goesL_ (some 32) rfl rfl Try.func19 (by kernel_rfl) rfl #[.int .i64 a0, .slice Ao15 t410.length co15, .int .i64 a2] rfl (by (try simp only [List.map_toArray, List.map_cons, List.map_nil]); first | done | rfl | (simp only [List.length_drop, List.length_take]; rfl)) ?_; (with_reducible refine (impl_RegionOfArc.calls k a0 _ _ t410 a2 t413 t414 _ ?side1 ?side2 A9.out).mono ?_); (case side1 => repeat (first | exact (Kd.R_reads' HO412.out).2.2 | (with_reducible refine Kd.C_alloc ?_ _) | (with_reducible refine Kd.C_drewN ?_ _) | (with_reducible refine Kd.C_drew ?_))); (case side2 => exact (Kd.R_reads' HO412.out).2.1); rintro e w16 ⟨rfl, hb⟩; refine ⟨_, rfl, ?_⟩; have n0_ := Aside0.mk (Kd.R_below (by (with_reducible repeat (first | apply Kd.R_alloc | apply Kd.R_drewN | apply Kd.R_drew)); exact HO407.out) hb); have n1_ := Aside0.mk (Kd.R_below (by (with_reducible repeat (first | apply Kd.R_alloc | apply Kd.R_drewN | apply Kd.R_drew)); exact HO412.out) hb); have n2_ := Aside0.mk (below_step (by repeat (first | (with_reducible first | exact HB.out | apply below_alloc | apply pw_below_drewN | apply below_drew1) | exact HB.out)) hb); clear HO407; clear HO412; clear HB; have HO407 := n0_; have HO412 := n1_; have HB := n2_; clear n0_ n1_ n2_; (try clear hb); (try clear hb2); (try clear hk); (try clear hi)))
    (try simp only [Act.put, List.setIfInBounds_toArray, List.set_cons_zero, List.set_cons_succ])
    go_cut [42] (fun v42 wc => ∃ (kq : Nat) (x42_9 : Bool), v42 = .bool x42_9 ∧ Aside0 (laws_FnExactRegionOfArc.j0 kq l1 t410 x42_9 = some r) ∧ Aside0 (kq ≤ k) ∧ Aside0 (Kd.R k47 47 wc w.heap.size (fun _ => True) (.slice Ao15 t410.length co15) t410) ∧ Aside0 (Below w.heap.size w wc))
    case first =>
      have H := HC10.out
      clear HC10
      by_cases c17 : t413 = t408
      · rw [if_pos c17] at H
        have c17b0 : (t413 == t408) = true := beq_iff_eq.mpr c17
        have c17b1 : (t413 != t408) = false := bne_eq_false_iff_eq.mpr c17
        clear c17
        (first | rw [c17b0] | (simp only [i64_w, i32_w]; rw [c17b0]) | skip)
        have H' := Aside0.mk H
        clear H
        go_wp2
        go_meet
        case rel => exact ⟨_, ((t414 != t409)), (by first | rfl | (simp; done) | (simp [*]; done)), H', ⟨by first | omega | exact Nat.le_refl _⟩, ⟨by (with_reducible repeat (first | apply Kd.R_alloc | apply Kd.R_drewN | apply Kd.R_drew)); exact Kd.R_mono HO412.out (fun _ hk => trivial)⟩, ⟨by repeat (first | (with_reducible first | exact HB.out | apply below_alloc | apply pw_below_drewN | apply below_drew1) | exact HB.out)⟩⟩
      · rw [if_neg c17] at H
        have c17b0 : (t413 == t408) = false := beq_eq_false_iff_ne.mpr c17
        have c17b1 : (t413 != t408) = true := bne_iff_ne.mpr c17
        (first | rw [c17b0] | (simp only [i64_w, i32_w]; rw [c17b0]) | skip)
        have H' := Aside0.mk H
        clear H
        go_wp2
        go_meet
        case rel => exact ⟨_, (true), (by first | rfl | (simp; done) | (simp [*]; done)), H', ⟨by first | omega | exact Nat.le_refl _⟩, ⟨by (with_reducible repeat (first | apply Kd.R_alloc | apply Kd.R_drewN | apply Kd.R_drew)); exact Kd.R_mono HO412.out (fun _ hk => trivial)⟩, ⟨by repeat (first | (with_reducible first | exact HB.out | apply below_alloc | apply pw_below_drewN | apply below_drew1) | exact HB.out)⟩⟩
    case rest =>
      clear HC10
      try clear c1
      try clear p2
      try clear c4
      try clear c5
      try clear c5b0
      try clear c9
      try clear c11
      try clear c17
      try clear c17b0
      try clear c17b1
      obtain ⟨kq, x42_9, rfl, HA, HJ9, HO_10, HB⟩ := hcut
      cases kq with
      | zero => exact absurd HA.out (by simp [laws_FnExactRegionOfArc.j0])
      | succ kj9 =>
        have H := HA.out
        clear HA
        simp only [laws_FnExactRegionOfArc.j0] at H
        by_cases c18 : x42_9 = true
        · subst c18
          have H1 : (some false) = some r := by rw [if_pos rfl] at H; exact H
          clear H
          have H := H1
          clear H1
          obtain rfl := Option.some.inj H
          go_wp2
          go_ret
          exact ⟨by first | rfl | (simp [errW_none, errW_some] <;> rfl) | (simp [*, errW_none, errW_some] <;> rfl), by repeat (first | (with_reducible first | exact HB.out | apply below_alloc | apply pw_below_drewN | apply below_drew1) | exact HB.out)⟩
        · replace c18 := Bool.eq_false_iff.mpr c18
          subst c18
          have H1 : ((laws_toChordS.f kj9 l1).bind fun t415 => ((laws_eqChordS.f kj9 t410 t415).bind fun t418 => (if t418 = true then (some true) else (some false)))) = some r := by rw [if_neg (show ¬ (false = true) by decide)] at H; exact H
          clear H
          have H := H1
          clear H1
          replace H := Option.bind_eq_some_iff.mp H
          obtain ⟨t415, A190, H⟩ := H
          replace H : ((laws_eqChordS.f kj9 t410 t415).bind fun t418 => (if t418 = true then (some true) else (some false))) = some r := H
          have A19 := Aside0.mk A190
          clear A190
          replace H := Option.bind_eq_some_iff.mp H
          obtain ⟨t418, A200, H⟩ := H
          replace H : (if t418 = true then (some true) else (some false)) = some r := H
          have A20 := Aside0.mk A200
          clear A200
          by_cases c21 : t418 = true
          · subst c21
            have H1 : (some true) = some r := by rw [if_pos rfl] at H; exact H
            clear H
            have H := H1
            clear H1
            obtain rfl := Option.some.inj H
            go_wp2_with (first | ((with_reducible refine gate_callee (f := 11) rfl ?_); refine goesL_ (some 45) rfl rfl Try.func11 (by kernel_rfl) rfl #[.slice A1 l1.length c1] rfl (by (try simp only [List.map_toArray, List.map_cons, List.map_nil]); first | done | rfl | (simp only [List.length_drop, List.length_take]; rfl)) ?_; (with_reducible refine (laws_toChordS.calls kj9 _ _ l1 t415 _ ?side1 ?side2 A19.out).mono ?_); (case side1 => repeat (first | exact (Kd.C_below HR1.out HB.out) | (with_reducible refine Kd.C_alloc ?_ _) | (with_reducible refine Kd.C_drewN ?_ _) | (with_reducible refine Kd.C_drew ?_))); (case side2 => exact HC1.out); rintro e w22 ⟨v416, rfl, ho0, hb⟩; refine ⟨_, rfl, ?_⟩; have n0_ := Aside0.mk (Kd.R_elder' (by (with_reducible repeat (first | apply Kd.R_alloc | apply Kd.R_drewN | apply Kd.R_drew)); exact HO_10.out) (Kd.R_base ho0) hb); have n1_ := Aside0.mk (Kd.R_lower (Kd.R_new' ho0 (Kd.R_lt (by (with_reducible repeat (first | apply Kd.R_alloc | apply Kd.R_drewN | apply Kd.R_drew)); exact HO_10.out))) (below_size (by repeat (first | (with_reducible first | exact HB.out | apply below_alloc | apply pw_below_drewN | apply below_drew1) | exact HB.out)))); have n2_ := Aside0.mk (below_step (by repeat (first | (with_reducible first | exact HB.out | apply below_alloc | apply pw_below_drewN | apply below_drew1) | exact HB.out)) hb); clear HO_10; clear HB; have HO_10 := n0_; have HO417 := n1_; have HB := n2_; clear n0_ n1_ n2_; (try clear hb); (try clear hb2); (try clear hk); (try clear hi); (try clear ho0); obtain ⟨Ao23, co23, eo23⟩ := Kd.R_slice HO417.out; subst eo23) | ((with_reducible refine gate_callee (f := 14) rfl ?_); refine goesL_ (some 46) rfl rfl Try.func14 (by kernel_rfl) rfl #[.slice Ao15 t410.length co15, .slice Ao23 t415.length co23] rfl (by (try simp only [List.map_toArray, List.map_cons, List.map_nil]); first | done | rfl | (simp only [List.length_drop, List.length_take]; rfl)) ?_; (with_reducible refine (laws_eqChordS.calls kj9 _ _ t410 _ _ t415 true _ ?side1 ?side2 ?side3 ?side4 A20.out).mono ?_); (case side1 => repeat (first | exact (Kd.R_reads' HO_10.out).2.2 | (with_reducible refine Kd.C_alloc ?_ _) | (with_reducible refine Kd.C_drewN ?_ _) | (with_reducible refine Kd.C_drew ?_))); (case side2 => exact (Kd.R_reads' HO_10.out).2.1); (case side3 => repeat (first | exact (Kd.R_reads' HO417.out).2.2 | (with_reducible refine Kd.C_alloc ?_ _) | (with_reducible refine Kd.C_drewN ?_ _) | (with_reducible refine Kd.C_drew ?_))); (case side4 => exact (Kd.R_reads' HO417.out).2.1); rintro e w24 ⟨rfl, hb⟩; refine ⟨_, rfl, ?_⟩; have n0_ := Aside0.mk (Kd.R_below (by (with_reducible repeat (first | apply Kd.R_alloc | apply Kd.R_drewN | apply Kd.R_drew)); exact HO_10.out) hb); have n1_ := Aside0.mk (Kd.R_below (by (with_reducible repeat (first | apply Kd.R_alloc | apply Kd.R_drewN | apply Kd.R_drew)); exact HO417.out) hb); have n2_ := Aside0.mk (below_step (by repeat (first | (with_reducible first | exact HB.out | apply below_alloc | apply pw_below_drewN | apply below_drew1) | exact HB.out)) hb); clear HO_10; clear HO417; clear HB; have HO_10 := n0_; have HO417 := n1_; have HB := n2_; clear n0_ n1_ n2_; (try clear hb); (try clear hb2); (try clear hk); (try clear hi)))
            go_ret
            exact ⟨by first | rfl | (simp [errW_none, errW_some] <;> rfl) | (simp [*, errW_none, errW_some] <;> rfl), by repeat (first | (with_reducible first | exact HB.out | apply below_alloc | apply pw_below_drewN | apply below_drew1) | exact HB.out)⟩
          · replace c21 := Bool.eq_false_iff.mpr c21
            subst c21
            have H1 : (some false) = some r := by rw [if_neg (show ¬ (false = true) by decide)] at H; exact H
            clear H
            have H := H1
            clear H1
            obtain rfl := Option.some.inj H
            go_wp2_with (first | ((with_reducible refine gate_callee (f := 11) rfl ?_); refine goesL_ (some 45) rfl rfl Try.func11 (by kernel_rfl) rfl #[.slice A1 l1.length c1] rfl (by (try simp only [List.map_toArray, List.map_cons, List.map_nil]); first | done | rfl | (simp only [List.length_drop, List.length_take]; rfl)) ?_; (with_reducible refine (laws_toChordS.calls kj9 _ _ l1 t415 _ ?side1 ?side2 A19.out).mono ?_); (case side1 => repeat (first | exact (Kd.C_below HR1.out HB.out) | (with_reducible refine Kd.C_alloc ?_ _) | (with_reducible refine Kd.C_drewN ?_ _) | (with_reducible refine Kd.C_drew ?_))); (case side2 => exact HC1.out); rintro e w25 ⟨v416, rfl, ho0, hb⟩; refine ⟨_, rfl, ?_⟩; have n0_ := Aside0.mk (Kd.R_elder' (by (with_reducible repeat (first | apply Kd.R_alloc | apply Kd.R_drewN | apply Kd.R_drew)); exact HO_10.out) (Kd.R_base ho0) hb); have n1_ := Aside0.mk (Kd.R_lower (Kd.R_new' ho0 (Kd.R_lt (by (with_reducible repeat (first | apply Kd.R_alloc | apply Kd.R_drewN | apply Kd.R_drew)); exact HO_10.out))) (below_size (by repeat (first | (with_reducible first | exact HB.out | apply below_alloc | apply pw_below_drewN | apply below_drew1) | exact HB.out)))); have n2_ := Aside0.mk (below_step (by repeat (first | (with_reducible first | exact HB.out | apply below_alloc | apply pw_below_drewN | apply below_drew1) | exact HB.out)) hb); clear HO_10; clear HB; have HO_10 := n0_; have HO417 := n1_; have HB := n2_; clear n0_ n1_ n2_; (try clear hb); (try clear hb2); (try clear hk); (try clear hi); (try clear ho0); obtain ⟨Ao26, co26, eo26⟩ := Kd.R_slice HO417.out; subst eo26) | ((with_reducible refine gate_callee (f := 14) rfl ?_); refine goesL_ (some 46) rfl rfl Try.func14 (by kernel_rfl) rfl #[.slice Ao15 t410.length co15, .slice Ao26 t415.length co26] rfl (by (try simp only [List.map_toArray, List.map_cons, List.map_nil]); first | done | rfl | (simp only [List.length_drop, List.length_take]; rfl)) ?_; (with_reducible refine (laws_eqChordS.calls kj9 _ _ t410 _ _ t415 false _ ?side1 ?side2 ?side3 ?side4 A20.out).mono ?_); (case side1 => repeat (first | exact (Kd.R_reads' HO_10.out).2.2 | (with_reducible refine Kd.C_alloc ?_ _) | (with_reducible refine Kd.C_drewN ?_ _) | (with_reducible refine Kd.C_drew ?_))); (case side2 => exact (Kd.R_reads' HO_10.out).2.1); (case side3 => repeat (first | exact (Kd.R_reads' HO417.out).2.2 | (with_reducible refine Kd.C_alloc ?_ _) | (with_reducible refine Kd.C_drewN ?_ _) | (with_reducible refine Kd.C_drew ?_))); (case side4 => exact (Kd.R_reads' HO417.out).2.1); rintro e w27 ⟨rfl, hb⟩; refine ⟨_, rfl, ?_⟩; have n0_ := Aside0.mk (Kd.R_below (by (with_reducible repeat (first | apply Kd.R_alloc | apply Kd.R_drewN | apply Kd.R_drew)); exact HO_10.out) hb); have n1_ := Aside0.mk (Kd.R_below (by (with_reducible repeat (first | apply Kd.R_alloc | apply Kd.R_drewN | apply Kd.R_drew)); exact HO417.out) hb); have n2_ := Aside0.mk (below_step (by repeat (first | (with_reducible first | exact HB.out | apply below_alloc | apply pw_below_drewN | apply below_drew1) | exact HB.out)) hb); clear HO_10; clear HO417; clear HB; have HO_10 := n0_; have HO417 := n1_; have HB := n2_; clear n0_ n1_ n2_; (try clear hb); (try clear hb2); (try clear hk); (try clear hi)))
            go_ret
            exact ⟨by first | rfl | (simp [errW_none, errW_some] <;> rfl) | (simp [*, errW_none, errW_some] <;> rfl), by repeat (first | (with_reducible first | exact HB.out | apply below_alloc | apply pw_below_drewN | apply below_drew1) | exact HB.out)⟩

end Go.Proofs.Ytdeenfpcmaadcaa.Pr

/- The statements' own helpers on lists of chords: the size, the copies and the comparison. -/
namespace Go.Proofs.Ytdeenfpcmaadcaa.M
open Go.RowKit Go.Proofs.YtdeenfpcmaadcaaW.PrintWords Go.Proofs.Ytdeenfpcmaadcaa.Pr
set_option linter.unusedVariables false
set_option linter.unusedSimpArgs false

abbrev LCh := S49
def toC (c : LCh) : Ch := ⟨c.f0, c.f1⟩
theorem rd_lch (l : List LCh) (i : Nat) (h : i < l.length) : rd_T49 l (i : Int) = l[i] := by
  unfold rd_T49
  simp [List.getD_eq_getElem?_getD, List.getElem?_eq_getElem h]

theorem szC_small (l : List LCh) (h : l.length ≤ 1048576) : laws_szChordS.f l 1048576 = some (1048576 - (l.length : Int)) := by
  unfold laws_szChordS.f
  rw [w64 (by omega) (by omega), if_neg (by omega)]
theorem szC_big (l : List LCh) (h : 1048576 < l.length) (hm : l.length ≤ maxLen) : laws_szChordS.f l 1048576 = some (-1) := by
  unfold maxLen at hm
  unfold laws_szChordS.f
  rw [w64 (by omega) (by omega), if_pos (by omega)]

theorem toC_ev (l : List LCh) (hl : l.length ≤ 1048576) : Ev (fun k => laws_toChordS.f k l) (l.map toC) := by
  unfold laws_toChordS.f
  refine Ev.pos (by omega) (Ev.pos (by simp; omega) ?_)
  rw [Int.toNat_natCast]
  refine Ev.scan0 (fun k i acc => laws_toChordS.l0 k l acc i) l (fun rest acc => l.map toC) (fun i acc => acc = (l.take i).map toC ++ List.replicate (l.length - i) z47)
    (fun acc hp => by
      refine Ev.step (fun k => by rw [laws_toChordS.l0]) ?_
      refine Ev.neg (by omega) (Ev.val ?_)
      rw [hp]
      simp)
    (fun i h acc hp => by
      have hr := rd_lch l i h
      have hal : acc.length = l.length := by rw [hp]; simp; omega
      refine .inl ⟨acc.set i (toC l[i]), ?_, rfl, fun r hr2 => ?_⟩
      · rw [hp, List.take_succ_eq_append_getElem h, List.map_append, List.append_assoc]
        have ht : ((l.take i).map toC).length = i := by simp; omega
        rw [List.set_append_right i _ (by omega), ht, Nat.sub_self]
        congr 1
        obtain ⟨q, hq⟩ : ∃ q, l.length - i = q + 1 := ⟨l.length - i - 1, by omega⟩
        rw [hq, show l.length - (i + 1) = q by omega, List.replicate_succ, List.set_cons_zero]
        rfl
      · refine Ev.step (fun k => by rw [laws_toChordS.l0]) ?_
        refine Ev.pos (by omega) (Ev.pos (by omega) ?_)
        rw [hr]
        refine Ev.bindc (a := (l[i].f0, l[i].f1)) rfl (Ev.pos (by omega) ?_)
        rw [w64 (x := (i : Int) + 1) (by omega) (by omega), Int.toNat_natCast]
        exact hr2)
    _ (by simp)

theorem eqC_ev (l : List Ch) (hl : l.length ≤ 9223372036854775806) : Ev (fun k => laws_eqChordS.f k l l) true := by
  unfold laws_eqChordS.f
  refine Ev.pos rfl ?_
  have e := Ev.scan0 (fun k i (_ : Unit) => laws_eqChordS.l0 k l l i) l (fun _ _ => true) (fun _ _ => True)
    (fun acc _ => by
      refine Ev.step (fun k => by rw [laws_eqChordS.l0]) ?_
      exact Ev.neg (by omega) (Ev.now true))
    (fun i h acc _ => by
      refine .inl ⟨(), trivial, rfl, fun r hr2 => ?_⟩
      refine Ev.step (fun k => by rw [laws_eqChordS.l0]) ?_
      refine Ev.pos (by omega) (Ev.pos (by omega) (Ev.pos (by omega) ?_))
      refine Ev.bindc (a := true) (by unfold laws_eqChord.f; simp) (Ev.pos rfl ?_)
      rw [w64 (x := (i : Int) + 1) (by omega) (by omega)]
      exact hr2) () trivial
  exact e
end Go.Proofs.Ytdeenfpcmaadcaa.M

/- What the program's regionInside computes: the walk along a region's edge. -/
namespace Go.Proofs.Ytdeenfpcmaadcaa.M
open Go.RowKit Go.Proofs.YtdeenfpcmaadcaaW.PrintWords Go.Proofs.Ytdeenfpcmaadcaa.Pr
set_option linter.unusedVariables false
set_option linter.unusedSimpArgs false
theorem nx_skip (a m : Int) (sel : Ch → Bool) (d : Ch) (rest : List Ch) (h : ¬ (sel d = true ∧ d.f0 = a ∧ m < d.f1)) : nxF a ((d :: rest).filter sel) m = nxF a (rest.filter sel) m := by
  rw [List.filter_cons]
  split
  · rename_i hs
    rw [nxF, if_neg (fun q => h ⟨hs, q⟩)]
  · rfl
theorem nx_take (a m : Int) (sel : Ch → Bool) (d : Ch) (rest : List Ch) (h : sel d = true ∧ d.f0 = a ∧ m < d.f1) : nxF a ((d :: rest).filter sel) m = nxF a (rest.filter sel) d.f1 := by
  rw [List.filter_cons, if_pos h.1, nxF, if_pos h.2]
/-- What is left to do behind one step of the walk. -/
def afterN (Q : List Ch) (b : Int) (n : Nat) (a : Int) (P : List Int) (C : List Ch) (A : List Int) (m : Int) : List Int × List Ch × List Int :=
  if m > a then ((P ++ [m]) ++ walkP Q b n m, (C ++ [⟨a, m⟩]) ++ walkC Q b n m, A ++ walkA Q b n m)
  else ((P ++ [a + 1]) ++ walkP Q b n (a + 1), C ++ walkC Q b n (a + 1), (A ++ [a]) ++ walkA Q b n (a + 1))
theorem inside_l0 (l : List Ch) (isC : Bool) (lo b : Int) (sel : Ch → Bool) (hsel : ∀ d ∈ l, lo ≤ d.f0 → (sel d = true ↔ d.f1 ≤ b ∧ ¬ (isC = true ∧ d.f0 = lo ∧ d.f1 = b))) (hlo : 0 ≤ lo) (hb : b ≤ 1000) (hll : l.length ≤ 1000) :
    ∀ (n : Nat) (a : Int) (P : List Int) (C : List Ch) (A : List Int), lo ≤ a → b ≤ a + n → P.length + n ≤ 100000 → C.length + n ≤ 100000 → A.length + n ≤ 100000 →
      Ev (fun k => impl_regionInside.l0 k l isC a lo b P C A) (P ++ walkP (l.filter sel) b n a, C ++ walkC (l.filter sel) b n a, A ++ walkA (l.filter sel) b n a)
  | 0, a, P, C, A, ha, hn, _, _, _ => by
    refine Ev.step (fun k => by rw [impl_regionInside.l0]) ?_
    refine Ev.neg (by omega) (Ev.val ?_)
    simp [walkP, walkC, walkA]
  | n + 1, a, P, C, A, ha, hn, hP, hC, hA => by
    refine Ev.step (fun k => by rw [impl_regionInside.l0]) ?_
    by_cases hab : a < b
    · refine Ev.pos hab ?_
      have e := Ev.scan0 (fun k i (m : Int) => impl_regionInside.l1 k l isC a m l (l.length : Int) i lo b P C A) l (fun rest m => afterN (l.filter sel) b n a P C A (nxF a (rest.filter sel) m)) (fun _ _ => True)
        (fun m _ => by
          refine Ev.step (fun k => by rw [impl_regionInside.l1]) ?_
          refine Ev.neg (by omega) ?_
          show Ev _ (afterN (l.filter sel) b n a P C A m)
          unfold afterN
          by_cases hm : m > a
          · rw [if_pos hm]
            refine Ev.pos hm (Ev.pos (by omega) (Ev.pos (by omega) ?_))
            exact inside_l0 l isC lo b sel hsel hlo hb hll n m (P ++ [m]) (C ++ [⟨a, m⟩]) A (by omega) (by omega) (by simp; omega) (by simp; omega) (by omega)
          · rw [if_neg hm]
            refine Ev.neg hm (Ev.pos (by omega) (Ev.pos (by omega) ?_))
            rw [w64 (by omega) (by omega)]
            exact inside_l0 l isC lo b sel hsel hlo hb hll n (a + 1) (P ++ [a + 1]) C (A ++ [a]) (by omega) (by omega) (by simp; omega) (by omega) (by simp; omega))
        (fun i h m _ => by
          have hd := hsel l[i] (List.getElem_mem h)
          by_cases hs : sel l[i] = true ∧ l[i].f0 = a ∧ m < l[i].f1
          · refine .inl ⟨l[i].f1, trivial, by rw [nx_take _ _ _ _ _ hs], fun r hr => ?_⟩
            have hq := (hd (by omega)).1 hs.1
            refine Ev.step (fun k => by rw [impl_regionInside.l1]) ?_
            refine Ev.pos (by omega) (Ev.pos (by omega) (Ev.pos (by omega) ?_))
            rw [rd_ch l i h, w64 (by omega) (by omega)]
            refine Ev.pos hs.2.1 (Ev.pos hq.1 (Ev.pos (by omega) ?_))
            by_cases hi : isC = true
            · refine Ev.pos hi (Ev.neg ?_ hr)
              intro e
              rw [Bool.and_eq_true, beq_iff_eq, beq_iff_eq] at e
              exact hq.2 ⟨hi, e.1, e.2⟩
            · exact Ev.neg hi hr
          · refine .inl ⟨m, trivial, by rw [nx_skip _ _ _ _ _ hs], fun r hr => ?_⟩
            refine Ev.step (fun k => by rw [impl_regionInside.l1]) ?_
            refine Ev.pos (by omega) (Ev.pos (by omega) (Ev.pos (by omega) ?_))
            rw [rd_ch l i h, w64 (by omega) (by omega)]
            by_cases h1 : l[i].f0 = a
            · refine Ev.pos h1 ?_
              by_cases h2 : l[i].f1 ≤ b
              · refine Ev.pos h2 ?_
                by_cases h3 : l[i].f1 > m
                · refine Ev.pos h3 ?_
                  have hns : ¬ sel l[i] = true := fun q => hs ⟨q, h1, h3⟩
                  rw [hd (by omega)] at hns
                  have hc : isC = true ∧ l[i].f0 = lo ∧ l[i].f1 = b := by
                    apply Classical.byContradiction
                    intro q
                    exact hns ⟨h2, q⟩
                  refine Ev.pos hc.1 (Ev.pos ?_ hr)
                  rw [Bool.and_eq_true, beq_iff_eq, beq_iff_eq]
                  exact hc.2
                · exact Ev.neg h3 hr
              · exact Ev.neg h2 hr
            · exact Ev.neg h1 hr)
        a trivial
      have e2 : afterN (l.filter sel) b n a P C A (nxF a (l.filter sel) a) = (P ++ walkP (l.filter sel) b (n + 1) a, C ++ walkC (l.filter sel) b (n + 1) a, A ++ walkA (l.filter sel) b (n + 1) a) := by
        unfold afterN
        rw [walkP, walkC, walkA, if_pos hab, if_pos hab, if_pos hab, nxt]
        by_cases hg : nxF a (l.filter sel) a > a
        · simp only [if_pos hg, List.append_assoc, List.singleton_append, List.nil_append]
        · simp only [if_neg hg, List.append_assoc, List.singleton_append, List.nil_append]
      rw [← e2]
      exact e
    · refine Ev.neg hab (Ev.val ?_)
      rw [walkP, walkC, walkA, if_neg hab, if_neg hab, if_neg hab]
      simp
section
variable {p : Int} {P : List Ch} (H : PlaneP p P)
include H
theorem inside_ev {c : Ch} (hc : c ∈ P) (hp : p ≤ 1000) (hl : P.length ≤ 1000) : Ev (fun k => impl_regionInside.f k P c.f0 c.f1 true) (ptsW p P c, chsW p P c, arcsW p P c) := by
  rcases edge_cases H (.inr hc) with ⟨e, _⟩ | ⟨_, hne, e1, e2, h1, h2, h3⟩
  · have := (H.ends c hc).1
    rw [e] at this
    exact absurd this (by show ¬ ((0 : Int) ≤ -1); omega)
  · unfold impl_regionInside.f
    refine Ev.bindc rfl (Ev.pos rfl (Ev.pos (by simp) ?_))
    have e := inside_l0 P true c.f0 c.f1 (selB c) (fun d hd hlo => by
      unfold selB
      rw [decide_eq_true_iff]
      constructor
      · rintro ⟨q1, q2, q3⟩
        exact ⟨q3, fun q => q1 (by cases c; cases d; simp_all)⟩
      · rintro ⟨q1, q2⟩
        exact ⟨fun q => q2 (by rw [q]; exact ⟨rfl, rfl, rfl⟩), hlo, q1⟩) (by omega) (by omega) hl (c.f1 - c.f0).toNat c.f0 [c.f0] [c] [] (Int.le_refl _) (by omega) (by simp; omega) (by simp; omega) (by simp; omega)
    unfold ptsW chsW arcsW qOf
    rw [e1, e2, if_neg hne, if_neg hne]
    refine Ev.step (fun k => by rw [impl_regionInside.j0]) ?_
    exact e
theorem outer_ev (hp : p ≤ 1000) (hl : P.length ≤ 1000) : Ev (fun k => impl_regionInside.f k P 0 (p - 1) false) (ptsW p P (outC p), chsW p P (outC p), arcsW p P (outC p)) := by
  have h3 := H.hp
  unfold impl_regionInside.f
  refine Ev.bindc rfl (Ev.neg (by decide) (Ev.pos (by simp) ?_))
  have e := inside_l0 P false 0 (p - 1) (selB (outC p)) (fun d hd hlo => by
    have := H.ends d hd
    unfold selB outC
    rw [decide_eq_true_iff]
    constructor
    · rintro ⟨q1, q2, q3⟩
      exact ⟨by omega, fun q => by cases q.1⟩
    · rintro ⟨q1, q2⟩
      exact ⟨fun q => by rw [q] at hlo; exact absurd hlo (by show ¬ ((0 : Int) ≤ -1); omega), by show (-1 : Int) ≤ d.f0; omega, by show d.f1 ≤ p; omega⟩) (Int.le_refl 0) (by omega) hl (p - 1 - 0).toNat 0 [0] [] [p - 1] (Int.le_refl _) (by omega) (by simp; omega) (by simp; omega) (by simp; omega)
  rcases edge_cases H (.inl rfl) with ⟨_, e1, e2⟩ | ⟨_, q, _⟩
  · unfold ptsW chsW arcsW qOf
    rw [e1, e2, if_pos rfl, if_pos rfl]
    refine Ev.step (fun k => by rw [impl_regionInside.j0]) ?_
    exact e
  · exact absurd rfl q
end
end Go.Proofs.Ytdeenfpcmaadcaa.M

/- The regions in order: the reference's rows are the program's. -/
namespace Go.Proofs.Ytdeenfpcmaadcaa.M
open Go.RowKit Go.Proofs.YtdeenfpcmaadcaaW.PrintWords Go.Proofs.Ytdeenfpcmaadcaa.Pr
set_option linter.unusedVariables false
set_option linter.unusedSimpArgs false
theorem backK_spec (r : List Int) (os : List (List Int)) : ∀ k, k ≤ os.length → (∀ i (hi : i < os.length), backK lexB r os k ≤ i → i < k → lexB r os[i] = true) ∧ (backK lexB r os k = 0 ∨ ∃ i, ∃ hi : i < os.length, backK lexB r os k = i + 1 ∧ lexB r os[i] = false)
  | 0, _ => ⟨fun i hi h1 h2 => by omega, .inl rfl⟩
  | k + 1, hk => by
    have ih := backK_spec r os k (by omega)
    have hg : os.getD k [] = os[k] := by rw [List.getD_eq_getElem?_getD, List.getElem?_eq_getElem (by omega)]; rfl
    rw [backK, hg]
    by_cases h : lexB r os[k] = true
    · rw [if_pos h]
      refine ⟨fun i hi h1 h2 => ?_, ih.2⟩
      by_cases e : i = k
      · subst e; exact h
      · exact ih.1 i hi h1 (by omega)
    · rw [if_neg h]
      exact ⟨fun i hi h1 h2 => by omega, .inr ⟨k, by omega, rfl, by simpa using h⟩⟩
theorem insB_perm (os : List (List Int)) (r : List Int) : (insB lexB os r).Perm (r :: os) := by
  unfold insB
  refine List.perm_middle.trans ?_
  rw [List.take_append_drop]
theorem insB_sorted (os : List (List Int)) (r : List Int) (h : LS os) : LS (insB lexB os r) := by
  obtain ⟨h1, h2⟩ := backK_spec r os os.length (Nat.le_refl _)
  have hle := backK_le lexB r os os.length
  unfold insB
  obtain ⟨K, hK⟩ : ∃ K, K = backK lexB r os os.length := ⟨_, rfl⟩
  rw [← hK] at h1 h2 hle ⊢
  have hp := List.pairwise_iff_getElem.1 h
  have hs : LS (os.take K ++ os.drop K) := by rw [List.take_append_drop]; exact h
  obtain ⟨s1, s2, s3⟩ := List.pairwise_append.1 hs
  refine List.pairwise_append.2 ⟨s1, List.pairwise_cons.2 ⟨fun y hy => ?_, s2⟩, fun x hx y hy => ?_⟩
  · obtain ⟨i, hi, rfl⟩ := List.getElem_of_mem hy
    rw [List.getElem_drop]
    rw [List.length_drop] at hi
    have ht := h1 (K + i) (by omega) (by omega) (by omega)
    cases e : lexB os[K + i] r with
    | false => rfl
    | true =>
      have := lexB_trans _ _ _ e ht
      rw [lexB_irrefl] at this
      cases this
  · rcases List.mem_cons.1 hy with rfl | hy
    · obtain ⟨i, hi, rfl⟩ := List.getElem_of_mem hx
      rw [List.getElem_take]
      rw [List.length_take] at hi
      rcases h2 with h2 | ⟨m, hm, e, hf⟩
      · omega
      · by_cases him : i = m
        · subst him; exact hf
        · exact lexB_ge_trans (hp i m (by omega) hm (by omega)) hf
    · exact s3 x hx y hy
theorem foldB_gen : ∀ (l acc : List (List Int)), LS acc → (l.foldl (insB lexB) acc).Perm (acc ++ l) ∧ LS (l.foldl (insB lexB) acc)
  | [], acc, h => ⟨by rw [List.append_nil]; exact List.Perm.refl _, h⟩
  | r :: l, acc, h => by
    obtain ⟨h1, h2⟩ := foldB_gen l (insB lexB acc r) (insB_sorted acc r h)
    refine ⟨h1.trans (((insB_perm acc r).append_right l).trans ?_), h2⟩
    exact List.perm_middle.symm
theorem ptsTo_nil (p : Int) (hp : 3 ≤ p) : regN p [] (outC p) = ptsTo p := by
  unfold regN
  rw [List.filter_eq_self.2 (fun x hx => by
    rw [inR_iff]
    have := mem_ptsTo.1 hx
    exact ⟨by show (-1 : Int) ≤ x; omega, by show x ≤ p; omega, fun d hd => by cases hd⟩)]
section
variable {p : Int} {P : List Ch} (H : PlaneP p P)
include H
/-- The reference's rows: a sorted permutation of the regions. -/
theorem ref_perm : ((foldR P [ptsTo p]).foldl (insB lexB) []).Perm ((outC p :: P).map (regN p P)) ∧ LS ((foldR P [ptsTo p]).foldl (insB lexB) []) := by
  obtain ⟨h1, h2⟩ := foldB_gen (foldR P [ptsTo p]) [] List.Pairwise.nil
  refine ⟨h1.trans ?_, h2⟩
  obtain ⟨ds, hd, e⟩ := foldR_regs P [] (by simpa using H.pl) (by simpa using H.ends) (by simpa using H.nd) [outC p] (List.Perm.refl _)
  rw [List.nil_append] at hd e
  rw [List.map_cons, List.map_nil, ptsTo_nil p H.hp] at e
  rw [List.nil_append, e]
  exact hd.map _
theorem regN_inj {c d : Ch} (hc : c = outC p ∨ c ∈ P) (hd : d = outC p ∨ d ∈ P) (e : regN p P c = regN p P d) : c = d := by
  have hm : ∀ x, ((0 ≤ x ∧ x < p) ∧ InR P c x) ↔ ((0 ≤ x ∧ x < p) ∧ InR P d x) := fun x => by rw [← mem_regN, ← mem_regN, e]
  have hm2 : ∀ x, (lowE c ≤ x ∧ x ≤ topE p c ∧ Free (qOf P c) x) ↔ (lowE d ≤ x ∧ x ≤ topE p d ∧ Free (qOf P d) x) := fun x => by rw [← free_iff H hc, ← free_iff H hd]; exact hm x
  have lc := low_le H hc
  have ld := low_le H hd
  have a1 := (hm2 (lowE c)).1 ⟨Int.le_refl _, by omega, low_free H hc⟩
  have a2 := (hm2 (lowE d)).2 ⟨Int.le_refl _, by omega, low_free H hd⟩
  have a3 := (hm2 (topE p c)).1 ⟨by omega, Int.le_refl _, top_free H hc⟩
  have a4 := (hm2 (topE p d)).2 ⟨by omega, Int.le_refl _, top_free H hd⟩
  have key : ∀ d : Ch, d ∈ P → d ≠ outC p → d.f0 = 0 → d.f1 = p - 1 → (∀ x, ((0 ≤ x ∧ x < p) ∧ InR P (outC p) x) ↔ ((0 ≤ x ∧ x < p) ∧ InR P d x)) → False := fun d hdP hdo e0 e1 hx => by
    have h3 := H.hp
    have hd : d = outC p ∨ d ∈ P := .inr hdP
    rcases edge_cases H hd with ⟨q, _⟩ | ⟨_, _, l1, l2, _⟩
    · exact hdo q
    have hlt := low_le H hd
    have g1 := nxt_gt (q_low H hd) (lowE d)
    have g2 := nxt_le (q_low H hd) hlt
    have g3 := nxt_free (q_low H hd) (q_no H) (low_free H hd)
    have g4 : nxt (qOf P d) (lowE d) ≠ p - 1 := fun q => by
      unfold nxt at q
      split at q
      · rcases nxF_mem (lowE d) (qOf P d) (lowE d) with e' | ⟨x, hxq, x0, x1⟩
        · omega
        · have hq := q_in H hxq
          exact hq.2.1 (by cases x; cases d; simp only [S47.mk.injEq] at *; omega)
      · omega
    have m1 := (hx (nxt (qOf P d) (lowE d))).2 ((free_iff H hd _).2 ⟨by omega, g2, g3⟩)
    exact m1.2.2.2 d hdP hdo (by show (-1 : Int) ≤ d.f0; omega) (by show d.f1 ≤ p; omega) ⟨by omega, by omega⟩
  rcases edge_cases H hc with ⟨rfl, c1, c2⟩ | ⟨hcP, hco, c1, c2, _⟩
  · rcases edge_cases H hd with ⟨rfl, d1, d2⟩ | ⟨hdP, hdo, d1, d2, _⟩
    · rfl
    · exact (key d hdP hdo (by omega) (by omega) hm).elim
  · rcases edge_cases H hd with ⟨rfl, d1, d2⟩ | ⟨hdP, hdo, d1, d2, _⟩
    · exact (key c hcP hco (by omega) (by omega) (fun x => (hm x).symm)).elim
    · cases c; cases d
      simp only [S47.mk.injEq] at *
      omega
theorem out_not : outC p ∉ P := fun h => by
  have := (H.ends _ h).1
  exact absurd this (by show ¬ ((0 : Int) ≤ -1); omega)
theorem regs_nodup : ((outC p :: P).map (regN p P)).Nodup := by
  have hn : (outC p :: P).Nodup := List.nodup_cons.2 ⟨out_not H, H.nd⟩
  unfold List.Nodup at *
  rw [List.pairwise_map]
  refine (List.pairwise_iff_forall_sublist.2 ?_)
  intro a b hab e
  have ha : a ∈ outC p :: P := hab.subset (by simp)
  have hb : b ∈ outC p :: P := hab.subset (by simp)
  have hne := List.pairwise_iff_forall_sublist.1 hn hab
  exact hne (regN_inj H (List.mem_cons.1 ha) (List.mem_cons.1 hb) e)
end
end Go.Proofs.Ytdeenfpcmaadcaa.M

/- What the functions on chords of the program and of the reference compute, in plain words: valid sets. -/
namespace Go.Proofs.Ytdeenfpcmaadcaa.M
open Go.RowKit Go.Proofs.YtdeenfpcmaadcaaW.PrintWords Go.Proofs.Ytdeenfpcmaadcaa.Pr
set_option linter.unusedVariables false
set_option linter.unusedSimpArgs false

theorem isChord_eq (p a b : Int) : impl_isChord.f p a b = some (okB p ⟨a, b⟩) := by
  unfold impl_isChord.f okB
  by_cases h : a ≥ 0
  · rw [if_pos h]
    by_cases h2 : a < b
    · rw [if_pos h2]; congr 1; rw [Bool.eq_iff_iff]; simp; omega
    · rw [if_neg h2]; congr 1; rw [Bool.eq_iff_iff]; simp; omega
  · rw [if_neg h]; congr 1; rw [Bool.eq_iff_iff]; simp; omega
theorem srIs_eq (p a b : Int) (hp : 3 ≤ p ∧ p ≤ 60) : spec_srIs.f p a b = some (okB p ⟨a, b⟩) := by
  unfold spec_srIs.f okB
  rw [w64 (by omega) (by omega), l1In_eq]
  simp only [Option.bind_some]
  by_cases h : inB a 0 (p - 1) = true
  · rw [if_pos h]
    have h' : 0 ≤ a ∧ a ≤ p - 1 := by simpa [inB] using h
    rw [w64 (by omega) (by omega), l1In_eq]
    simp only [Option.bind_some, inB]
    congr 1; rw [Bool.eq_iff_iff]; simp; omega
  · rw [if_neg h]
    have h' : ¬ (0 ≤ a ∧ a ≤ p - 1) := by simpa [inB] using h
    congr 1; rw [Bool.eq_iff_iff]; simp; omega
/-- A list of valid chords, each behind the one before. -/
def chain (p : Int) : Option Ch → List Ch → Bool
  | _, [] => true
  | prev, c :: r => okB p c && ((match prev with | none => true | some b => ltB b c) && chain p (some c) r)
def goodB (p : Int) (l : List Ch) : Bool := decide (3 ≤ p ∧ p ≤ 60) && (decide (l.length ≤ 40) && chain p none l)
/-- What stood before place i. -/
def before (l : List Ch) (i : Nat) (prev : Option Ch) : Prop := (i = 0 ∧ prev = none) ∨ ∃ h : i - 1 < l.length, 0 < i ∧ prev = some l[i - 1]
theorem before_next (l : List Ch) (i : Nat) (h : i < l.length) : before l (i + 1) (some l[i]) := .inr ⟨by simpa using h, by omega, by simp⟩

theorem areChords_ev (p : Int) (l : List Ch) (hl : l.length ≤ 9223372036854775807) : Ev (fun k => impl_AreChords.f k p l) (goodB p l) := by
  unfold impl_AreChords.f
  refine Ev.bindc (within_eq _ _ _) ?_
  by_cases hp : 3 ≤ p ∧ p ≤ 60
  · refine Ev.pos (by simpa [inB] using hp) ?_
    have e := Ev.scan0 (fun k i (_ : Option Ch) => impl_AreChords.l0 k p l l (l.length : Int) i) l (fun rest prev => chain p prev rest && decide (l.length ≤ 40)) (fun i prev => before l i prev)
      (fun prev _ => by
        refine Ev.step (fun k => by rw [impl_AreChords.l0]) ?_
        refine Ev.neg (by omega) (Ev.val ?_)
        rw [Bool.eq_iff_iff]
        simp only [chain, Bool.true_and, decide_eq_true_eq]
        omega)
      (fun i h prev hb => by
        have hr := rd_ch l i h
        by_cases hc : okB p l[i] = true
        · have hstep : ∀ r, (prev = none ∨ ∃ b, prev = some b ∧ ltB b l[i] = true) → Ev (fun k => impl_AreChords.l0 k p l l (l.length : Int) ((i : Int) + 1)) r → Ev (fun k => impl_AreChords.l0 k p l l (l.length : Int) (i : Int)) r := by
            intro r hpv hr2
            refine Ev.step (fun k => by rw [impl_AreChords.l0]) ?_
            refine Ev.pos (by omega) (Ev.pos (by omega) (Ev.pos (by omega) ?_))
            rw [hr]
            refine Ev.bindc (isChord_eq _ _ _) (Ev.pos hc ?_)
            rw [w64 (x := (i : Int) + 1) (by omega) (by omega)]
            rcases hb with ⟨hi0, hpn⟩ | ⟨h1, h0, hpn⟩
            · exact Ev.neg (by omega) hr2
            · have hx : wrap64 ((i : Int) - 1) = ((i - 1 : Nat) : Int) := by rw [w64 (by omega) (by omega)]; omega
              refine Ev.pos (by omega) ?_
              rw [hx, rd_ch l (i - 1) h1]
              refine Ev.pos (by omega) (Ev.pos (by omega) ?_)
              refine Ev.bindk (compareChords_ev _ _) ?_
              rcases hpv with hpv | ⟨b, hpv, hlt⟩
              · rw [hpv] at hpn; cases hpn
              · rw [hpv] at hpn
                obtain rfl := Option.some.inj hpn
                refine Ev.neg ?_ hr2
                rw [cmpC_ge, hlt]; simp
          cases prev with
          | none => exact .inl ⟨some l[i], before_next l i h, by simp [chain, hc], fun r hr2 => hstep r (.inl rfl) hr2⟩
          | some b =>
            by_cases hlt : ltB b l[i] = true
            · exact .inl ⟨some l[i], before_next l i h, by simp [chain, hc, hlt], fun r hr2 => hstep r (.inr ⟨b, rfl, hlt⟩) hr2⟩
            · refine .inr ?_
              rcases hb with ⟨hi0, hpn⟩ | ⟨h1, h0, hpn⟩
              · cases hpn
              · obtain rfl := Option.some.inj hpn
                refine Ev.step (fun k => by rw [impl_AreChords.l0]) ?_
                refine Ev.pos (by omega) (Ev.pos (by omega) (Ev.pos (by omega) ?_))
                rw [hr]
                have hx : wrap64 ((i : Int) - 1) = ((i - 1 : Nat) : Int) := by rw [w64 (by omega) (by omega)]; omega
                refine Ev.bindc (isChord_eq _ _ _) (Ev.pos hc (Ev.pos (by omega) ?_))
                rw [hx, rd_ch l (i - 1) h1]
                refine Ev.pos (by omega) (Ev.pos (by omega) (Ev.bindk (compareChords_ev _ _) (Ev.pos ?_ (Ev.val ?_))))
                · rw [cmpC_ge]; simpa using hlt
                · simp [chain, hlt]
        · refine .inr ?_
          refine Ev.step (fun k => by rw [impl_AreChords.l0]) ?_
          refine Ev.pos (by omega) (Ev.pos (by omega) (Ev.pos (by omega) ?_))
          rw [hr]
          refine Ev.bindc (isChord_eq _ _ _) (Ev.neg hc (Ev.val ?_))
          simp [chain, hc])
      none (.inl ⟨rfl, rfl⟩)
    have hg : goodB p l = (chain p none l && decide (l.length ≤ 40)) := by
      unfold goodB
      rw [Bool.and_comm (chain p none l)]
      simp [hp]
    rw [hg]
    exact e
  · refine Ev.neg (by simpa [inB] using hp) (Ev.val ?_)
    simp [goodB, hp]

theorem isSet_ev (p : Int) (l : List Ch) (hl : l.length ≤ 9223372036854775807) : Ev (fun k => impl_isSet.f k p l) (goodB p l) := by
  unfold impl_isSet.f impl_isCircle.f
  rw [within_eq]
  simp only [Option.bind_some]
  by_cases hp : 3 ≤ p ∧ p ≤ 60
  · refine Ev.pos (by simpa [inB] using hp) (Ev.bindk (areChords_ev p l hl) (Ev.now _))
  · refine Ev.neg (by simpa [inB] using hp) (Ev.val ?_)
    simp [goodB, hp]

theorem cdGood_ev (p : Int) (l : List Ch) (hl : l.length ≤ 9223372036854775807) : Ev (fun k => spec_cdGood.f k p l) (goodB p l) := by
  unfold spec_cdGood.f spec_srPoints.f
  rw [l1In_eq]
  simp only [Option.bind_some]
  by_cases hp : 3 ≤ p ∧ p ≤ 60
  · refine Ev.pos (by simpa [inB] using hp) ?_
    refine Ev.step (fun k => by rw [spec_cdGood.j0]) ?_
    by_cases h40 : l.length ≤ 40
    · refine Ev.neg (by simp; omega) ?_
      have e := Ev.scan0 (fun k i (_ : Option Ch) => spec_cdGood.l0 k p l l (l.length : Int) i) l (fun rest prev => chain p prev rest) (fun i prev => before l i prev)
        (fun prev _ => by
          refine Ev.step (fun k => by rw [spec_cdGood.l0]) ?_
          exact Ev.neg (by omega) (Ev.val (by simp [chain])))
        (fun i h prev hb => by
          have hr := rd_ch l i h
          by_cases hc : okB p l[i] = true
          · have hstep : ∀ r, (prev = none ∨ ∃ b, prev = some b ∧ ltB b l[i] = true) → Ev (fun k => spec_cdGood.l0 k p l l (l.length : Int) ((i : Int) + 1)) r → Ev (fun k => spec_cdGood.l0 k p l l (l.length : Int) (i : Int)) r := by
              intro r hpv hr2
              refine Ev.step (fun k => by rw [spec_cdGood.l0]) ?_
              refine Ev.pos (by omega) (Ev.pos (by omega) (Ev.pos (by omega) ?_))
              rw [hr]
              refine Ev.bindc (srIs_eq _ _ _ hp) (Ev.pos hc ?_)
              rw [w64 (x := (i : Int) + 1) (by omega) (by omega)]
              rcases hb with ⟨hi0, hpn⟩ | ⟨h1, h0, hpn⟩
              · exact Ev.neg (by omega) hr2
              · have hx : wrap64 ((i : Int) - 1) = ((i - 1 : Nat) : Int) := by rw [w64 (by omega) (by omega)]; omega
                refine Ev.pos (by omega) ?_
                rw [hx, rd_ch l (i - 1) h1]
                refine Ev.pos (by omega) (Ev.pos (by omega) ?_)
                refine Ev.bindc (srLess_eq _ _ _ _) ?_
                rcases hpv with hpv | ⟨b, hpv, hlt⟩
                · rw [hpv] at hpn; cases hpn
                · rw [hpv] at hpn
                  obtain rfl := Option.some.inj hpn
                  exact Ev.pos hlt hr2
            cases prev with
            | none => exact .inl ⟨some l[i], before_next l i h, by simp [chain, hc], fun r hr2 => hstep r (.inl rfl) hr2⟩
            | some b =>
              by_cases hlt : ltB b l[i] = true
              · exact .inl ⟨some l[i], before_next l i h, by simp [chain, hc, hlt], fun r hr2 => hstep r (.inr ⟨b, rfl, hlt⟩) hr2⟩
              · refine .inr ?_
                rcases hb with ⟨hi0, hpn⟩ | ⟨h1, h0, hpn⟩
                · cases hpn
                · obtain rfl := Option.some.inj hpn
                  refine Ev.step (fun k => by rw [spec_cdGood.l0]) ?_
                  refine Ev.pos (by omega) (Ev.pos (by omega) (Ev.pos (by omega) ?_))
                  rw [hr]
                  have hx : wrap64 ((i : Int) - 1) = ((i - 1 : Nat) : Int) := by rw [w64 (by omega) (by omega)]; omega
                  refine Ev.bindc (srIs_eq _ _ _ hp) (Ev.pos hc (Ev.pos (by omega) ?_))
                  rw [hx, rd_ch l (i - 1) h1]
                  refine Ev.pos (by omega) (Ev.pos (by omega) (Ev.bindc (srLess_eq _ _ _ _) (Ev.neg hlt (Ev.val ?_))))
                  simp [chain, hlt]
          · refine .inr ?_
            refine Ev.step (fun k => by rw [spec_cdGood.l0]) ?_
            refine Ev.pos (by omega) (Ev.pos (by omega) (Ev.pos (by omega) ?_))
            rw [hr]
            refine Ev.bindc (srIs_eq _ _ _ hp) (Ev.neg hc (Ev.val ?_))
            simp [chain, hc])
        none (.inl ⟨rfl, rfl⟩)
      have hg : goodB p l = chain p none l := by
        unfold goodB
        simp [hp, h40]
      rw [hg]
      exact e
    · refine Ev.pos (by simp; omega) (Ev.val ?_)
      simp [goodB, h40]
  · refine Ev.neg (by simpa [inB] using hp) ?_
    refine Ev.step (fun k => by rw [spec_cdGood.j0]) (Ev.pos rfl (Ev.val ?_))
    simp [goodB, hp]

/-- The chords of a valid set are valid. -/
theorem chain_ok (p : Int) : ∀ (l : List Ch) (prev : Option Ch), chain p prev l = true → ∀ c ∈ l, okB p c = true
  | [], _, _, _, h => by cases h
  | d :: r, prev, h, c, hc => by
    unfold chain at h
    simp only [Bool.and_eq_true] at h
    rcases List.mem_cons.1 hc with rfl | hc
    · exact h.1
    · exact chain_ok p r (some d) h.2.2 c hc
theorem good_ok {p : Int} {l : List Ch} (h : goodB p l = true) : (3 ≤ p ∧ p ≤ 60) ∧ l.length ≤ 40 ∧ ∀ c ∈ l, 0 ≤ c.f0 ∧ c.f0 < c.f1 ∧ c.f1 < p := by
  unfold goodB at h
  simp only [Bool.and_eq_true, decide_eq_true_eq] at h
  exact ⟨h.1, h.2.1, fun c hc => by simpa [okB] using chain_ok p l none h.2.2 c hc⟩
end Go.Proofs.Ytdeenfpcmaadcaa.M

/- How many chords cross. -/
namespace Go.Proofs.Ytdeenfpcmaadcaa.M
open Go.RowKit Go.Proofs.YtdeenfpcmaadcaaW.PrintWords Go.Proofs.Ytdeenfpcmaadcaa.Pr
set_option linter.unusedVariables false
set_option linter.unusedSimpArgs false

theorem Ev.cps {α β γ : Type} (L : Nat → Int → β → Option γ) (K : Nat → β → Option γ) (xs : List α) (F : List α → β → β) (P : Nat → β → Prop)
    (h0 : ∀ acc r, P xs.length acc → Ev (fun k => K k (F [] acc)) r → Ev (fun k => L k (xs.length : Int) acc) r)
    (h1 : ∀ (i : Nat) (h : i < xs.length) (acc : β), P i acc → ∃ acc', P (i + 1) acc' ∧ F (xs[i] :: xs.drop (i + 1)) acc = F (xs.drop (i + 1)) acc' ∧ ∀ r, Ev (fun k => L k ((i : Int) + 1) acc') r → Ev (fun k => L k (i : Int) acc) r) :
    ∀ (d i : Nat) (acc : β) (r : γ), i + d = xs.length → P i acc → Ev (fun k => K k (F (xs.drop i) acc)) r → Ev (fun k => L k (i : Int) acc) r := by
  intro d
  induction d with
  | zero =>
    intro i acc r hi hp hr
    obtain rfl : i = xs.length := by omega
    rw [List.drop_length] at hr
    exact h0 acc r hp hr
  | succ d ih =>
    intro i acc r hi hp hr
    have hlt : i < xs.length := by omega
    rw [List.drop_eq_getElem_cons hlt] at hr
    obtain ⟨acc', hp', hF, hk⟩ := h1 i hlt acc hp
    rw [hF] at hr
    refine hk r ?_
    have e := ih (i + 1) acc' r (by omega) hp' hr
    rw [show (((i + 1 : Nat)) : Int) = (i : Int) + 1 from by omega] at e
    exact e

def cnt (c : Ch) (l : List Ch) : Nat := l.countP (crB c)
theorem cnt_pos {c d : Ch} (r : List Ch) (h : crB c d = true) : cnt c (d :: r) = cnt c r + 1 := by
  unfold cnt
  rw [List.countP_cons, if_pos h]
theorem cnt_neg {c d : Ch} (r : List Ch) (h : ¬ crB c d = true) : cnt c (d :: r) = cnt c r := by
  unfold cnt
  rw [List.countP_cons, if_neg h]
  rfl
theorem cnt_le (c : Ch) (l : List Ch) : cnt c l ≤ l.length := List.countP_le_length

theorem crossed_ev (l : List Ch) (c : Ch) (hl : l.length ≤ 4611686018427387904) : Ev (fun k => impl_crossed.f k l c.f0 c.f1) (cnt c l : Int) := by
  unfold impl_crossed.f
  have e := Ev.scan0 (fun k i (acc : Int) => impl_crossed.l0 k acc l (l.length : Int) i c.f0 c.f1) l (fun rest acc => acc + (cnt c rest : Int)) (fun i acc => 0 ≤ acc ∧ acc ≤ i)
    (fun acc hp => by
      refine Ev.step (fun k => by rw [impl_crossed.l0]) ?_
      exact Ev.neg (by omega) (Ev.val (by simp [cnt])))
    (fun i h acc hp => by
      have hr := rd_ch l i h
      by_cases hc : crB c l[i] = true
      · refine .inl ⟨acc + 1, ⟨by omega, by omega⟩, by rw [cnt_pos _ hc]; omega, fun r hr2 => ?_⟩
        refine Ev.step (fun k => by rw [impl_crossed.l0]) ?_
        refine Ev.pos (by omega) (Ev.pos (by omega) (Ev.pos (by omega) ?_))
        rw [hr]
        refine Ev.bindc (crossing_eq _ _) (Ev.pos hc ?_)
        rw [w64 (x := (i : Int) + 1) (by omega) (by omega), w64 (x := acc + 1) (by omega) (by omega)]
        exact hr2
      · refine .inl ⟨acc, ⟨by omega, by omega⟩, by rw [cnt_neg _ hc], fun r hr2 => ?_⟩
        refine Ev.step (fun k => by rw [impl_crossed.l0]) ?_
        refine Ev.pos (by omega) (Ev.pos (by omega) (Ev.pos (by omega) ?_))
        rw [hr]
        refine Ev.bindc (crossing_eq _ _) (Ev.neg hc ?_)
        rw [w64 (x := (i : Int) + 1) (by omega) (by omega)]
        exact hr2)
    0 ⟨by omega, by omega⟩
  simpa using e

/-- Pairs of chords that cross, each chord with those behind it. -/
def pairsN : List Ch → Nat
  | [] => 0
  | c :: r => cnt c r + pairsN r
/-- The same, each chord with those ahead of it. -/
def aheadN : List Ch → List Ch → Nat
  | _, [] => 0
  | pre, c :: r => cnt c pre + aheadN (pre ++ [c]) r
def withN (pre : List Ch) (l : List Ch) : Nat := (l.map fun c => cnt c pre).sum
theorem withN_cons (pre : List Ch) (c : Ch) : ∀ l : List Ch, withN (pre ++ [c]) l = withN pre l + cnt c l
  | [] => by simp [withN, cnt]
  | d :: r => by
    have ih := withN_cons pre c r
    unfold withN at *
    simp only [List.map_cons, List.sum_cons, ih]
    unfold cnt
    rw [List.countP_append, List.countP_cons]
    simp only [List.countP_cons, List.countP_nil, crB_comm c d]
    omega
theorem aheadN_eq : ∀ (l pre : List Ch), aheadN pre l = withN pre l + pairsN l
  | [], pre => by simp [aheadN, withN, pairsN]
  | c :: r, pre => by
    rw [aheadN, aheadN_eq r, withN_cons, pairsN]
    simp only [withN, List.map_cons, List.sum_cons]
    omega
theorem pairs_ahead (l : List Ch) : aheadN [] l = pairsN l := by
  rw [aheadN_eq]
  have : withN [] l = 0 := by
    unfold withN
    induction l with
    | nil => rfl
    | cons c r ih => rw [List.map_cons, List.sum_cons, ih]; rfl
  omega
theorem pairsN_le : ∀ l : List Ch, pairsN l ≤ l.length * l.length
  | [] => by simp [pairsN]
  | c :: r => by
    have h1 := pairsN_le r
    have h2 := cnt_le c r
    simp only [pairsN, List.length_cons]
    have : (r.length + 1) * (r.length + 1) = r.length * r.length + 2 * r.length + 1 := by
      rw [Nat.add_mul, Nat.mul_add]; omega
    omega

theorem crossings_evB (l : List Ch) (hl : l.length ≤ 1000) : Ev (fun k => impl_crossings.f k l) (pairsN l : Int) := by
  unfold impl_crossings.f
  have e := Ev.scan0 (fun k i (acc : Int × List Ch) => impl_crossings.l0 k l acc.1 l (l.length : Int) i) l (fun rest acc => acc.1 + (aheadN acc.2 rest : Int)) (fun i acc => acc.2 = l.take i ∧ 0 ≤ acc.1 ∧ acc.1 ≤ i * 1000)
    (fun acc hp => by
      refine Ev.step (fun k => by rw [impl_crossings.l0]) ?_
      exact Ev.neg (by omega) (Ev.val (by simp [aheadN])))
    (fun i h acc hp => by
      obtain ⟨hp1, hp2, hp3⟩ := hp
      have hr := rd_ch l i h
      have hcn := cnt_le l[i] (l.take i)
      have htl : (l.take i).length = i := by rw [List.length_take]; omega
      refine .inl ⟨(acc.1 + cnt l[i] (l.take i), l.take (i + 1)), ⟨rfl, by omega, by simp only; omega⟩, ?_, fun r hr2 => ?_⟩
      · rw [hp1, aheadN, List.take_succ_eq_append_getElem h]
        simp only
        omega
      · refine Ev.step (fun k => by rw [impl_crossings.l0]) ?_
        refine Ev.pos (by omega) (Ev.pos (by omega) (Ev.pos (by omega) (Ev.pos (by omega) ?_)))
        rw [hr, Int.toNat_natCast]
        refine Ev.bindk (crossed_ev (l.take i) l[i] (by omega)) ?_
        rw [w64 (x := (i : Int) + 1) (by omega) (by omega), w64 (x := acc.1 + (cnt l[i] (l.take i) : Int)) (by omega) (by omega)]
        exact hr2)
    (0, []) ⟨by simp, by omega, by simp⟩
  simp only [pairs_ahead, Int.zero_add] at e
  exact e

theorem crossings_ev (l : List Ch) (hl : l.length ≤ 40) : Ev (fun k => impl_crossings.f k l) (pairsN l : Int) := crossings_evB l (by omega)
end Go.Proofs.Ytdeenfpcmaadcaa.M

/- All regions of a plane set: the program's row and the reference's. -/
namespace Go.Proofs.Ytdeenfpcmaadcaa.M
open Go.RowKit Go.Proofs.YtdeenfpcmaadcaaW.PrintWords Go.Proofs.Ytdeenfpcmaadcaa.Pr
set_option linter.unusedVariables false
set_option linter.unusedSimpArgs false
theorem chain_lt (p : Int) : ∀ (l : List Ch) (b : Ch), chain p (some b) l = true → ∀ c ∈ l, ltB b c = true
  | [], _, _, _, h => by cases h
  | d :: r, b, h, c, hc => by
    unfold chain at h
    simp only [Bool.and_eq_true] at h
    rcases List.mem_cons.1 hc with rfl | hc
    · exact h.2.1
    · have h2 := chain_lt p r d h.2.2 c hc
      have h1 := h.2.1
      unfold ltB at *
      rw [decide_eq_true_iff] at *
      omega
theorem chain_nodup (p : Int) : ∀ (l : List Ch) (prev : Option Ch), chain p prev l = true → l.Nodup
  | [], _, _ => List.nodup_nil
  | d :: r, prev, h => by
    unfold chain at h
    simp only [Bool.and_eq_true] at h
    refine List.nodup_cons.2 ⟨fun q => ?_, chain_nodup p r (some d) h.2.2⟩
    have := chain_lt p r d h.2.2 d q
    unfold ltB at this
    rw [decide_eq_true_iff] at this
    omega
theorem crB_self (c : Ch) : crB c c = false := by
  unfold crB
  rw [decide_eq_false_iff_not]
  omega
theorem pairs_zero : ∀ l : List Ch, pairsN l = 0 → ∀ c ∈ l, ∀ d ∈ l, crB c d = false
  | [], _, c, hc, _, _ => by cases hc
  | x :: r, h, c, hc, d, hd => by
    rw [pairsN] at h
    have h1 : cnt x r = 0 := by omega
    have h2 : pairsN r = 0 := by omega
    have hx : ∀ y ∈ r, crB x y = false := fun y hy => by
      unfold cnt at h1
      have := List.countP_eq_zero.1 h1 y hy
      simpa using this
    rcases List.mem_cons.1 hc with rfl | hc2
    · rcases List.mem_cons.1 hd with rfl | hd2
      · exact crB_self _
      · exact hx d hd2
    · rcases List.mem_cons.1 hd with rfl | hd2
      · rw [crB_comm]; exact hx c hc2
      · exact pairs_zero r h2 c hc2 d hd2
theorem planeP_of {p : Int} {l : List Ch} (hg : goodB p l = true) (hc : pairsN l = 0) : PlaneP p l := by
  obtain ⟨hp, h40, hv⟩ := good_ok hg
  refine ⟨⟨fun c hcm => (hv c hcm).2.1, pairs_zero l hc⟩, ?_, hp.1, fun d hd => ⟨(hv d hd).1, (hv d hd).2.2⟩⟩
  unfold goodB at hg
  simp only [Bool.and_eq_true, decide_eq_true_eq] at hg
  exact chain_nodup p l none hg.2.2
def regS (p : Int) (P : List Ch) (c : Ch) : SR := ⟨ptsW p P c, chsW p P c, arcsW p P c⟩
def rgsS (p : Int) (P : List Ch) : List SR := sortR ((outC p :: P).map (regS p P))
theorem sortR_perm (xs : List SR) : (sortR xs).Perm xs := List.mergeSort_perm _ _
theorem sortR_sorted (xs : List SR) : LS ((sortR xs).map (·.f0)) := by
  have h := List.pairwise_mergeSort (le := fun x y : SR => !(lexB y.f0 x.f0))
    (fun a b c h1 h2 => by
      rw [Bool.not_eq_true'] at *
      exact lexB_ge_trans h1 h2)
    (fun a b => by
      cases e : lexB b.f0 a.f0 with
      | false => rfl
      | true =>
        cases e2 : lexB a.f0 b.f0 with
        | false => rfl
        | true =>
          have := lexB_trans _ _ _ e e2
          rw [lexB_irrefl] at this
          cases this) xs
  unfold LS sortR
  rw [List.pairwise_map]
  exact h.imp (fun h => by rwa [Bool.not_eq_true'] at h)
section
variable {p : Int} {P : List Ch} (H : PlaneP p P)
include H
theorem map_pts : ((outC p :: P).map (regS p P)).map (·.f0) = (outC p :: P).map (regN p P) := by
  rw [List.map_map]
  exact List.map_congr_left (fun c hc => ptsW_eq H (List.mem_cons.1 hc))
/-- The reference's rows are the points of the program's regions. -/
theorem ref_eq : (foldR P [ptsTo p]).foldl (insB lexB) [] = (rgsS p P).map (·.f0) := by
  obtain ⟨h1, h2⟩ := ref_perm H
  refine ls_uniq _ _ (h1.trans ?_) h2 (sortR_sorted _)
  have e := (sortR_perm ((outC p :: P).map (regS p P))).map (·.f0)
  rw [map_pts H] at e
  exact e.symm
theorem allR_ev (hp : p ≤ 1000) (hl : P.length ≤ 1000) : ∀ cs : List Ch, (∀ c ∈ cs, c ∈ P) → Ev (fun k => allR k P cs) (cs.map (regS p P))
  | [], _ => Ev.val rfl
  | c :: cs, h => by
    have e := allR_ev hp hl cs (fun d hd => h d (List.mem_cons_of_mem _ hd))
    show Ev (fun k => (impl_regionInside.f k P c.f0 c.f1 true).bind fun q => (allR k P cs).bind fun rs => some (mkR q :: rs)) _
    exact Ev.bindk (inside_ev H (h c List.mem_cons_self) hp hl) (Ev.bindk e (Ev.val rfl))
end
theorem pts_le (p : Int) (P : List Ch) (c : Ch) : (regN p P c).length ≤ p.toNat := by
  unfold regN
  refine Nat.le_trans (List.length_filter_le _ _) ?_
  simp [ptsTo]
/-- What planeRegions computes. -/
def planeB (p : Int) (l : List Ch) : List SR × Bool := if goodB p l = true ∧ pairsN l = 0 then (rgsS p l, true) else ([], false)
theorem planeRegions_ev (p : Int) (l : List Ch) (hl : l.length ≤ 9223372036854775807) : Ev (fun k => impl_planeRegions.f k p l) (planeB p l) := by
  unfold impl_planeRegions.f
  refine Ev.bindk (isSet_ev p l hl) ?_
  by_cases hg : goodB p l = true
  · obtain ⟨hp, h40, hv⟩ := good_ok hg
    refine Ev.pos hg (Ev.bindk (crossings_ev l h40) ?_)
    by_cases hc : pairsN l = 0
    · have H := planeP_of hg hc
      refine Ev.neg (by omega) (Ev.pos ⟨by omega, by omega, by omega⟩ (Ev.bindk (outer_ev H (by omega) (by omega)) (Ev.bindk (allR_ev H (by omega) (by omega) l (fun _ h => h)) ?_)))
      have e : (mkR (ptsW p l (outC p), chsW p l (outC p), arcsW p l (outC p)) :: l.map (regS p l)) = (outC p :: l).map (regS p l) := rfl
      rw [e]
      refine Ev.pos ⟨?_, fun x hx => ?_⟩ (Ev.val ?_)
      · rw [map_pts H]; exact regs_nodup H
      · obtain ⟨c, hc, rfl⟩ := List.mem_map.1 hx
        show (ptsW p l c).length ≤ 1000000
        rw [ptsW_eq H (List.mem_cons.1 hc)]
        have := pts_le p l c
        omega
      · rw [planeB, if_pos ⟨hg, hc⟩]; rfl
    · refine Ev.pos (by omega) (Ev.val ?_)
      rw [planeB, if_neg (fun h => hc h.2)]
  · refine Ev.neg hg (Ev.val ?_)
    rw [planeB, if_neg (fun h => hg h.1)]
theorem reList_ev (p : Int) (l : List Ch) (hg : goodB p l = true) (hc : pairsN l = 0) : spec_reList.f p l = some ((rgsS p l).map (·.f0)) := by
  obtain ⟨hp, h40, hv⟩ := good_ok hg
  unfold spec_reList.f
  rw [if_pos ⟨⟨by omega, by omega⟩, by omega⟩, ref_eq (planeP_of hg hc)]
end Go.Proofs.Ytdeenfpcmaadcaa.M

/- How many chords cross: the program's counts and the reference's pairs are one number. -/
namespace Go.Proofs.Ytdeenfpcmaadcaa.M
open Go.RowKit Go.Proofs.YtdeenfpcmaadcaaW.PrintWords Go.Proofs.Ytdeenfpcmaadcaa.Pr
set_option linter.unusedVariables false
set_option linter.unusedSimpArgs false

/-- The rows of pairs that the reference lists. -/
def rowOf (i : Int) (c : Ch) : Int → List Ch → List (List Int)
  | _, [] => []
  | j, d :: r => if crB c d = true then [i, j] :: rowOf i c (j + 1) r else rowOf i c (j + 1) r
def pairsOf : Int → List Ch → List (List Int)
  | _, [] => []
  | i, c :: r => rowOf i c (i + 1) r ++ pairsOf (i + 1) r
theorem rowOf_length (i : Int) (c : Ch) : ∀ (l : List Ch) (j : Int), (rowOf i c j l).length = cnt c l
  | [], j => by simp [rowOf, cnt]
  | d :: r, j => by
    have ih := rowOf_length i c r (j + 1)
    unfold cnt at *
    rw [rowOf, List.countP_cons]
    split
    · rename_i h
      simp [ih, h]
    · rename_i h
      simp [ih, h]
theorem pairsOf_length : ∀ (l : List Ch) (i : Int), (pairsOf i l).length = pairsN l
  | [], i => by simp [pairsOf, pairsN]
  | c :: r, i => by
    rw [pairsOf, pairsN, List.length_append, rowOf_length, pairsOf_length r]

theorem cdPairs_ev (l : List Ch) (hl : l.length ≤ 40) (hv : ∀ c ∈ l, c.f0 < c.f1) : Ev (fun k => spec_cdPairs.f k l) (pairsOf 0 l) := by
  unfold spec_cdPairs.f
  have inner : ∀ (i : Nat) (hi : i < l.length) (r : List (List Int)) (acc : List (List Int)), acc.length ≤ i * 40 → Ev (fun k => spec_cdPairs.l0 k l (acc ++ rowOf i l[i] (i + 1) (l.drop (i + 1))) l (l.length : Int) ((i : Int) + 1)) r →
      Ev (fun k => spec_cdPairs.l1 k l acc (i : Int) ((i : Int) + 1) l (l.length : Int) (i : Int) l[i].f0 l[i].f1) r := by
    intro i hi r acc hacc hr
    have e := Ev.cps (fun k j (a : List (List Int)) => spec_cdPairs.l1 k l a (i : Int) j l (l.length : Int) (i : Int) l[i].f0 l[i].f1)
      (fun k a => spec_cdPairs.l0 k l a l (l.length : Int) ((i : Int) + 1)) l
      (fun rest a => a ++ rowOf i l[i] ((l.length : Int) - rest.length) rest) (fun j a => i + 1 ≤ j ∧ a.length ≤ i * 40 + j)
      (fun a r _ hr => by
        refine Ev.step (fun k => by rw [spec_cdPairs.l1]) ?_
        refine Ev.neg (by omega) ?_
        rw [w64 (x := (i : Int) + 1) (by omega) (by omega)]
        simpa [rowOf] using hr)
      (fun j hj a hp => by
        obtain ⟨hp1, hp2⟩ := hp
        have hrd := rd_ch l j hj
        have hlen : ((l.drop (j + 1)).length : Int) = l.length - (j + 1) := by rw [List.length_drop]; omega
        have hx : ∀ q : Nat, q = (l.drop (j + 1)).length + 1 → (l.length : Int) - (q : Int) = (j : Int) := by intro q hq; omega
        have hcv := hv l[i] (List.getElem_mem hi)
        have hdv := hv l[j] (List.getElem_mem hj)
        by_cases hc : crB l[i] l[j] = true
        · refine ⟨a ++ [[(i : Int), (j : Int)]], ⟨by omega, by simp; omega⟩, ?_, fun r hr2 => ?_⟩
          · rw [List.length_cons, rowOf, if_pos hc, hx _ rfl, show (l.length : Int) - ((l.drop (j + 1)).length : Int) = (j : Int) + 1 by omega]
            simp
          · refine Ev.step (fun k => by rw [spec_cdPairs.l1]) ?_
            refine Ev.pos (by omega) (Ev.pos (by omega) ?_)
            rw [hrd]
            refine Ev.bindc (srCross_eq _ _ hcv hdv) (Ev.pos hc (Ev.pos ?_ ?_))
            · have : i * 40 ≤ 1600 := by omega
              omega
            · rw [w64 (x := (j : Int) + 1) (by omega) (by omega)]
              exact hr2
        · refine ⟨a, ⟨by omega, by omega⟩, ?_, fun r hr2 => ?_⟩
          · rw [List.length_cons, rowOf, if_neg hc, hx _ rfl, show (l.length : Int) - ((l.drop (j + 1)).length : Int) = (j : Int) + 1 by omega]
          · refine Ev.step (fun k => by rw [spec_cdPairs.l1]) ?_
            refine Ev.pos (by omega) (Ev.pos (by omega) ?_)
            rw [hrd]
            refine Ev.bindc (srCross_eq _ _ hcv hdv) (Ev.neg hc ?_)
            rw [w64 (x := (j : Int) + 1) (by omega) (by omega)]
            exact hr2)
      (l.length - (i + 1)) (i + 1) acc r (by omega) ⟨by omega, by omega⟩ (by
        have : (l.length : Int) - ((l.drop (i + 1)).length : Int) = (i : Int) + 1 := by rw [List.length_drop]; omega
        rw [this]
        exact hr)
    rw [show (((i + 1 : Nat)) : Int) = (i : Int) + 1 from by omega] at e
    exact e
  have e := Ev.scan0 (fun k i (acc : List (List Int)) => spec_cdPairs.l0 k l acc l (l.length : Int) i) l (fun rest acc => acc ++ pairsOf ((l.length : Int) - rest.length) rest) (fun i acc => acc.length ≤ i * 40)
    (fun acc hp => by
      refine Ev.step (fun k => by rw [spec_cdPairs.l0]) ?_
      exact Ev.neg (by omega) (Ev.val (by simp [pairsOf])))
    (fun i h acc hp => by
      have hr := rd_ch l i h
      have hcl := cnt_le l[i] (l.drop (i + 1))
      have hdl : (l.drop (i + 1)).length = l.length - (i + 1) := List.length_drop
      have hx : ∀ q : Nat, q = (l.drop (i + 1)).length + 1 → (l.length : Int) - (q : Int) = (i : Int) := by intro q hq; omega
      refine .inl ⟨acc ++ rowOf i l[i] (i + 1) (l.drop (i + 1)), ?_, ?_, fun r hr2 => ?_⟩
      · rw [List.length_append, rowOf_length]; omega
      · rw [List.length_cons, pairsOf, hx _ rfl, show (l.length : Int) - ((l.drop (i + 1)).length : Int) = (i : Int) + 1 by omega, List.append_assoc]
      · refine Ev.step (fun k => by rw [spec_cdPairs.l0]) ?_
        refine Ev.pos (by omega) (Ev.pos (by omega) (Ev.pos (by omega) ?_))
        rw [hr, w64 (x := (i : Int) + 1) (by omega) (by omega)]
        exact inner i h r acc hp hr2)
    [] (by simp)
  simpa using e
end Go.Proofs.Ytdeenfpcmaadcaa.M

/- Plane sets as the reference tells them; the regions' rows, how many and how long. -/
namespace Go.Proofs.Ytdeenfpcmaadcaa.M
open Go.RowKit Go.Proofs.YtdeenfpcmaadcaaW.PrintWords Go.Proofs.Ytdeenfpcmaadcaa.Pr
set_option linter.unusedVariables false
set_option linter.unusedSimpArgs false
theorem rgs_len (p : Int) (l : List Ch) : (rgsS p l).length = l.length + 1 := by
  unfold rgsS
  rw [(sortR_perm _).length_eq, List.length_map, List.length_cons]
theorem rePlane_ev (p : Int) (l : List Ch) (hl : l.length ≤ 9223372036854775807) : Ev (fun k => spec_rePlane.f k p l) (decide (goodB p l = true ∧ pairsN l = 0)) := by
  unfold spec_rePlane.f
  refine Ev.bindk (cdGood_ev p l hl) ?_
  by_cases hg : goodB p l = true
  · obtain ⟨hp, h40, hv⟩ := good_ok hg
    refine Ev.pos hg (Ev.bindk (cdPairs_ev l h40 (fun c hc => (hv c hc).2.1)) (Ev.val ?_))
    rw [pairsOf_length, Bool.eq_iff_iff, beq_iff_eq, decide_eq_true_iff]
    simp only [hg, true_and]
    congr 1
    simp
  · exact Ev.neg hg (Ev.val (by simp [hg]))
/-- The rows of all regions, in order. -/
def rowsS (p : Int) (l : List Ch) : List (List Int) := (rgsS p l).map (·.f0)
theorem rows_len (p : Int) (l : List Ch) : (rowsS p l).length = l.length + 1 := by unfold rowsS; rw [List.length_map, rgs_len]
theorem mem_rgs {p : Int} {l : List Ch} {x : SR} : x ∈ rgsS p l ↔ ∃ c, (c = outC p ∨ c ∈ l) ∧ x = regS p l c := by
  unfold rgsS
  rw [(sortR_perm _).mem_iff, List.mem_map]
  constructor
  · rintro ⟨c, hc, rfl⟩; exact ⟨c, List.mem_cons.1 hc, rfl⟩
  · rintro ⟨c, hc, rfl⟩; exact ⟨c, List.mem_cons.2 hc, rfl⟩
theorem row_le {p : Int} {l : List Ch} (H : PlaneP p l) {r : List Int} (hr : r ∈ rowsS p l) : r.length ≤ p.toNat := by
  obtain ⟨x, hx, rfl⟩ := List.mem_map.1 hr
  obtain ⟨c, hc, rfl⟩ := mem_rgs.1 hx
  show (ptsW p l c).length ≤ p.toNat
  rw [ptsW_eq H hc]
  exact pts_le p l c
theorem sum_le (n : Nat) : ∀ rs : List (List Int), (∀ r ∈ rs, r.length ≤ n) → (rs.map List.length).sum ≤ rs.length * n
  | [], _ => by simp
  | r :: rs, h => by
    have h1 := h r (by simp)
    have h2 := sum_le n rs (fun q hq => h q (by simp [hq]))
    rw [List.map_cons, List.sum_cons, List.length_cons, Nat.add_mul]
    omega
theorem perm_map_inv {α β : Type} (f : α → β) {xs ys : List β} (h : xs.Perm ys) : ∀ l : List α, ys = l.map f → ∃ l' : List α, l'.Perm l ∧ xs = l'.map f := by
  induction h with
  | nil => intro l e; exact ⟨[], by rw [List.map_eq_nil_iff.1 e.symm], rfl⟩
  | cons x h ih =>
    intro l e
    obtain ⟨a, l0, rfl, rfl, e2⟩ := List.map_eq_cons_iff.1 e.symm
    obtain ⟨l', h1, h2⟩ := ih l0 e2.symm
    exact ⟨a :: l', h1.cons a, by rw [h2]; rfl⟩
  | swap x y l0 =>
    intro l e
    obtain ⟨a, l1, rfl, rfl, e2⟩ := List.map_eq_cons_iff.1 e.symm
    obtain ⟨b, l2, rfl, rfl, e3⟩ := List.map_eq_cons_iff.1 e2
    exact ⟨b :: a :: l2, List.Perm.swap .., by rw [← e3]; rfl⟩
  | trans h1 h2 ih1 ih2 =>
    intro l e
    obtain ⟨l2, q1, q2⟩ := ih2 l e
    obtain ⟨l1, q3, q4⟩ := ih1 l2 q2
    exact ⟨l1, q3.trans q1, q4⟩
/-- The regions in order are those of the chords in some order. -/
theorem rgs_chords (p : Int) (l : List Ch) : ∃ cs : List Ch, cs.Perm (outC p :: l) ∧ rgsS p l = cs.map (regS p l) := by
  unfold rgsS
  exact perm_map_inv _ (sortR_perm _) _ rfl
end Go.Proofs.Ytdeenfpcmaadcaa.M

/- The region at an arc: the first that the reference takes is the first with that arc. -/
namespace Go.Proofs.Ytdeenfpcmaadcaa.M
open Go.RowKit Go.Proofs.YtdeenfpcmaadcaaW.PrintWords Go.Proofs.Ytdeenfpcmaadcaa.Pr
set_option linter.unusedVariables false
set_option linter.unusedSimpArgs false
theorem chordOf (a b : Int) : spec_srChord.f a b = some (min a b, max a b) := by
  have h1 : spec_l1Least.f a b = some (min a b) := by unfold spec_l1Least.f; split <;> (congr 1; omega)
  have h2 : spec_l1Most.f a b = some (max a b) := by unfold spec_l1Most.f; split <;> (congr 1; omega)
  unfold spec_srChord.f
  rw [h1, h2]
  rfl
theorem rd_ra (l : List (List Int)) (i : Nat) (h : i < l.length) : rd_L4 l (i : Int) = l[i] := by
  unfold rd_L4
  simp [List.getD_eq_getElem?_getD, List.getElem?_eq_getElem h]
def plusI (j : Nat) (x : Int) : Int := if x < 0 then -1 else (j : Int) + x
theorem plus_cons (j : Nat) (q : List Int → Bool) (r : List Int) (rs : List (List Int)) : plusI j (idxP q (r :: rs)) = if q r = true then (j : Int) else plusI (j + 1) (idxP q rs) := by
  have hg := idxP_ge q rs
  unfold plusI
  rw [idxP]
  by_cases h : q r = true
  · rw [if_pos h, if_pos h]; simp
  · rw [if_neg h, if_neg h]
    by_cases h2 : idxP q rs < 0
    · rw [if_pos h2, if_pos h2, if_pos (by omega)]
    · rw [if_neg h2, if_neg h2, if_neg (by omega)]; omega
theorem arc_l1 (p i : Int) (l : List Ch) (rs : List (List Int)) (hl : l.length ≤ 1000) (hrs : rs.length ≤ 1000) (j : Nat) (hj : j < rs.length) (F : Int) (hF : Ev (fun k => spec_reArc.l0 k l i (Int.emod (i + 1) p) rs (rs.length : Int) ((j : Int) + 1)) F) :
    Ev (fun k => spec_reArc.l1 k l i (Int.emod (i + 1) p) (j : Int) rs[j] false rs (rs.length : Int) (j : Int) l (l.length : Int) 0) (if (⟨min i (Int.emod (i + 1) p), max i (Int.emod (i + 1) p)⟩ : Ch) ∉ l ∨ rs[j].length = 2 then (j : Int) else F) := by
  obtain ⟨c, hc⟩ : ∃ c : Ch, c = ⟨min i (Int.emod (i + 1) p), max i (Int.emod (i + 1) p)⟩ := ⟨_, rfl⟩
  rw [← hc]
  have e := Ev.scan0 (fun k t (b : Bool) => spec_reArc.l1 k l i (Int.emod (i + 1) p) (j : Int) rs[j] b rs (rs.length : Int) (j : Int) l (l.length : Int) t) l (fun rest b => if (b = false ∧ c ∉ rest) ∨ rs[j].length = 2 then (j : Int) else F) (fun _ _ => True)
    (fun b _ => by
      refine Ev.step (fun k => by rw [spec_reArc.l1]) ?_
      refine Ev.neg (by omega) ?_
      cases b with
      | true =>
        refine Ev.pos rfl ?_
        by_cases h2 : rs[j].length = 2
        · exact Ev.pos (by omega) (Ev.val (by simp [h2]))
        · refine Ev.neg (by omega) ?_
          rw [w64 (by omega) (by omega)]
          simpa [h2] using hF
      | false => exact Ev.neg (by simp) (Ev.val (by simp)))
    (fun t ht b _ => by
      cases b with
      | true =>
        refine .inl ⟨true, trivial, by simp, fun r hr2 => ?_⟩
        refine Ev.step (fun k => by rw [spec_reArc.l1]) ?_
        refine Ev.pos (by omega) (Ev.pos (by omega) (Ev.pos (by omega) (Ev.pos rfl ?_)))
        rw [w64 (by omega) (by omega)]
        exact hr2
      | false =>
        refine .inl ⟨decide (l[t] = c), trivial, ?_, fun r hr2 => ?_⟩
        · have hm : c ∈ l[t] :: l.drop (t + 1) ↔ (l[t] = c ∨ c ∈ l.drop (t + 1)) := by rw [List.mem_cons]; exact or_congr_left eq_comm
          by_cases e : l[t] = c
          · simp only [hm, e]; simp
          · simp only [hm, e]; simp
        · refine Ev.step (fun k => by rw [spec_reArc.l1]) ?_
          refine Ev.pos (by omega) (Ev.pos (by omega) (Ev.pos (by omega) (Ev.neg (by simp) (Ev.bindc (chordOf _ _) ?_))))
          rw [rd_ch l t ht, w64 (by omega) (by omega)]
          have e : (l[t].f0 == min i (Int.emod (i + 1) p) && (l[t].f1 == max i (Int.emod (i + 1) p))) = decide (l[t] = c) := by
            rw [hc, Bool.eq_iff_iff, Bool.and_eq_true, beq_iff_eq, beq_iff_eq, decide_eq_true_iff]
            constructor
            · rintro ⟨h1, h2⟩
              cases hlt : l[t]
              rw [hlt] at h1 h2
              simp only at h1 h2
              rw [h1, h2]
            · intro h; rw [h]; exact ⟨rfl, rfl⟩
          simp only [e]
          exact hr2)
    false trivial
  simpa using e
theorem arc_l0 (p i : Int) (l : List Ch) (rs : List (List Int)) (hl : l.length ≤ 1000) (hrs : rs.length ≤ 1000) (hr : ∀ r ∈ rs, r.length ≤ 1000) : ∀ (d j : Nat), j + d = rs.length → Ev (fun k => spec_reArc.l0 k l i (Int.emod (i + 1) p) rs (rs.length : Int) (j : Int)) (plusI j (idxP (fun r => arcB p l r i) (rs.drop j)))
  | 0, j, hj => by
    refine Ev.step (fun k => by rw [spec_reArc.l0]) ?_
    refine Ev.neg (by omega) (Ev.val ?_)
    rw [List.drop_eq_nil_of_le (by omega)]
    simp [plusI, idxP]
  | d + 1, j, hj => by
    have hjl : j < rs.length := by omega
    have ih := arc_l0 p i l rs hl hrs hr d (j + 1) (by omega)
    rw [show ((j + 1 : Nat) : Int) = (j : Int) + 1 by omega] at ih
    have hrl := hr _ (List.getElem_mem hjl)
    rw [List.drop_eq_getElem_cons hjl, plus_cons]
    refine Ev.step (fun k => by rw [spec_reArc.l0]) ?_
    refine Ev.pos (by omega) (Ev.pos (by omega) (Ev.pos (by omega) ?_))
    rw [rd_ra rs j hjl]
    refine Ev.bindk (l1Has_ev rs[j] i (by omega)) ?_
    by_cases h1 : i ∈ rs[j]
    · refine Ev.pos (by simpa using h1) (Ev.bindk (l1Has_ev rs[j] (Int.emod (i + 1) p) (by omega)) ?_)
      refine Ev.step (fun k => by rw [spec_reArc.j1]) ?_
      by_cases h2 : Int.emod (i + 1) p ∈ rs[j]
      · refine Ev.neg (by simpa using h2) ?_
        have e := arc_l1 p i l rs hl hrs j hjl _ ih
        have e2 : arcB p l rs[j] i = decide ((⟨min i (Int.emod (i + 1) p), max i (Int.emod (i + 1) p)⟩ : Ch) ∉ l ∨ rs[j].length = 2) := by
          unfold arcB
          simp only [h1, h2, true_and]
        rw [e2]
        simpa using e
      · refine Ev.pos (by simpa using h2) ?_
        rw [w64 (by omega) (by omega), if_neg (by unfold arcB; simp [h2])]
        exact ih
    · refine Ev.neg (by simpa using h1) ?_
      refine Ev.step (fun k => by rw [spec_reArc.j1]) ?_
      refine Ev.pos rfl ?_
      rw [w64 (by omega) (by omega), if_neg (by unfold arcB; simp [h1])]
      exact ih
theorem reArc_ev (p i : Int) (l : List Ch) (rs : List (List Int)) (hi : 0 ≤ i ∧ i < p) (hp : p ≤ 1000) (hl : l.length ≤ 1000) (hrs : rs.length ≤ 1000) (hr : ∀ r ∈ rs, r.length ≤ 1000) : Ev (fun k => spec_reArc.f k p l rs i) (idxP (fun r => arcB p l r i) rs) := by
  unfold spec_reArc.f
  refine Ev.neg (by omega) ?_
  rw [w64 (by omega) (by omega), show Int.tmod (i + 1) p = Int.emod (i + 1) p from Int.tmod_eq_emod_of_nonneg (by omega)]
  have e := arc_l0 p i l rs hl hrs hr rs.length 0 (by omega)
  rw [List.drop_zero] at e
  have hg := idxP_ge (fun r => arcB p l r i) rs
  have e2 : plusI 0 (idxP (fun r => arcB p l r i) rs) = idxP (fun r => arcB p l r i) rs := by
    unfold plusI
    split <;> omega
  rw [e2] at e
  exact e
theorem idx_map {α β : Type} (f : α → β) (q : β → Bool) (q' : α → Bool) : ∀ l : List α, (∀ x ∈ l, q' x = q (f x)) → idxP q' l = idxP q (l.map f)
  | [], _ => rfl
  | x :: r, h => by
    rw [List.map_cons, idxP, idxP, h x (by simp), idx_map f q q' r (fun y hy => h y (by simp [hy]))]
/-- The place of an arc's region. -/
theorem arc_place {p : Int} {l : List Ch} (H : PlaneP p l) (i : Int) (h0 : 0 ≤ i) (h1 : i < p) : idxP (fun r : SR => r.f2.contains i) (rgsS p l) = idxP (fun r => arcB p l r i) (rowsS p l) := by
  refine idx_map (fun x : SR => x.f0) (fun r => arcB p l r i) (fun r : SR => r.f2.contains i) (rgsS p l) (fun x hx => ?_)
  obtain ⟨c, hc, rfl⟩ := mem_rgs.1 hx
  show (arcsW p l c).contains i = arcB p l (ptsW p l c) i
  rw [ptsW_eq H hc, Bool.eq_iff_iff, List.contains_iff_mem]
  exact arc_iff H hc i h0 h1
end Go.Proofs.Ytdeenfpcmaadcaa.M

/- The program's RegionOfArc returns what the reference's returns, for all arguments. -/
namespace Go.Proofs.Ytdeenfpcmaadcaa.Pure
open Go.RowKit Go.Proofs.Ytdeenfpcmaadcaa.Pr Go.Proofs.Ytdeenfpcmaadcaa.M Go.Proofs.YtdeenfpcmaadcaaW.PrintWords Go.Proofs.YtdeenfpcmaadcaaW.PrintLast
set_option linter.unusedVariables false
set_option linter.unusedSimpArgs false
def arcR (p : Int) (l : List Ch) (i : Int) : Int × Bool := if (goodB p l = true ∧ pairsN l = 0) ∧ inB i 0 (p - 1) = true then (idxP (fun r : SR => r.f2.contains i) (rgsS p l), true) else (0, false)
theorem arc_impl (p : Int) (l : List Ch) (i : Int) (hl : l.length ≤ 9223372036854775807) : Ev (fun k => impl_RegionOfArc.f k p l i) (arcR p l i) := by
  unfold impl_RegionOfArc.f
  refine Ev.bindk (planeRegions_ev p l hl) ?_
  unfold arcR
  by_cases hg : goodB p l = true ∧ pairsN l = 0
  · obtain ⟨hp, h40, hv⟩ := good_ok hg.1
    rw [planeB, if_pos hg]
    refine Ev.pos rfl (Ev.pos (by omega) ?_)
    by_cases hi : inB i 0 (p - 1) = true
    · exact Ev.pos hi (Ev.val (by rw [if_pos ⟨hg, hi⟩]))
    · exact Ev.neg hi (Ev.val (by rw [if_neg (fun q => hi q.2)]))
  · rw [planeB, if_neg hg]
    refine Ev.neg (by simp) (Ev.val ?_)
    rw [if_neg (fun q => hg q.1)]
theorem arc_spec (p : Int) (l : List Ch) (i : Int) (hl : l.length ≤ 9223372036854775807) : Ev (fun k => spec_RegionOfArc.f k p l i) (arcR p l i) := by
  unfold spec_RegionOfArc.f
  refine Ev.bindk (rePlane_ev p l hl) ?_
  unfold arcR
  by_cases hg : goodB p l = true ∧ pairsN l = 0
  · obtain ⟨hp, h40, hv⟩ := good_ok hg.1
    have H := planeP_of hg.1 hg.2
    refine Ev.pos (decide_eq_true hg) ?_
    rw [w64 (x := p - 1) (by omega) (by omega)]
    refine Ev.bindc (l1In_eq i 0 (p - 1)) ?_
    refine Ev.step (fun k => by rw [spec_RegionOfArc.j0]) ?_
    by_cases hi : inB i 0 (p - 1) = true
    · have hi2 : 0 ≤ i ∧ i < p := by unfold inB at hi; simp at hi; omega
      refine Ev.neg (by simp [hi]) (Ev.bindc (reList_ev p l hg.1 hg.2) (Ev.bindk (reArc_ev p i l _ hi2 (by omega) (by omega) (by rw [List.length_map, rgs_len]; omega) (fun r hr => by have := row_le H hr; omega)) (Ev.val ?_)))
      rw [if_pos ⟨hg, hi⟩, arc_place H i hi2.1 hi2.2]
      rfl
    · exact Ev.pos (by simpa using hi) (Ev.val (by rw [if_neg (fun q => hi q.2)]))
  · refine Ev.neg (by simpa using hg) ?_
    refine Ev.step (fun k => by rw [spec_RegionOfArc.j0]) ?_
    exact Ev.pos rfl (Ev.val (by rw [if_neg (fun q => hg q.1)]))
theorem FnExactRegionOfArc : ∀ (a0 : Int) (l1 : List S49) (a2 : Int), (Lit.int .i64 a0).wf = true → l1.length ≤ maxLen → (∀ x ∈ l1, (Lit.int .i64 x.f0).wf = true ∧ (Lit.int .i64 x.f1).wf = true) → (Lit.int .i64 a2).wf = true → ∃ k, laws_FnExactRegionOfArc.f k a0 l1 a2 = some true := by
  intro a0 l a2 _ hm _ _
  refine Ev.rounds ?_
  unfold laws_FnExactRegionOfArc.f
  by_cases hl : l.length ≤ 1048576
  · have hml : (l.map toC).length ≤ 1048576 := by simpa using hl
    refine Ev.bindc (szC_small l hl) (Ev.neg (by omega) ?_)
    refine Ev.bindk (toC_ev l hl) (Ev.bindk (arc_spec a0 _ a2 (by omega)) (Ev.bindk (toC_ev l hl) (Ev.bindk (arc_impl a0 _ a2 (by omega)) (Ev.pos rfl ?_))))
    refine Ev.step (fun k => by rw [laws_FnExactRegionOfArc.j0]) ?_
    exact Ev.neg (by simp) (Ev.bindk (toC_ev l hl) (Ev.bindk (eqC_ev _ (by omega)) (Ev.pos rfl (Ev.now true))))
  · exact Ev.bindc (szC_big l (by omega) hm) (Ev.pos (by omega) (Ev.now true))
end Go.Proofs.Ytdeenfpcmaadcaa.Pure
