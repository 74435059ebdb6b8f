/- The program's EndRegions returns what the reference's returns, for all arguments. (Part 4 of 6.) -/
import Derived.Deep.CutRange
import Derived.Shelf.Abstract
import Derived.Test.YtdeenfpcmaadcaaKFnExactEndRegions0
import Derived.Test.YtdeenfpcmaadcaaKFnExactEndRegions1
import Derived.Test.YtdeenfpcmaadcaaKFnExactEndRegions2
-- Written by a program for this claim.
namespace Go.Proofs.Ytdeenfpcmaadcaa.Pr
open Go.RowKit Go.Proofs.YtdeenfpcmaadcaaW.PrintWords Go.Proofs.YtdeenfpcmaadcaaW.PrintLast Go.Proofs.YtdeenfpcmaadcaaW.PrintMore
attribute [local go_sem] max2_int min2_int max_two min_two max_three min_three max_four min_four   -- for this text's walks alone
set_option linter.unusedVariables false
set_option linter.unusedSimpArgs false

attribute [local go_sem high] eqA47
/-! ### impl_regionInside: function 63 -/
mutual
def impl_regionInside.j0 : Nat → List (S47) → Bool → Int → Int → List Int → List (S47) → List Int → Option (List Int × (List (S47)) × List Int)
  | 0, _, _, _, _, _, _, _ => none
  | k + 1, x0, x2, x115000, x115001, x120000, x120001, x120002 => impl_regionInside.l0 k x0 x2 x115000 x115000 x115001 x120000 x120001 x120002
def impl_regionInside.l0 : Nat → List (S47) → Bool → Int → Int → Int → List Int → List (S47) → List Int → Option (List Int × (List (S47)) × List Int)
  | 0, _, _, _, _, _, _, _, _ => none
  | k + 1, x0, x2, x8, x115000, x115001, x120000, x120001, x120002 => if x8 < x115001 then (impl_regionInside.l1 k x0 x2 x8 x8 x0 (x0.length : Int) 0 x115000 x115001 x120000 x120001 x120002) else (some (x120000, x120001, x120002))
def impl_regionInside.l1 : Nat → List (S47) → Bool → Int → Int → List (S47) → Int → Int → Int → Int → List Int → List (S47) → List Int → Option (List Int × (List (S47)) × List Int)
  | 0, _, _, _, _, _, _, _, _, _, _, _, _ => none
  | k + 1, x0, x2, x8, x9, x37, x38, x39, x115000, x115001, x120000, x120001, x120002 => if x39 < x38 then (if 0 ≤ x39 then (if x39 < (x37.length : Int) then (if ((rd_T47 x37 x39).f0) = x8 then (if ((rd_T47 x37 x39).f1) ≤ x115001 then (if ((rd_T47 x37 x39).f1) > x9 then (if x2 = true then (if ((((rd_T47 x37 x39).f0) == x115000 && (((rd_T47 x37 x39).f1) == x115001)) = true) then (impl_regionInside.l1 k x0 x2 x8 x9 x37 x38 (wrap64 (x39 + 1)) x115000 x115001 x120000 x120001 x120002) else (impl_regionInside.l1 k x0 x2 x8 ((rd_T47 x37 x39).f1) x37 x38 (wrap64 (x39 + 1)) x115000 x115001 x120000 x120001 x120002)) else (impl_regionInside.l1 k x0 x2 x8 ((rd_T47 x37 x39).f1) x37 x38 (wrap64 (x39 + 1)) x115000 x115001 x120000 x120001 x120002)) else (impl_regionInside.l1 k x0 x2 x8 x9 x37 x38 (wrap64 (x39 + 1)) x115000 x115001 x120000 x120001 x120002)) else (impl_regionInside.l1 k x0 x2 x8 x9 x37 x38 (wrap64 (x39 + 1)) x115000 x115001 x120000 x120001 x120002)) else (impl_regionInside.l1 k x0 x2 x8 x9 x37 x38 (wrap64 (x39 + 1)) x115000 x115001 x120000 x120001 x120002)) else (none)) else (none)) else (if x9 > x8 then (if x120001.length < 8796093022208 then (if x120000.length < 17592186044416 then (impl_regionInside.l0 k x0 x2 x9 x115000 x115001 (x120000 ++ [x9]) (x120001 ++ [(⟨x8, x9⟩ : S47)]) x120002) else (none)) else (none)) else (if x120002.length < 17592186044416 then (if x120000.length < 17592186044416 then (impl_regionInside.l0 k x0 x2 (wrap64 (x8 + 1)) x115000 x115001 (x120000 ++ [wrap64 (x8 + 1)]) x120001 (x120002 ++ [x8])) else (none)) else (none)))
end
def impl_regionInside.f (k : Nat) (l0 : List (S47)) (a1_0 : Int) (a1_1 : Int) (a2 : Bool) : Option (List Int × (List (S47)) × List Int) := (some (([a1_0] : List Int) : List Int)).bind fun y116 => (if a2 = true then (if ([] : List (S47)).length < 8796093022208 then (impl_regionInside.j0 k l0 a2 a1_0 a1_1 y116 (([] : List (S47)) ++ [(⟨a1_0, a1_1⟩ : S47)]) ([] : List Int)) else (none)) else (if ([] : List Int).length < 17592186044416 then (impl_regionInside.j0 k l0 a2 a1_0 a1_1 y116 ([] : List (S47)) (([] : List Int) ++ [a1_1])) else (none)))
theorem impl_regionInside.mono_l : ∀ k, (∀ y0 y1 y2 y3 y4 y5 y6, LeO (impl_regionInside.j0 k y0 y1 y2 y3 y4 y5 y6) (impl_regionInside.j0 (k + 1) y0 y1 y2 y3 y4 y5 y6)) ∧ (∀ y0 y1 y2 y3 y4 y5 y6 y7, LeO (impl_regionInside.l0 k y0 y1 y2 y3 y4 y5 y6 y7) (impl_regionInside.l0 (k + 1) y0 y1 y2 y3 y4 y5 y6 y7)) ∧ (∀ y0 y1 y2 y3 y4 y5 y6 y7 y8 y9 y10 y11, LeO (impl_regionInside.l1 k y0 y1 y2 y3 y4 y5 y6 y7 y8 y9 y10 y11) (impl_regionInside.l1 (k + 1) y0 y1 y2 y3 y4 y5 y6 y7 y8 y9 y10 y11))
  | 0 => ⟨fun _ _ _ _ _ _ _ r h => by simp [impl_regionInside.j0] at h, fun _ _ _ _ _ _ _ _ r h => by simp [impl_regionInside.l0] at h, fun _ _ _ _ _ _ _ _ _ _ _ _ r h => by simp [impl_regionInside.l1] at h⟩
  | k + 1 => by
    obtain ⟨ih0, ih1, ih2⟩ := impl_regionInside.mono_l k
    refine ⟨?_, ?_, ?_⟩
    · intro y0 y1 y2 y3 y4 y5 y6
      unfold impl_regionInside.j0
      repeat' first
      | (with_reducible exact ih0 _ _ _ _ _ _ _)
      | (with_reducible exact ih1 _ _ _ _ _ _ _ _)
      | (with_reducible exact ih2 _ _ _ _ _ _ _ _ _ _ _ _)
      | (with_reducible exact LeO.refl _)
      | (with_reducible exact LeO.none _)
      | (with_reducible refine LeO.ite ?_ ?_)
      | (with_reducible refine LeO.bind ?_ (fun _ => ?_))
      | exact ih0 _ _ _ _ _ _ _
      | exact ih1 _ _ _ _ _ _ _ _
      | exact ih2 _ _ _ _ _ _ _ _ _ _ _ _
      | exact LeO.none _
      | refine LeO.ite ?_ ?_
      | refine LeO.bind ?_ (fun _ => ?_)
    · intro y0 y1 y2 y3 y4 y5 y6 y7
      unfold impl_regionInside.l0
      repeat' first
      | (with_reducible exact ih0 _ _ _ _ _ _ _)
      | (with_reducible exact ih1 _ _ _ _ _ _ _ _)
      | (with_reducible exact ih2 _ _ _ _ _ _ _ _ _ _ _ _)
      | (with_reducible exact LeO.refl _)
      | (with_reducible exact LeO.none _)
      | (with_reducible refine LeO.ite ?_ ?_)
      | (with_reducible refine LeO.bind ?_ (fun _ => ?_))
      | exact ih0 _ _ _ _ _ _ _
      | exact ih1 _ _ _ _ _ _ _ _
      | exact ih2 _ _ _ _ _ _ _ _ _ _ _ _
      | exact LeO.none _
      | refine LeO.ite ?_ ?_
      | refine LeO.bind ?_ (fun _ => ?_)
    · intro y0 y1 y2 y3 y4 y5 y6 y7 y8 y9 y10 y11
      unfold impl_regionInside.l1
      repeat' first
      | (with_reducible exact ih0 _ _ _ _ _ _ _)
      | (with_reducible exact ih1 _ _ _ _ _ _ _ _)
      | (with_reducible exact ih2 _ _ _ _ _ _ _ _ _ _ _ _)
      | (with_reducible exact LeO.refl _)
      | (with_reducible exact LeO.none _)
      | (with_reducible refine LeO.ite ?_ ?_)
      | (with_reducible refine LeO.bind ?_ (fun _ => ?_))
      | exact ih0 _ _ _ _ _ _ _
      | exact ih1 _ _ _ _ _ _ _ _
      | exact ih2 _ _ _ _ _ _ _ _ _ _ _ _
      | exact LeO.none _
      | refine LeO.ite ?_ ?_
      | refine LeO.bind ?_ (fun _ => ?_)
theorem impl_regionInside.mono : ∀ a0 a1 a2 a3 k, LeO (impl_regionInside.f k a0 a1 a2 a3) (impl_regionInside.f (k + 1) a0 a1 a2 a3) := by
  intro a0 a1 a2 a3 k
  obtain ⟨ih0, ih1, ih2⟩ := impl_regionInside.mono_l k
  unfold impl_regionInside.f
  repeat' first
      | (with_reducible exact ih0 _ _ _ _ _ _ _)
      | (with_reducible exact ih1 _ _ _ _ _ _ _ _)
      | (with_reducible exact ih2 _ _ _ _ _ _ _ _ _ _ _ _)
      | (with_reducible exact LeO.refl _)
      | (with_reducible exact LeO.none _)
      | (with_reducible refine LeO.ite ?_ ?_)
      | (with_reducible refine LeO.bind ?_ (fun _ => ?_))
      | exact ih0 _ _ _ _ _ _ _
      | exact ih1 _ _ _ _ _ _ _ _
      | exact ih2 _ _ _ _ _ _ _ _ _ _ _ _
      | exact LeO.none _
      | refine LeO.ite ?_ ?_
      | refine LeO.bind ?_ (fun _ => ?_)
set_option maxHeartbeats 8000000 in
set_option maxRecDepth 100000 in
theorem impl_regionInside.calls (k : Nat) (A0 : Option Addr) (c0 : Nat) (l0 : List (S47)) (a1_0 : Int) (a1_1 : Int) (a2 : Bool) (r1 : List Int) (r2 : List (S47)) (r3 : List Int) (w : World) (hr0 : Kd.C k47 w A0 l0.length l0) (hc0 : l0.length ≤ c0) (h : impl_regionInside.f k l0 a1_0 a1_1 a2 = some (r1, r2, r3)) :
    Calls Try.prog 63 #[.slice A0 l0.length c0, .agg #[.int .i64 a1_0, .int .i64 a1_1], .bool a2] w fun e w' => ∃ v0_ v1_ v2_ : Value, e = .returned (.agg #[v0_, v1_, v2_]) ∧ Kd.R (Kd.int .i64) 3 w' w.heap.size (fun k_ => some k_ ≠ (v2_ : Value).ownBlock) v0_ r1 ∧ Kd.R k47 47 w' w.heap.size (fun _ => True) v1_ r2 ∧ Kd.R (Kd.int .i64) 3 w' w.heap.size (fun k_ => some k_ ≠ (v0_ : Value).ownBlock) v2_ r3 ∧ Below w.heap.size w w' := by
  have hu47 := Try.underlying47
  have hu54 := Try.underlying54
  have HR0 := Aside0.mk hr0
  have HC0 := Aside0.mk hc0
  clear hr0 hc0
  have HB := Aside0.mk (Below.refl w.heap.size w)
  have H : ((some (([a1_0] : List Int) : List Int)).bind fun y116 => (if a2 = true then (if ([] : List (S47)).length < 8796093022208 then (impl_regionInside.j0 k l0 a2 a1_0 a1_1 y116 (([] : List (S47)) ++ [(⟨a1_0, a1_1⟩ : S47)]) ([] : List Int)) else (none)) else (if ([] : List Int).length < 17592186044416 then (impl_regionInside.j0 k l0 a2 a1_0 a1_1 y116 ([] : List (S47)) (([] : List Int) ++ [a1_1])) else (none)))) = some (r1, r2, r3) := h
  clear h
  obtain ⟨y116, hy116⟩ : ∃ y_ : List Int, y_ = (([a1_0] : List Int)) := ⟨_, rfl⟩
  replace H : (if a2 = true then (if ([] : List (S47)).length < 8796093022208 then (impl_regionInside.j0 k l0 a2 a1_0 a1_1 y116 (([] : List (S47)) ++ [(⟨a1_0, a1_1⟩ : S47)]) ([] : List Int)) else (none)) else (if ([] : List Int).length < 17592186044416 then (impl_regionInside.j0 k l0 a2 a1_0 a1_1 y116 ([] : List (S47)) (([] : List Int) ++ [a1_1])) else (none))) = some (r1, r2, r3) := by first | (rw [hy116]; with_reducible exact H) | (have H2_ := (Option.bind_some _ _).symm.trans H; rw [hy116]; with_reducible exact H2_) | (have H2_ := (Option.bind_some _ _).symm.trans H; with_reducible exact H2_) | with_reducible exact H | (rw [hy116]; exact H) | exact H
  have Ny116 := Aside0.mk hy116
  clear hy116
  have HC4 := Aside0.mk H
  clear H
  go_enter Try.func63, Try.ntmps63
  go_upto_if 16 with (first | ((with_reducible refine gate_dst (N := 4) rfl ?_); refine box_event ?hg (N := 4) ?hd (cs := #[.int .i64 a1_0, .int .i64 a1_1]) (t := 47) ?hr ?_; (case hd => rfl); (case hg => rfl); (case hr => first | (go_simp; done) | (go_simp; rfl)); intro gb114 hg w5 hbox hb; have n0_ := Aside0.mk (below_step (by repeat (first | (with_reducible first | exact HB.out | apply below_alloc | apply pw_below_drewN | apply below_drew1) | exact HB.out)) hb); have n1_ := Aside0.mk (hbox); have n2_ := Aside0.mk ((by rw [hg]; exact (below_size (by repeat (first | (with_reducible first | exact HB.out | apply below_alloc | apply pw_below_drewN | apply below_drew1) | exact HB.out))) : w.heap.size ≤ gb114)); have n3_ := Aside0.mk ((by rw [hg]; exact (below_size (by repeat (first | (with_reducible first | exact HB.out | apply below_alloc | apply pw_below_drewN | apply below_drew1) | exact HB.out))) : w.heap.size ≤ gb114)); clear HB; have HB := n0_; have BK114 := n1_; have GW114 := n2_; have GE114 := n3_; clear n0_ n1_ n2_ n3_; clear hb hbox hg) | ((with_reducible refine gate_dst (N := 6) rfl ?_); refine box_event ?hg (N := 6) ?hd (cs := #[.slice none 0 0, .slice none 0 0, .slice none 0 0]) (t := 54) ?hr ?_; (case hd => rfl); (case hg => rfl); (case hr => first | (go_simp; done) | (go_simp; rfl)); intro gb115 hg w6 hbox hb; have n0_ := Aside0.mk (blk_below (g := gb114) (o := .cells #[.int .i64 a1_0, .int .i64 a1_1] 47 (0, 0)) (by (with_reducible repeat (first | refine blk_drewN ?_ _ | refine blk_drew ?_ | refine blk_alloc ?_ _)); exact BK114.out) hb); have n1_ := Aside0.mk (below_step (by repeat (first | (with_reducible first | exact HB.out | apply below_alloc | apply pw_below_drewN | apply below_drew1 | refine below_set ?_ GE114.out) | exact HB.out)) hb); have n2_ := Aside0.mk (hbox); have n3_ := Aside0.mk ((by rw [hg]; exact (below_size (by repeat (first | (with_reducible first | exact HB.out | apply below_alloc | apply pw_below_drewN | apply below_drew1 | refine below_set ?_ GE114.out) | exact HB.out))) : w.heap.size ≤ gb115)); have n4_ := Aside0.mk ((by rw [hg]; exact (below_size (by repeat (first | (with_reducible first | exact HB.out | apply below_alloc | apply pw_below_drewN | apply below_drew1 | refine below_set ?_ GE114.out) | exact HB.out))) : w.heap.size ≤ gb115)); have n5_ := Aside0.mk ((by rw [hg]; exact Nat.ne_of_lt (blk_lt (g := gb114) (o := .cells #[.int .i64 a1_0, .int .i64 a1_1] 47 (0, 0)) (by (with_reducible repeat (first | refine blk_drewN ?_ _ | refine blk_drew ?_ | refine blk_alloc ?_ _)); exact BK114.out)) : gb114 ≠ gb115)); have n6_ := Aside0.mk ((by rw [hg]; exact Nat.ne_of_gt (blk_lt (g := gb114) (o := .cells #[.int .i64 a1_0, .int .i64 a1_1] 47 (0, 0)) (by (with_reducible repeat (first | refine blk_drewN ?_ _ | refine blk_drew ?_ | refine blk_alloc ?_ _)); exact BK114.out)) : gb115 ≠ gb114)); clear BK114; clear HB; have BK114 := n0_; have HB := n1_; have BK115 := n2_; have GW115 := n3_; have GE115 := n4_; have NB114_115 := n5_; have NB115_114 := n6_; clear n0_ n1_ n2_ n3_ n4_ n5_ n6_; clear hb hbox hg; have hnb7 := NB114_115.out; have hnc7 := NB115_114.out; have hcz8_0 : w6.cell? ⟨gb114, 0, none⟩ = some (.int .i64 a1_0) := (blk_cell BK114.out 0).trans rfl; have hcz8_1 : w6.cell? ⟨gb114, 1, none⟩ = some (.int .i64 a1_1) := (blk_cell BK114.out 1).trans rfl; have hfz8_0 := blk_frozen BK114.out 0; have hfz8_1 := blk_frozen BK114.out 1) | ((with_reducible refine gate_dst (N := 14) rfl ?_); refine Kd.R_lit (Kd.int .i64) _ 3 ?hg (N := 14) ?hd (xs := ([a1_0] : List Int)) (inner := [.int .i64 a1_0]) (ok := fun _ => True) (okp := fun _ => True) ?hr ?hp (fun _ hk => hk) trivial (Below.refl _ _) (Nat.le_refl _) (by simp) ?_; (case hd => rfl); (case hg => rfl); (case hr => first | (go_simp; done) | (go_simp; rfl)); (case hp => exact (Reps.one (show Kd.M (Kd.int .i64) _ _ _ a1_0 [.int .i64 a1_0] from rfl) (Reps.none _ _))); intro v117 w9 ho10 hb hg_ hnew_; clear hg_ hnew_; (first | rw [← Ny116.out] at ho10 | (simp only [Int.reduceToNat] at ho10; rw [← Ny116.out] at ho10)); have n0_ := Aside0.mk (Kd.R_lower ho10 (below_size (by repeat (first | (with_reducible first | exact HB.out | apply below_alloc | apply pw_below_drewN | apply below_drew1 | refine below_set ?_ GE114.out | refine below_set ?_ GE115.out) | exact HB.out)))); have n1_ := Aside0.mk (blk_below (g := gb114) (o := .cells #[.int .i64 a1_0, .int .i64 a1_1] 47 (0, 0)) (by (with_reducible repeat (first | refine blk_drewN ?_ _ | refine blk_drew ?_ | refine blk_alloc ?_ _)); exact BK114.out) hb); have n2_ := Aside0.mk (blk_below (g := gb115) (o := .cells #[.slice none 0 0, .slice none 0 0, .slice none 0 0] 54 (0, 0)) (by (with_reducible repeat (first | refine blk_drewN ?_ _ | refine blk_drew ?_ | refine blk_alloc ?_ _)); exact BK115.out) hb); have n3_ := Aside0.mk (below_step (by repeat (first | (with_reducible first | exact HB.out | apply below_alloc | apply pw_below_drewN | apply below_drew1 | refine below_set ?_ GE114.out | refine below_set ?_ GE115.out) | exact HB.out)) hb); clear BK114; clear BK115; clear HB; have HO118 := n0_; have BK114 := n1_; have BK115 := n2_; have HB := n3_; clear n0_ n1_ n2_ n3_; clear hb ho10; obtain ⟨Ao11, co11, eo11⟩ := Kd.R_slice HO118.out; subst eo11) | ((with_reducible refine gate_dst (N := 7) rfl ?_); refine box_event ?hg (N := 7) ?hd (cs := #[.slice none 0 0, .slice none 0 0, .slice none 0 0]) (t := 54) ?hr ?_; (case hd => rfl); (case hg => rfl); (case hr => first | (go_simp; done) | (go_simp; rfl)); intro gb119 hg w12 hbox hb; have n0_ := Aside0.mk (Kd.R_below (by (with_reducible repeat (first | apply Kd.R_alloc | apply Kd.R_drewN | apply Kd.R_drew)); exact HO118.out) hb); have n1_ := Aside0.mk (blk_below (g := gb114) (o := .cells #[.int .i64 a1_0, .int .i64 a1_1] 47 (0, 0)) (by (with_reducible repeat (first | refine blk_drewN ?_ _ | refine blk_drew ?_ | refine blk_alloc ?_ _)); exact BK114.out) hb); have n2_ := Aside0.mk (blk_below (g := gb115) (o := .cells #[.slice none 0 0, .slice none 0 0, .slice none 0 0] 54 (0, 0)) (by (with_reducible repeat (first | refine blk_drewN ?_ _ | refine blk_drew ?_ | refine blk_alloc ?_ _)); exact BK115.out) hb); have n3_ := Aside0.mk (below_step (by repeat (first | (with_reducible first | exact HB.out | apply below_alloc | apply pw_below_drewN | apply below_drew1 | refine below_set ?_ GE114.out | refine below_set ?_ GE115.out) | exact HB.out)) hb); have n4_ := Aside0.mk (hbox); have n5_ := Aside0.mk ((by rw [hg]; exact (below_size (by repeat (first | (with_reducible first | exact HB.out | apply below_alloc | apply pw_below_drewN | apply below_drew1 | refine below_set ?_ GE114.out | refine below_set ?_ GE115.out) | exact HB.out))) : w.heap.size ≤ gb119)); have n6_ := Aside0.mk ((by rw [hg]; exact (below_size (by repeat (first | (with_reducible first | exact HB.out | apply below_alloc | apply pw_below_drewN | apply below_drew1 | refine below_set ?_ GE114.out | refine below_set ?_ GE115.out) | exact HB.out))) : w.heap.size ≤ gb119)); have n7_ := Aside0.mk ((by rw [hg]; exact Nat.ne_of_lt (blk_lt (g := gb114) (o := .cells #[.int .i64 a1_0, .int .i64 a1_1] 47 (0, 0)) (by (with_reducible repeat (first | refine blk_drewN ?_ _ | refine blk_drew ?_ | refine blk_alloc ?_ _)); exact BK114.out)) : gb114 ≠ gb119)); have n8_ := Aside0.mk ((by rw [hg]; exact Nat.ne_of_gt (blk_lt (g := gb114) (o := .cells #[.int .i64 a1_0, .int .i64 a1_1] 47 (0, 0)) (by (with_reducible repeat (first | refine blk_drewN ?_ _ | refine blk_drew ?_ | refine blk_alloc ?_ _)); exact BK114.out)) : gb119 ≠ gb114)); have n9_ := Aside0.mk ((by rw [hg]; exact Nat.ne_of_lt (blk_lt (g := gb115) (o := .cells #[.slice none 0 0, .slice none 0 0, .slice none 0 0] 54 (0, 0)) (by (with_reducible repeat (first | refine blk_drewN ?_ _ | refine blk_drew ?_ | refine blk_alloc ?_ _)); exact BK115.out)) : gb115 ≠ gb119)); have n10_ := Aside0.mk ((by rw [hg]; exact Nat.ne_of_gt (blk_lt (g := gb115) (o := .cells #[.slice none 0 0, .slice none 0 0, .slice none 0 0] 54 (0, 0)) (by (with_reducible repeat (first | refine blk_drewN ?_ _ | refine blk_drew ?_ | refine blk_alloc ?_ _)); exact BK115.out)) : gb119 ≠ gb115)); clear HO118; clear BK114; clear BK115; clear HB; have HO118 := n0_; have BK114 := n1_; have BK115 := n2_; have HB := n3_; have BK119 := n4_; have GW119 := n5_; have GE119 := n6_; have NB114_119 := n7_; have NB119_114 := n8_; have NB115_119 := n9_; have NB119_115 := n10_; clear n0_ n1_ n2_ n3_ n4_ n5_ n6_ n7_ n8_ n9_ n10_; clear hb hbox hg; have hnb13 := NB119_114.out; have hnc13 := NB114_119.out; have hnb14 := NB119_115.out; have hnc14 := NB115_119.out; have hcz15_0 : w12.cell? ⟨gb119, 0, none⟩ = some (.slice none 0 0) := (blk_cell BK119.out 0).trans rfl; have hcz15_1 : w12.cell? ⟨gb119, 1, none⟩ = some (.slice none 0 0) := (blk_cell BK119.out 1).trans rfl; have hcz15_2 : w12.cell? ⟨gb119, 2, none⟩ = some (.slice none 0 0) := (blk_cell BK119.out 2).trans rfl; have hfz15_0 := blk_frozen BK119.out 0; have hfz15_1 := blk_frozen BK119.out 1; have hfz15_2 := blk_frozen BK119.out 2))
  (try simp only [Act.put, List.setIfInBounds_toArray, List.set_cons_zero, List.set_cons_succ])
  go_cut [] (fun wc => ∃ (kq : Nat) (x120001_3 : List (S47)) (x120002_3 : List Int) (u120001 : Value) (u120002 : Value), Aside0 (impl_regionInside.j0 kq l0 a2 a1_0 a1_1 y116 x120001_3 x120002_3 = some (r1, r2, r3)) ∧ Aside0 (kq ≤ k) ∧ Aside0 (Kd.R (Kd.int .i64) 3 wc w.heap.size (fun k_ => some k_ ≠ (u120002 : Value).ownBlock) (.slice Ao11 y116.length co11) y116) ∧ Aside0 (Kd.R k47 47 wc w.heap.size (fun k_ => k_ ≠ gb114) u120001 x120001_3) ∧ Aside0 (Kd.R (Kd.int .i64) 3 wc w.heap.size (fun k_ => some k_ ≠ ((.slice Ao11 y116.length co11) : Value).ownBlock) u120002 x120002_3) ∧ Aside0 (wc.heap[gb114]? = some (.cells #[.int .i64 a1_0, .int .i64 a1_1] 47 (0, 0))) ∧ Aside0 (wc.heap[gb115]? = some (.cells #[(.slice none 0 0), (.slice none 0 0), (.slice none 0 0)] 54 (0, 0))) ∧ Aside0 (wc.heap[gb119]? = some (.cells #[(.slice Ao11 y116.length co11), u120001, u120002] 54 (0, 0))) ∧ Aside0 (Below w.heap.size w wc))
  case first =>
    have H := HC4.out
    clear HC4
    by_cases c16 : a2 = true
    · subst c16
      have H1 : (if ([] : List (S47)).length < 8796093022208 then (impl_regionInside.j0 k l0 true a1_0 a1_1 y116 (([] : List (S47)) ++ [(⟨a1_0, a1_1⟩ : S47)]) ([] : List Int)) else (none)) = some (r1, r2, r3) := by rw [if_pos rfl] at H; exact H
      clear H
      have H := H1
      clear H1
      by_cases c17 : ([] : List (S47)).length < 8796093022208
      · rw [if_pos c17] at H
        have LMc17 := Aside0.mk c17
        clear c17
        obtain ⟨y120, hy120⟩ : ∃ y_ : List (S47), y_ = (([] : List (S47)) ++ [(⟨a1_0, a1_1⟩ : S47)]) := ⟨_, rfl⟩
        replace H : (impl_regionInside.j0 k l0 true a1_0 a1_1 y116 y120 ([] : List Int)) = some (r1, r2, r3) := by first | (rw [hy120]; with_reducible exact H) | (have H2_ := (Option.bind_some _ _).symm.trans H; rw [hy120]; with_reducible exact H2_) | (have H2_ := (Option.bind_some _ _).symm.trans H; with_reducible exact H2_) | with_reducible exact H | (rw [hy120]; exact H) | exact H
        have Ny120 := Aside0.mk hy120
        clear hy120
        have H' := Aside0.mk H
        clear H
        have hnb18 := NB119_114.out
        have hnc18 := NB114_119.out
        have hnb19 := NB119_115.out
        have hnc19 := NB115_119.out
        have hcz20_0 : w12.cell? ⟨gb119, 0, none⟩ = some (.slice none 0 0) := (blk_cell BK119.out 0).trans rfl
        have hcz20_1 : w12.cell? ⟨gb119, 1, none⟩ = some (.slice none 0 0) := (blk_cell BK119.out 1).trans rfl
        have hcz20_2 : w12.cell? ⟨gb119, 2, none⟩ = some (.slice none 0 0) := (blk_cell BK119.out 2).trans rfl
        have hfz20_0 := blk_frozen BK119.out 0
        have hfz20_1 := blk_frozen BK119.out 1
        have hfz20_2 := blk_frozen BK119.out 2
        have hnb21 := NB114_115.out
        have hnc21 := NB115_114.out
        have hcz22_0 : w12.cell? ⟨gb114, 0, none⟩ = some (.int .i64 a1_0) := (blk_cell BK114.out 0).trans rfl
        have hcz22_1 : w12.cell? ⟨gb114, 1, none⟩ = some (.int .i64 a1_1) := (blk_cell BK114.out 1).trans rfl
        have hfz22_0 := blk_frozen BK114.out 0
        have hfz22_1 := blk_frozen BK114.out 1
        go_wp2_with (first | ((with_reducible refine gate_builtin (b := .append) (xs := #[.tmp 18, .tmp 20]) rfl ?_); at_builtin; refine Kd.R_append k47 (w0 := w) w.heap.size rfl (.tmp 18) (.tmp 20) 27 47 (.agg #[(.int .i64 0), (.int .i64 0)]) 16 rfl Try.underlying27 info47 rfl (by decide) (by omega) (.slice none 0 0) ([] : List (S47)) (⟨a1_0, a1_1⟩ : S47) [.int .i64 a1_0, .int .i64 a1_1] (fun k_ => k_ ≠ gb114) (fun _ => False) rfl (by first | (go_simp; done) | (go_simp; rfl)) ?aP (fun _ hk => hk.elim) ?aF ?aO ?aB ?aS ?aL ?_; (case aP => exact k47_mkM _ _ _ (⟨a1_0, a1_1⟩ : S47)); (case aB => exact (by repeat (first | (with_reducible first | exact HB.out | apply below_alloc | apply pw_below_drewN | apply below_drew1 | refine below_set ?_ GE114.out | refine below_set ?_ GE115.out | refine below_set ?_ GE119.out) | exact HB.out))); (case aF => exact (fun k_ hk => Kd.freshB (g := gb114) (o := .cells #[.int .i64 a1_0, .int .i64 a1_1] 47 (0, 0)) (by (with_reducible repeat (first | refine blk_drewN ?_ _ | refine blk_drew ?_ | refine blk_alloc ?_ _)); refine blk_far ?_ NB114_119.out _; (with_reducible repeat (first | refine blk_drewN ?_ _ | refine blk_drew ?_ | refine blk_alloc ?_ _)); refine blk_far ?_ NB114_119.out _; (with_reducible repeat (first | refine blk_drewN ?_ _ | refine blk_drew ?_ | refine blk_alloc ?_ _)); refine blk_far ?_ NB114_119.out _; (with_reducible repeat (first | refine blk_drewN ?_ _ | refine blk_drew ?_ | refine blk_alloc ?_ _)); exact BK114.out) k_ hk)); (case aO => exact ((Kd.R_nil _ _ _ _ (fun k_ => k_ ≠ gb114)))); (case aS => exact (below_size (by repeat (first | (with_reducible first | exact HB.out | apply below_alloc | apply pw_below_drewN | apply below_drew1 | refine below_set ?_ GE114.out | refine below_set ?_ GE115.out | refine below_set ?_ GE119.out) | exact HB.out)))); (case aL => have := LMc17.out; omega); intro v121 w23 ho hb hg hat; rw [← Ny120.out] at ho; have n0_ := Aside0.mk (blk_grown (g := gb114) (o := .cells #[.int .i64 a1_0, .int .i64 a1_1] 47 (0, 0)) (by (with_reducible repeat (first | refine blk_drewN ?_ _ | refine blk_drew ?_ | refine blk_alloc ?_ _)); refine blk_far ?_ NB114_119.out _; (with_reducible repeat (first | refine blk_drewN ?_ _ | refine blk_drew ?_ | refine blk_alloc ?_ _)); refine blk_far ?_ NB114_119.out _; (with_reducible repeat (first | refine blk_drewN ?_ _ | refine blk_drew ?_ | refine blk_alloc ?_ _)); refine blk_far ?_ NB114_119.out _; (with_reducible repeat (first | refine blk_drewN ?_ _ | refine blk_drew ?_ | refine blk_alloc ?_ _)); exact BK114.out) hg (by simp [Value.ownBlock])); have n1_ := Aside0.mk (blk_grown (g := gb115) (o := .cells #[.slice none 0 0, .slice none 0 0, .slice none 0 0] 54 (0, 0)) (by (with_reducible repeat (first | refine blk_drewN ?_ _ | refine blk_drew ?_ | refine blk_alloc ?_ _)); refine blk_far ?_ NB115_119.out _; (with_reducible repeat (first | refine blk_drewN ?_ _ | refine blk_drew ?_ | refine blk_alloc ?_ _)); refine blk_far ?_ NB115_119.out _; (with_reducible repeat (first | refine blk_drewN ?_ _ | refine blk_drew ?_ | refine blk_alloc ?_ _)); refine blk_far ?_ NB115_119.out _; (with_reducible repeat (first | refine blk_drewN ?_ _ | refine blk_drew ?_ | refine blk_alloc ?_ _)); exact BK115.out) hg (by simp [Value.ownBlock])); have n2_ := Aside0.mk (Kd.R_grown (by (with_reducible repeat (first | apply Kd.R_alloc | apply Kd.R_drewN | apply Kd.R_drew)); exact (Kd.R_mono (Kd.R_far (p := ⟨gb119, 2, none⟩) (Kd.R_far (p := ⟨gb119, 1, none⟩) (Kd.R_far (p := ⟨gb119, 0, none⟩) (Kd.R_types HO118.out BK119.out (by decide)) (fun _ hk => hk.2) (.slice Ao11 y116.length co11)) (fun _ hk => hk.2) (.slice none 0 0)) (fun _ hk => hk.2) (.slice none 0 0)) (fun _ h_ => h_.1))) hg (fun _ _ => by simp [Value.ownBlock])); have n3_ := Aside0.mk (blk_grown (g := gb119) (o := .cells #[.slice Ao11 y116.length co11, .slice none 0 0, .slice none 0 0] 54 (0, 0)) (by (with_reducible repeat (first | refine blk_drewN ?_ _ | refine blk_drew ?_ | refine blk_alloc ?_ _)); refine blk_put (cs := #[.slice Ao11 y116.length co11, .slice none 0 0, .slice none 0 0]) ?_ 2 _ rfl; (with_reducible repeat (first | refine blk_drewN ?_ _ | refine blk_drew ?_ | refine blk_alloc ?_ _)); refine blk_put (cs := #[.slice Ao11 y116.length co11, .slice none 0 0, .slice none 0 0]) ?_ 1 _ rfl; (with_reducible repeat (first | refine blk_drewN ?_ _ | refine blk_drew ?_ | refine blk_alloc ?_ _)); refine blk_put (cs := #[.slice none 0 0, .slice none 0 0, .slice none 0 0]) ?_ 0 _ rfl; (with_reducible repeat (first | refine blk_drewN ?_ _ | refine blk_drew ?_ | refine blk_alloc ?_ _)); exact BK119.out) hg (by simp [Value.ownBlock])); have n4_ := Aside0.mk (hb); have n5_ := Aside0.mk (ho); clear BK114; clear BK115; clear HO118; clear BK119; clear HB; have BK114 := n0_; have BK115 := n1_; have HO118 := n2_; have BK119 := n3_; have HB := n4_; have HO122 := n5_; clear n0_ n1_ n2_ n3_ n4_ n5_; clear ho hb hg hat; obtain ⟨Ao24, co24, eo24⟩ := Kd.R_slice HO122.out; subst eo24; have hcz25_0 : w23.cell? ⟨gb119, 0, none⟩ = some (.slice Ao11 y116.length co11) := (blk_cell BK119.out 0).trans rfl; have hcz25_1 : w23.cell? ⟨gb119, 1, none⟩ = some (.slice none 0 0) := (blk_cell BK119.out 1).trans rfl; have hcz25_2 : w23.cell? ⟨gb119, 2, none⟩ = some (.slice none 0 0) := (blk_cell BK119.out 2).trans rfl; have hfz25_0 := blk_frozen BK119.out 0; have hfz25_1 := blk_frozen BK119.out 1; have hfz25_2 := blk_frozen BK119.out 2))
        go_meet
        case rel => exact ⟨_, (y120), (([] : List Int)), (.slice Ao24 y120.length co24), (.slice none 0 0), H', ⟨by first | omega | exact Nat.le_refl _⟩, ⟨by (with_reducible repeat (first | apply Kd.R_alloc | apply Kd.R_drewN | apply Kd.R_drew)); exact Kd.R_mono (Kd.R_far (p := ⟨gb119, 1, none⟩) (Kd.R_types HO118.out BK119.out (by decide)) (fun _ hk => hk.2) (.slice Ao24 y120.length co24)) (fun _ hk => (by simp [Value.ownBlock]))⟩, ⟨by (with_reducible repeat (first | apply Kd.R_alloc | apply Kd.R_drewN | apply Kd.R_drew)); exact Kd.R_mono (Kd.R_far (p := ⟨gb119, 1, none⟩) (Kd.R_types HO122.out BK119.out (by decide)) (fun _ hk => hk.2) (.slice Ao24 y120.length co24)) (fun _ hk => hk.1)⟩, ⟨by first | exact Kd.R_nil _ _ _ _ _ | exact Kd.N_nil _ _ _ _ _ | exact Kd.V_nil _ _ _ _ _ | exact Kd.Q_nil _ _ _ _ _ | exact Kd.S_nil _ _ _ _ _⟩, ⟨by (with_reducible repeat (first | refine blk_drewN ?_ _ | refine blk_drew ?_ | refine blk_alloc ?_ _)); refine blk_far ?_ NB114_119.out _; (with_reducible repeat (first | refine blk_drewN ?_ _ | refine blk_drew ?_ | refine blk_alloc ?_ _)); exact BK114.out⟩, ⟨by (with_reducible repeat (first | refine blk_drewN ?_ _ | refine blk_drew ?_ | refine blk_alloc ?_ _)); refine blk_far ?_ NB115_119.out _; (with_reducible repeat (first | refine blk_drewN ?_ _ | refine blk_drew ?_ | refine blk_alloc ?_ _)); exact BK115.out⟩, ⟨by (with_reducible repeat (first | refine blk_drewN ?_ _ | refine blk_drew ?_ | refine blk_alloc ?_ _)); refine blk_put (cs := #[.slice Ao11 y116.length co11, .slice none 0 0, .slice none 0 0]) ?_ 1 _ rfl; (with_reducible repeat (first | refine blk_drewN ?_ _ | refine blk_drew ?_ | refine blk_alloc ?_ _)); exact BK119.out⟩, ⟨by repeat (first | (with_reducible first | exact HB.out | apply below_alloc | apply pw_below_drewN | apply below_drew1 | refine below_set ?_ GE114.out | refine below_set ?_ GE115.out | refine below_set ?_ GE119.out) | exact HB.out)⟩⟩
      · rw [if_neg c17] at H
        exact absurd H (by simp)
    · replace c16 := Bool.eq_false_iff.mpr c16
      subst c16
      have H1 : (if ([] : List Int).length < 17592186044416 then (impl_regionInside.j0 k l0 false a1_0 a1_1 y116 ([] : List (S47)) (([] : List Int) ++ [a1_1])) else (none)) = some (r1, r2, r3) := by rw [if_neg (show ¬ (false = true) by decide)] at H; exact H
      clear H
      have H := H1
      clear H1
      by_cases c26 : ([] : List Int).length < 17592186044416
      · rw [if_pos c26] at H
        have LMc26 := Aside0.mk c26
        clear c26
        obtain ⟨y123, hy123⟩ : ∃ y_ : List Int, y_ = (([] : List Int) ++ [a1_1]) := ⟨_, rfl⟩
        replace H : (impl_regionInside.j0 k l0 false a1_0 a1_1 y116 ([] : List (S47)) y123) = some (r1, r2, r3) := by first | (rw [hy123]; with_reducible exact H) | (have H2_ := (Option.bind_some _ _).symm.trans H; rw [hy123]; with_reducible exact H2_) | (have H2_ := (Option.bind_some _ _).symm.trans H; with_reducible exact H2_) | with_reducible exact H | (rw [hy123]; exact H) | exact H
        have Ny123 := Aside0.mk hy123
        clear hy123
        have H' := Aside0.mk H
        clear H
        have hnb27 := NB119_114.out
        have hnc27 := NB114_119.out
        have hnb28 := NB119_115.out
        have hnc28 := NB115_119.out
        have hcz29_0 : w12.cell? ⟨gb119, 0, none⟩ = some (.slice none 0 0) := (blk_cell BK119.out 0).trans rfl
        have hcz29_1 : w12.cell? ⟨gb119, 1, none⟩ = some (.slice none 0 0) := (blk_cell BK119.out 1).trans rfl
        have hcz29_2 : w12.cell? ⟨gb119, 2, none⟩ = some (.slice none 0 0) := (blk_cell BK119.out 2).trans rfl
        have hfz29_0 := blk_frozen BK119.out 0
        have hfz29_1 := blk_frozen BK119.out 1
        have hfz29_2 := blk_frozen BK119.out 2
        have hnb30 := NB114_115.out
        have hnc30 := NB115_114.out
        have hcz31_0 : w12.cell? ⟨gb114, 0, none⟩ = some (.int .i64 a1_0) := (blk_cell BK114.out 0).trans rfl
        have hcz31_1 : w12.cell? ⟨gb114, 1, none⟩ = some (.int .i64 a1_1) := (blk_cell BK114.out 1).trans rfl
        have hfz31_0 := blk_frozen BK114.out 0
        have hfz31_1 := blk_frozen BK114.out 1
        go_wp2_with (first | ((with_reducible refine gate_builtin (b := .append) (xs := #[.tmp 24, .tmp 27]) rfl ?_); at_builtin; refine Kd.R_append (Kd.int .i64) (w0 := w) w.heap.size rfl (.tmp 24) (.tmp 27) 24 3 (.int .i64 0) 8 rfl Try.underlying24 info3 rfl (by decide) (by omega) (.slice none 0 0) ([] : List Int) a1_1 [.int .i64 a1_1] (fun k_ => some k_ ≠ (.slice Ao11 y116.length co11 : Value).ownBlock) (fun _ => False) rfl (by first | (go_simp; done) | (go_simp; rfl)) ?aP (fun _ hk => hk.elim) ?aF ?aO ?aB ?aS ?aL ?_; (case aP => exact rfl); (case aB => exact (by repeat (first | (with_reducible first | exact HB.out | apply below_alloc | apply pw_below_drewN | apply below_drew1 | refine below_set ?_ GE114.out | refine below_set ?_ GE115.out | refine below_set ?_ GE119.out) | exact HB.out))); (case aF => exact (fun k_ hk => Kd.fresh' (Kd.R_lt (by (with_reducible repeat (first | apply Kd.R_alloc | apply Kd.R_drewN | apply Kd.R_drew)); exact (Kd.R_mono (Kd.R_far (p := ⟨gb119, 2, none⟩) (Kd.R_far (p := ⟨gb119, 1, none⟩) (Kd.R_far (p := ⟨gb119, 0, none⟩) (Kd.R_types HO118.out BK119.out (by decide)) (fun _ hk => hk.2) (.slice Ao11 y116.length co11)) (fun _ hk => hk.2) (.slice none 0 0)) (fun _ hk => hk.2) (.slice none 0 0)) (fun _ h_ => h_.1)))) k_ hk)); (case aO => exact ((Kd.R_nil _ _ _ _ (fun k_ => some k_ ≠ (.slice Ao11 y116.length co11 : Value).ownBlock)))); (case aS => exact (below_size (by repeat (first | (with_reducible first | exact HB.out | apply below_alloc | apply pw_below_drewN | apply below_drew1 | refine below_set ?_ GE114.out | refine below_set ?_ GE115.out | refine below_set ?_ GE119.out) | exact HB.out)))); (case aL => have := LMc26.out; omega); intro v124 w32 ho hb hg hat; rw [← Ny123.out] at ho; have n0_ := Aside0.mk (blk_grown (g := gb114) (o := .cells #[.int .i64 a1_0, .int .i64 a1_1] 47 (0, 0)) (by (with_reducible repeat (first | refine blk_drewN ?_ _ | refine blk_drew ?_ | refine blk_alloc ?_ _)); refine blk_far ?_ NB114_119.out _; (with_reducible repeat (first | refine blk_drewN ?_ _ | refine blk_drew ?_ | refine blk_alloc ?_ _)); refine blk_far ?_ NB114_119.out _; (with_reducible repeat (first | refine blk_drewN ?_ _ | refine blk_drew ?_ | refine blk_alloc ?_ _)); refine blk_far ?_ NB114_119.out _; (with_reducible repeat (first | refine blk_drewN ?_ _ | refine blk_drew ?_ | refine blk_alloc ?_ _)); exact BK114.out) hg (by simp [Value.ownBlock])); have n1_ := Aside0.mk (blk_grown (g := gb115) (o := .cells #[.slice none 0 0, .slice none 0 0, .slice none 0 0] 54 (0, 0)) (by (with_reducible repeat (first | refine blk_drewN ?_ _ | refine blk_drew ?_ | refine blk_alloc ?_ _)); refine blk_far ?_ NB115_119.out _; (with_reducible repeat (first | refine blk_drewN ?_ _ | refine blk_drew ?_ | refine blk_alloc ?_ _)); refine blk_far ?_ NB115_119.out _; (with_reducible repeat (first | refine blk_drewN ?_ _ | refine blk_drew ?_ | refine blk_alloc ?_ _)); refine blk_far ?_ NB115_119.out _; (with_reducible repeat (first | refine blk_drewN ?_ _ | refine blk_drew ?_ | refine blk_alloc ?_ _)); exact BK115.out) hg (by simp [Value.ownBlock])); have n2_ := Aside0.mk (Kd.R_after (Kd.R_apart_nil (by (with_reducible repeat (first | apply Kd.R_alloc | apply Kd.R_drewN | apply Kd.R_drew)); exact (Kd.R_mono (Kd.R_far (p := ⟨gb119, 2, none⟩) (Kd.R_far (p := ⟨gb119, 1, none⟩) (Kd.R_far (p := ⟨gb119, 0, none⟩) (Kd.R_types HO118.out BK119.out (by decide)) (fun _ hk => hk.2) (.slice Ao11 y116.length co11)) (fun _ hk => hk.2) (.slice none 0 0)) (fun _ hk => hk.2) (.slice none 0 0)) (fun _ h_ => h_.1)))) hg hat); have n3_ := Aside0.mk (blk_grown (g := gb119) (o := .cells #[.slice Ao11 y116.length co11, .slice none 0 0, .slice none 0 0] 54 (0, 0)) (by (with_reducible repeat (first | refine blk_drewN ?_ _ | refine blk_drew ?_ | refine blk_alloc ?_ _)); refine blk_put (cs := #[.slice Ao11 y116.length co11, .slice none 0 0, .slice none 0 0]) ?_ 2 _ rfl; (with_reducible repeat (first | refine blk_drewN ?_ _ | refine blk_drew ?_ | refine blk_alloc ?_ _)); refine blk_put (cs := #[.slice Ao11 y116.length co11, .slice none 0 0, .slice none 0 0]) ?_ 1 _ rfl; (with_reducible repeat (first | refine blk_drewN ?_ _ | refine blk_drew ?_ | refine blk_alloc ?_ _)); refine blk_put (cs := #[.slice none 0 0, .slice none 0 0, .slice none 0 0]) ?_ 0 _ rfl; (with_reducible repeat (first | refine blk_drewN ?_ _ | refine blk_drew ?_ | refine blk_alloc ?_ _)); exact BK119.out) hg (by simp [Value.ownBlock])); have n4_ := Aside0.mk (hb); have n5_ := Aside0.mk (ho); clear BK114; clear BK115; clear HO118; clear BK119; clear HB; have BK114 := n0_; have BK115 := n1_; have HO118 := n2_; have BK119 := n3_; have HB := n4_; have HO125 := n5_; clear n0_ n1_ n2_ n3_ n4_ n5_; clear ho hb hg hat; obtain ⟨Ao33, co33, eo33⟩ := Kd.R_slice HO125.out; subst eo33; have hcz34_0 : w32.cell? ⟨gb119, 0, none⟩ = some (.slice Ao11 y116.length co11) := (blk_cell BK119.out 0).trans rfl; have hcz34_1 : w32.cell? ⟨gb119, 1, none⟩ = some (.slice none 0 0) := (blk_cell BK119.out 1).trans rfl; have hcz34_2 : w32.cell? ⟨gb119, 2, none⟩ = some (.slice none 0 0) := (blk_cell BK119.out 2).trans rfl; have hfz34_0 := blk_frozen BK119.out 0; have hfz34_1 := blk_frozen BK119.out 1; have hfz34_2 := blk_frozen BK119.out 2))
        go_meet
        case rel => exact ⟨_, (([] : List (S47))), (y123), (.slice none 0 0), (.slice Ao33 y123.length co33), H', ⟨by first | omega | exact Nat.le_refl _⟩, ⟨by (with_reducible repeat (first | apply Kd.R_alloc | apply Kd.R_drewN | apply Kd.R_drew)); exact Kd.R_mono (Kd.R_far (p := ⟨gb119, 2, none⟩) (Kd.R_types HO118.out BK119.out (by decide)) (fun _ hk => hk.2) (.slice Ao33 y123.length co33)) (fun _ hk => hk.1.2)⟩, ⟨by first | exact Kd.R_nil _ _ _ _ _ | exact Kd.N_nil _ _ _ _ _ | exact Kd.V_nil _ _ _ _ _ | exact Kd.Q_nil _ _ _ _ _ | exact Kd.S_nil _ _ _ _ _⟩, ⟨by (with_reducible repeat (first | apply Kd.R_alloc | apply Kd.R_drewN | apply Kd.R_drew)); exact Kd.R_mono (Kd.R_far (p := ⟨gb119, 2, none⟩) (Kd.R_types HO125.out BK119.out (by decide)) (fun _ hk => hk.2) (.slice Ao33 y123.length co33)) (fun _ hk => hk.1)⟩, ⟨by (with_reducible repeat (first | refine blk_drewN ?_ _ | refine blk_drew ?_ | refine blk_alloc ?_ _)); refine blk_far ?_ NB114_119.out _; (with_reducible repeat (first | refine blk_drewN ?_ _ | refine blk_drew ?_ | refine blk_alloc ?_ _)); exact BK114.out⟩, ⟨by (with_reducible repeat (first | refine blk_drewN ?_ _ | refine blk_drew ?_ | refine blk_alloc ?_ _)); refine blk_far ?_ NB115_119.out _; (with_reducible repeat (first | refine blk_drewN ?_ _ | refine blk_drew ?_ | refine blk_alloc ?_ _)); exact BK115.out⟩, ⟨by (with_reducible repeat (first | refine blk_drewN ?_ _ | refine blk_drew ?_ | refine blk_alloc ?_ _)); refine blk_put (cs := #[.slice Ao11 y116.length co11, .slice none 0 0, .slice none 0 0]) ?_ 2 _ rfl; (with_reducible repeat (first | refine blk_drewN ?_ _ | refine blk_drew ?_ | refine blk_alloc ?_ _)); exact BK119.out⟩, ⟨by repeat (first | (with_reducible first | exact HB.out | apply below_alloc | apply pw_below_drewN | apply below_drew1 | refine below_set ?_ GE114.out | refine below_set ?_ GE115.out | refine below_set ?_ GE119.out) | exact HB.out)⟩⟩
      · rw [if_neg c26] at H
        exact absurd H (by simp)
  case rest =>
    clear HC4
    try clear c1
    try clear c2
    try clear p2
    try clear c3
    try clear c6
    try clear c7
    try clear c13
    try clear c14
    try clear c16
    try clear c17
    try clear c18
    try clear c19
    try clear c21
    try clear c26
    try clear c27
    try clear c28
    try clear c30
    try clear hcz15_0
    try clear hcz15_1
    try clear hcz15_2
    try clear hcz20_0
    try clear hcz20_1
    try clear hcz20_2
    try clear hcz22_0
    try clear hcz22_1
    try clear hcz25_0
    try clear hcz25_1
    try clear hcz25_2
    try clear hcz29_0
    try clear hcz29_1
    try clear hcz29_2
    try clear hcz31_0
    try clear hcz31_1
    try clear hcz34_0
    try clear hcz34_1
    try clear hcz34_2
    try clear hcz8_0
    try clear hcz8_1
    try clear hfz15_0
    try clear hfz15_1
    try clear hfz15_2
    try clear hfz20_0
    try clear hfz20_1
    try clear hfz20_2
    try clear hfz22_0
    try clear hfz22_1
    try clear hfz25_0
    try clear hfz25_1
    try clear hfz25_2
    try clear hfz29_0
    try clear hfz29_1
    try clear hfz29_2
    try clear hfz31_0
    try clear hfz31_1
    try clear hfz34_0
    try clear hfz34_1
    try clear hfz34_2
    try clear hfz8_0
    try clear hfz8_1
    obtain ⟨kq, x120001_3, x120002_3, u120001, u120002, HA, HJ3, HO_120000, HO_120001, HO_120002, BK114, BK115, BK119, HB⟩ := hcut
    cases kq with
    | zero => exact absurd HA.out (by simp [impl_regionInside.j0])
    | succ kj3 =>
      have H := HA.out
      clear HA
      simp only [impl_regionInside.j0] at H
      have H' := Aside0.mk H
      clear H
      have hnb35 := NB114_115.out
      have hnc35 := NB115_114.out
      have hnb36 := NB114_119.out
      have hnc36 := NB119_114.out
      have hcz37_0 : wc.cell? ⟨gb114, 0, none⟩ = some (.int .i64 a1_0) := (blk_cell BK114.out 0).trans rfl
      have hcz37_1 : wc.cell? ⟨gb114, 1, none⟩ = some (.int .i64 a1_1) := (blk_cell BK114.out 1).trans rfl
      have hfz37_0 := blk_frozen BK114.out 0
      have hfz37_1 := blk_frozen BK114.out 1
      go_wp2
      go_loopg [8] kj3 (fun kq v8 w' => ∃ (x8_2 : Int) (x120000_2 : List Int) (x120001_2 : List (S47)) (x120002_2 : List Int) (u120000 : Value) (u120001 : Value) (u120002 : Value), v8 = .int .i64 x8_2 ∧ Aside0 (impl_regionInside.l0 kq l0 a2 x8_2 a1_0 a1_1 x120000_2 x120001_2 x120002_2 = some (r1, r2, r3)) ∧ Aside0 (kq ≤ kj3) ∧ Aside0 (Kd.R (Kd.int .i64) 3 w' w.heap.size (fun k_ => some k_ ≠ (u120002 : Value).ownBlock) u120000 x120000_2) ∧ Aside0 (Kd.R k47 47 w' w.heap.size (fun k_ => k_ ≠ gb114) u120001 x120001_2) ∧ Aside0 (Kd.R (Kd.int .i64) 3 w' w.heap.size (fun k_ => some k_ ≠ (u120000 : Value).ownBlock) u120002 x120002_2) ∧ Aside0 (w'.heap[gb114]? = some (.cells #[.int .i64 a1_0, .int .i64 a1_1] 47 (0, 0))) ∧ Aside0 (w'.heap[gb115]? = some (.cells #[(.slice none 0 0), (.slice none 0 0), (.slice none 0 0)] 54 (0, 0))) ∧ Aside0 (w'.heap[gb119]? = some (.cells #[u120000, u120001, u120002] 54 (0, 0))) ∧ Aside0 (Below w.heap.size w w'))
      case atStart => exact ⟨(a1_0), (y116), (x120001_3), (x120002_3), (.slice Ao11 y116.length co11), (u120001), (u120002), (by first | rfl | (simp; done) | (simp [*]; done)), H', ⟨Nat.le_refl _⟩, ⟨by (with_reducible repeat (first | apply Kd.R_alloc | apply Kd.R_drewN | apply Kd.R_drew)); exact HO_120000.out⟩, ⟨by (with_reducible repeat (first | apply Kd.R_alloc | apply Kd.R_drewN | apply Kd.R_drew)); exact HO_120001.out⟩, ⟨by (with_reducible repeat (first | apply Kd.R_alloc | apply Kd.R_drewN | apply Kd.R_drew)); exact HO_120002.out⟩, ⟨by (with_reducible repeat (first | refine blk_drewN ?_ _ | refine blk_drew ?_ | refine blk_alloc ?_ _)); exact BK114.out⟩, ⟨by (with_reducible repeat (first | refine blk_drewN ?_ _ | refine blk_drew ?_ | refine blk_alloc ?_ _)); exact BK115.out⟩, ⟨by (with_reducible repeat (first | refine blk_drewN ?_ _ | refine blk_drew ?_ | refine blk_alloc ?_ _)); exact BK119.out⟩, ⟨by repeat (first | (with_reducible first | exact HB.out | apply below_alloc | apply pw_below_drewN | apply below_drew1 | refine below_set ?_ GE114.out | refine below_set ?_ GE115.out | refine below_set ?_ GE119.out) | exact HB.out)⟩⟩
      case round =>
        clear H'
        try clear c1
        try clear c2
        try clear p2
        try clear c3
        try clear c6
        try clear c7
        try clear c13
        try clear c14
        try clear c16
        try clear c17
        try clear c18
        try clear c19
        try clear c21
        try clear c26
        try clear c27
        try clear c28
        try clear c30
        try clear c35
        try clear c36
        try clear hcz15_0
        try clear hcz15_1
        try clear hcz15_2
        try clear hcz20_0
        try clear hcz20_1
        try clear hcz20_2
        try clear hcz22_0
        try clear hcz22_1
        try clear hcz25_0
        try clear hcz25_1
        try clear hcz25_2
        try clear hcz29_0
        try clear hcz29_1
        try clear hcz29_2
        try clear hcz31_0
        try clear hcz31_1
        try clear hcz34_0
        try clear hcz34_1
        try clear hcz34_2
        try clear hcz37_0
        try clear hcz37_1
        try clear hcz8_0
        try clear hcz8_1
        try clear hfz15_0
        try clear hfz15_1
        try clear hfz15_2
        try clear hfz20_0
        try clear hfz20_1
        try clear hfz20_2
        try clear hfz22_0
        try clear hfz22_1
        try clear hfz25_0
        try clear hfz25_1
        try clear hfz25_2
        try clear hfz29_0
        try clear hfz29_1
        try clear hfz29_2
        try clear hfz31_0
        try clear hfz31_1
        try clear hfz34_0
        try clear hfz34_1
        try clear hfz34_2
        try clear hfz37_0
        try clear hfz37_1
        try clear hfz8_0
        try clear hfz8_1
        try clear p2
        obtain ⟨x8_2, x120000_2, x120001_2, x120002_2, u120000, u120001, u120002, rfl, HA, HK2, HO_120000, HO_120001, HO_120002, BK114, BK115, BK119, HB⟩ := hrel
        cases gk with
        | zero => exact absurd HA.out (by simp [impl_regionInside.l0])
        | succ k2 =>
          have H := HA.out
          clear HA
          simp only [impl_regionInside.l0] at H
          by_cases c38 : x8_2 < a1_1
          · rw [if_pos c38] at H
            have c38b0 : decide (x8_2 < a1_1) = true := decide_eq_true c38
            clear c38
            have H' := Aside0.mk H
            clear H
            have hnb39 := NB114_115.out
            have hnc39 := NB115_114.out
            have hnb40 := NB114_119.out
            have hnc40 := NB119_114.out
            have hcz41_0 : wr.cell? ⟨gb114, 0, none⟩ = some (.int .i64 a1_0) := (blk_cell BK114.out 0).trans rfl
            have hcz41_1 : wr.cell? ⟨gb114, 1, none⟩ = some (.int .i64 a1_1) := (blk_cell BK114.out 1).trans rfl
            have hfz41_0 := blk_frozen BK114.out 0
            have hfz41_1 := blk_frozen BK114.out 1
            go_wp2
            go_loopg [9, 39] k2 (fun kq v9 v39 w' => ∃ (x9_3 : Int) (x39_3 : Int), v9 = .int .i64 x9_3 ∧ v39 = .int .i64 x39_3 ∧ Aside0 (impl_regionInside.l1 kq l0 a2 x8_2 x9_3 l0 (l0.length : Int) x39_3 a1_0 a1_1 x120000_2 x120001_2 x120002_2 = some (r1, r2, r3)) ∧ Aside0 (kq ≤ k2) ∧ Aside0 (Kd.R (Kd.int .i64) 3 w' w.heap.size (fun k_ => some k_ ≠ (u120002 : Value).ownBlock) u120000 x120000_2) ∧ Aside0 (Kd.R k47 47 w' w.heap.size (fun k_ => k_ ≠ gb114) u120001 x120001_2) ∧ Aside0 (Kd.R (Kd.int .i64) 3 w' w.heap.size (fun k_ => some k_ ≠ (u120000 : Value).ownBlock) u120002 x120002_2) ∧ Aside0 (w'.heap[gb114]? = some (.cells #[.int .i64 a1_0, .int .i64 a1_1] 47 (0, 0))) ∧ Aside0 (w'.heap[gb115]? = some (.cells #[(.slice none 0 0), (.slice none 0 0), (.slice none 0 0)] 54 (0, 0))) ∧ Aside0 (w'.heap[gb119]? = some (.cells #[u120000, u120001, u120002] 54 (0, 0))) ∧ Aside0 (Below w.heap.size w w'))
            case atStart => exact ⟨(x8_2), (0), (by first | rfl | (simp; done) | (simp [*]; done)), (by first | rfl | (simp; done) | (simp [*]; done)), H', ⟨Nat.le_refl _⟩, ⟨by (with_reducible repeat (first | apply Kd.R_alloc | apply Kd.R_drewN | apply Kd.R_drew)); exact HO_120000.out⟩, ⟨by (with_reducible repeat (first | apply Kd.R_alloc | apply Kd.R_drewN | apply Kd.R_drew)); exact HO_120001.out⟩, ⟨by (with_reducible repeat (first | apply Kd.R_alloc | apply Kd.R_drewN | apply Kd.R_drew)); exact HO_120002.out⟩, ⟨by (with_reducible repeat (first | refine blk_drewN ?_ _ | refine blk_drew ?_ | refine blk_alloc ?_ _)); exact BK114.out⟩, ⟨by (with_reducible repeat (first | refine blk_drewN ?_ _ | refine blk_drew ?_ | refine blk_alloc ?_ _)); exact BK115.out⟩, ⟨by (with_reducible repeat (first | refine blk_drewN ?_ _ | refine blk_drew ?_ | refine blk_alloc ?_ _)); exact BK119.out⟩, ⟨by repeat (first | (with_reducible first | exact HB.out | apply below_alloc | apply pw_below_drewN | apply below_drew1 | refine below_set ?_ GE114.out | refine below_set ?_ GE115.out | refine below_set ?_ GE119.out) | exact HB.out)⟩⟩
            case round =>
              clear H'
              try clear c1
              try clear c2
              try clear p2
              try clear c3
              try clear c4
              try clear c6
              try clear c7
              try clear c13
              try clear c14
              try clear c16
              try clear c17
              try clear c18
              try clear c19
              try clear c21
              try clear c26
              try clear c27
              try clear c28
              try clear c30
              try clear c35
              try clear c36
              try clear c38
              try clear c38b0
              try clear c39
              try clear c40
              try clear hcz15_0
              try clear hcz15_1
              try clear hcz15_2
              try clear hcz20_0
              try clear hcz20_1
              try clear hcz20_2
              try clear hcz22_0
              try clear hcz22_1
              try clear hcz25_0
              try clear hcz25_1
              try clear hcz25_2
              try clear hcz29_0
              try clear hcz29_1
              try clear hcz29_2
              try clear hcz31_0
              try clear hcz31_1
              try clear hcz34_0
              try clear hcz34_1
              try clear hcz34_2
              try clear hcz37_0
              try clear hcz37_1
              try clear hcz41_0
              try clear hcz41_1
              try clear hcz8_0
              try clear hcz8_1
              try clear hfz15_0
              try clear hfz15_1
              try clear hfz15_2
              try clear hfz20_0
              try clear hfz20_1
              try clear hfz20_2
              try clear hfz22_0
              try clear hfz22_1
              try clear hfz25_0
              try clear hfz25_1
              try clear hfz25_2
              try clear hfz29_0
              try clear hfz29_1
              try clear hfz29_2
              try clear hfz31_0
              try clear hfz31_1
              try clear hfz34_0
              try clear hfz34_1
              try clear hfz34_2
              try clear hfz37_0
              try clear hfz37_1
              try clear hfz41_0
              try clear hfz41_1
              try clear hfz8_0
              try clear hfz8_1
              try clear p2
              obtain ⟨x9_3, x39_3, rfl, rfl, HA, HK3, HO_120000, HO_120001, HO_120002, BK114, BK115, BK119, HB⟩ := hrel
              cases gk with
              | zero => exact absurd HA.out (by simp [impl_regionInside.l1])
              | succ k3 =>
                have H := HA.out
                clear HA
                simp only [impl_regionInside.l1] at H
                by_cases c42 : x39_3 < (l0.length : Int)
                · rw [if_pos c42] at H
                  have c42b0 : decide (x39_3 < (l0.length : Int)) = true := decide_eq_true c42
                  clear c42
                  by_cases c43 : 0 ≤ x39_3
                  · rw [if_pos c43] at H
                    have c43b0 : decide (0 ≤ x39_3) = true := decide_eq_true c43
                    clear c43
                    by_cases c44 : x39_3 < (l0.length : Int)
                    · rw [if_pos c44] at H
                      have c44b0 : decide (x39_3 < (l0.length : Int)) = true := decide_eq_true c44
                      clear c44
                      by_cases c45 : ((rd_T47 l0 x39_3).f0) = x8_2
                      · rw [if_pos c45] at H
                        have c45b0 : (((rd_T47 l0 x39_3).f0) == x8_2) = true := beq_iff_eq.mpr c45
                        have c45b1 : (((rd_T47 l0 x39_3).f0) != x8_2) = false := bne_eq_false_iff_eq.mpr c45
                        clear c45
                        by_cases c46 : ((rd_T47 l0 x39_3).f1) ≤ a1_1
                        · rw [if_pos c46] at H
                          have c46b0 : decide (((rd_T47 l0 x39_3).f1) ≤ a1_1) = true := decide_eq_true c46
                          clear c46
                          by_cases c47 : ((rd_T47 l0 x39_3).f1) > x9_3
                          · rw [if_pos c47] at H
                            have c47b0 : decide (x9_3 < ((rd_T47 l0 x39_3).f1)) = true := decide_eq_true c47
                            clear c47
                            by_cases c48 : a2 = true
                            · subst c48
                              have H1 : (if ((((rd_T47 l0 x39_3).f0) == a1_0 && (((rd_T47 l0 x39_3).f1) == a1_1)) = true) then (impl_regionInside.l1 k3 l0 true x8_2 x9_3 l0 (l0.length : Int) (wrap64 (x39_3 + 1)) a1_0 a1_1 x120000_2 x120001_2 x120002_2) else (impl_regionInside.l1 k3 l0 true x8_2 ((rd_T47 l0 x39_3).f1) l0 (l0.length : Int) (wrap64 (x39_3 + 1)) a1_0 a1_1 x120000_2 x120001_2 x120002_2)) = some (r1, r2, r3) := by rw [if_pos rfl] at H; exact H
                              clear H
                              have H := H1
                              clear H1
                              by_cases c49 : ((((rd_T47 l0 x39_3).f0) == a1_0 && (((rd_T47 l0 x39_3).f1) == a1_1)) = true)
                              · rw [if_pos c49] at H
                                have c49b0 : (((rd_T47 l0 x39_3).f0) == a1_0 && (((rd_T47 l0 x39_3).f1) == a1_1)) = true := c49
                                (try (have c49b1 : decide (((rd_T47 l0 x39_3).f0) = a1_0 && (((rd_T47 l0 x39_3).f1) == a1_1)) = true := by simpa using c49))
                                (try (have c49b2 : (((rd_T47 l0 x39_3).f0) == a1_0 && (((rd_T47 l0 x39_3).f1) == a1_1)) = true := by simpa using c49))
                                clear c49
                                have H' := Aside0.mk H
                                clear H
                                have p126 : 0 ≤ (x39_3 : Int) := of_decide_eq_true (by first | (with_reducible assumption) | assumption)
                                have q126 : x39_3 < (l0.length : Int) := of_decide_eq_true (by first | (with_reducible assumption) | assumption)
                                obtain ⟨ad126, e126, hx126_0, hx126_1⟩ := at_T47 HR0.out x39_3 p126 q126
                                cases e126
                                replace hx126_0 := (HB.out.cell (World.block_lt_of_cell? w _ hx126_0)).trans hx126_0
                                replace hx126_1 := (HB.out.cell (World.block_lt_of_cell? w _ hx126_1)).trans hx126_1
                                replace p126 := eq_true p126
                                replace q126 := eq_true q126
                                go_wp2_with (first | ((with_reducible refine gate_dst (N := 11) rfl ?_); refine box_event ?hg (N := 11) ?hd (cs := #[.int .i64 0, .int .i64 0]) (t := 47) ?hr ?_; (case hd => rfl); (case hg => rfl); (case hr => first | (go_simp; done) | (go_simp; rfl)); intro gb127 hg w50 hbox hb; have n0_ := Aside0.mk (Kd.R_below (by (with_reducible repeat (first | apply Kd.R_alloc | apply Kd.R_drewN | apply Kd.R_drew)); exact HO_120000.out) hb); have n1_ := Aside0.mk (Kd.R_below (Kd.R_elderB (by (with_reducible repeat (first | apply Kd.R_alloc | apply Kd.R_drewN | apply Kd.R_drew)); exact HO_120001.out) gb127 (Nat.le_of_eq hg.symm)) hb); have n2_ := Aside0.mk (Kd.R_below (by (with_reducible repeat (first | apply Kd.R_alloc | apply Kd.R_drewN | apply Kd.R_drew)); exact HO_120002.out) hb); have n3_ := Aside0.mk (blk_below (g := gb114) (o := .cells #[.int .i64 a1_0, .int .i64 a1_1] 47 (0, 0)) (by (with_reducible repeat (first | refine blk_drewN ?_ _ | refine blk_drew ?_ | refine blk_alloc ?_ _)); exact BK114.out) hb); have n4_ := Aside0.mk (blk_below (g := gb115) (o := .cells #[.slice none 0 0, .slice none 0 0, .slice none 0 0] 54 (0, 0)) (by (with_reducible repeat (first | refine blk_drewN ?_ _ | refine blk_drew ?_ | refine blk_alloc ?_ _)); exact BK115.out) hb); have n5_ := Aside0.mk (blk_below (g := gb119) (o := .cells #[u120000, u120001, u120002] 54 (0, 0)) (by (with_reducible repeat (first | refine blk_drewN ?_ _ | refine blk_drew ?_ | refine blk_alloc ?_ _)); exact BK119.out) hb); have n6_ := Aside0.mk (below_step (by repeat (first | (with_reducible first | exact HB.out | apply below_alloc | apply pw_below_drewN | apply below_drew1 | refine below_set ?_ GE114.out | refine below_set ?_ GE115.out | refine below_set ?_ GE119.out) | exact HB.out)) hb); have n7_ := Aside0.mk (hbox); have n8_ := Aside0.mk ((by rw [hg]; exact (below_size (by repeat (first | (with_reducible first | exact HB.out | apply below_alloc | apply pw_below_drewN | apply below_drew1 | refine below_set ?_ GE114.out | refine below_set ?_ GE115.out | refine below_set ?_ GE119.out) | exact HB.out))) : w.heap.size ≤ gb127)); have n9_ := Aside0.mk ((by rw [hg]; exact (below_size (by repeat (first | (with_reducible first | exact HB.out | apply below_alloc | apply pw_below_drewN | apply below_drew1 | refine below_set ?_ GE114.out | refine below_set ?_ GE115.out | refine below_set ?_ GE119.out) | exact HB.out))) : w.heap.size ≤ gb127)); have n10_ := Aside0.mk ((by rw [hg]; exact Nat.ne_of_lt (blk_lt (g := gb114) (o := .cells #[.int .i64 a1_0, .int .i64 a1_1] 47 (0, 0)) (by (with_reducible repeat (first | refine blk_drewN ?_ _ | refine blk_drew ?_ | refine blk_alloc ?_ _)); exact BK114.out)) : gb114 ≠ gb127)); have n11_ := Aside0.mk ((by rw [hg]; exact Nat.ne_of_gt (blk_lt (g := gb114) (o := .cells #[.int .i64 a1_0, .int .i64 a1_1] 47 (0, 0)) (by (with_reducible repeat (first | refine blk_drewN ?_ _ | refine blk_drew ?_ | refine blk_alloc ?_ _)); exact BK114.out)) : gb127 ≠ gb114)); have n12_ := Aside0.mk ((by rw [hg]; exact Nat.ne_of_lt (blk_lt (g := gb115) (o := .cells #[.slice none 0 0, .slice none 0 0, .slice none 0 0] 54 (0, 0)) (by (with_reducible repeat (first | refine blk_drewN ?_ _ | refine blk_drew ?_ | refine blk_alloc ?_ _)); exact BK115.out)) : gb115 ≠ gb127)); have n13_ := Aside0.mk ((by rw [hg]; exact Nat.ne_of_gt (blk_lt (g := gb115) (o := .cells #[.slice none 0 0, .slice none 0 0, .slice none 0 0] 54 (0, 0)) (by (with_reducible repeat (first | refine blk_drewN ?_ _ | refine blk_drew ?_ | refine blk_alloc ?_ _)); exact BK115.out)) : gb127 ≠ gb115)); have n14_ := Aside0.mk ((by rw [hg]; exact Nat.ne_of_lt (blk_lt (g := gb119) (o := .cells #[u120000, u120001, u120002] 54 (0, 0)) (by (with_reducible repeat (first | refine blk_drewN ?_ _ | refine blk_drew ?_ | refine blk_alloc ?_ _)); exact BK119.out)) : gb119 ≠ gb127)); have n15_ := Aside0.mk ((by rw [hg]; exact Nat.ne_of_gt (blk_lt (g := gb119) (o := .cells #[u120000, u120001, u120002] 54 (0, 0)) (by (with_reducible repeat (first | refine blk_drewN ?_ _ | refine blk_drew ?_ | refine blk_alloc ?_ _)); exact BK119.out)) : gb127 ≠ gb119)); clear HO_120000; clear HO_120001; clear HO_120002; clear BK114; clear BK115; clear BK119; clear HB; have HO_120000 := n0_; have HO_120001 := n1_; have HO_120002 := n2_; have BK114 := n3_; have BK115 := n4_; have BK119 := n5_; have HB := n6_; have BK127 := n7_; have GW127 := n8_; have GE127 := n9_; have NB114_127 := n10_; have NB127_114 := n11_; have NB115_127 := n12_; have NB127_115 := n13_; have NB119_127 := n14_; have NB127_119 := n15_; clear n0_ n1_ n2_ n3_ n4_ n5_ n6_ n7_ n8_ n9_ n10_ n11_ n12_ n13_ n14_ n15_; clear hb hbox hg; have hnb51 := NB127_114.out; have hnc51 := NB114_127.out; have hnb52 := NB127_115.out; have hnc52 := NB115_127.out; have hnb53 := NB127_119.out; have hnc53 := NB119_127.out; have hcz54_0 : w50.cell? ⟨gb127, 0, none⟩ = some (.int .i64 0) := (blk_cell BK127.out 0).trans rfl; have hcz54_1 : w50.cell? ⟨gb127, 1, none⟩ = some (.int .i64 0) := (blk_cell BK127.out 1).trans rfl; have hfz54_0 := blk_frozen BK127.out 0; have hfz54_1 := blk_frozen BK127.out 1; have hnb55 := NB114_115.out; have hnc55 := NB115_114.out; have hnb56 := NB114_119.out; have hnc56 := NB119_114.out; have hcz57_0 : w50.cell? ⟨gb114, 0, none⟩ = some (.int .i64 a1_0) := (blk_cell BK114.out 0).trans rfl; have hcz57_1 : w50.cell? ⟨gb114, 1, none⟩ = some (.int .i64 a1_1) := (blk_cell BK114.out 1).trans rfl; have hfz57_0 := blk_frozen BK114.out 0; have hfz57_1 := blk_frozen BK114.out 1))
                                go_roundg k3
                                case measure => have := HJ3.out; have := HK2.out; have := HK3.out; omega
                                case rel => exact ⟨(x9_3), (wrap64 (x39_3 + 1)), (by first | rfl | (simp; done) | (simp [*]; done)), (by first | rfl | (simp; done) | (simp [*]; done)), H', ⟨by have := HJ3.out; have := HK2.out; have := HK3.out; omega⟩, ⟨by (with_reducible repeat (first | apply Kd.R_alloc | apply Kd.R_drewN | apply Kd.R_drew)); exact Kd.R_mono (Kd.R_far (p := ⟨gb127, 1, none⟩) (Kd.R_far (p := ⟨gb127, 0, none⟩) (Kd.R_types HO_120000.out BK127.out (by decide)) (fun _ hk => hk.2) (.int .i64 ((rd_T47 l0 x39_3).f0))) (fun _ hk => hk.2) (.int .i64 ((rd_T47 l0 x39_3).f1))) (fun _ hk => hk.1)⟩, ⟨by (with_reducible repeat (first | apply Kd.R_alloc | apply Kd.R_drewN | apply Kd.R_drew)); exact Kd.R_mono (Kd.R_far (p := ⟨gb127, 1, none⟩) (Kd.R_far (p := ⟨gb127, 0, none⟩) (Kd.R_mono HO_120001.out (fun k_ hk => (⟨hk, hk.2⟩ : _ ∧ k_ ≠ gb127))) (fun _ hk => hk.2) (.int .i64 ((rd_T47 l0 x39_3).f0))) (fun _ hk => hk.2) (.int .i64 ((rd_T47 l0 x39_3).f1))) (fun _ hk => hk.1.1)⟩, ⟨by (with_reducible repeat (first | apply Kd.R_alloc | apply Kd.R_drewN | apply Kd.R_drew)); exact Kd.R_mono (Kd.R_far (p := ⟨gb127, 1, none⟩) (Kd.R_far (p := ⟨gb127, 0, none⟩) (Kd.R_types HO_120002.out BK127.out (by decide)) (fun _ hk => hk.2) (.int .i64 ((rd_T47 l0 x39_3).f0))) (fun _ hk => hk.2) (.int .i64 ((rd_T47 l0 x39_3).f1))) (fun _ hk => hk.1)⟩, ⟨by (with_reducible repeat (first | refine blk_drewN ?_ _ | refine blk_drew ?_ | refine blk_alloc ?_ _)); refine blk_far ?_ NB114_127.out _; (with_reducible repeat (first | refine blk_drewN ?_ _ | refine blk_drew ?_ | refine blk_alloc ?_ _)); refine blk_far ?_ NB114_127.out _; (with_reducible repeat (first | refine blk_drewN ?_ _ | refine blk_drew ?_ | refine blk_alloc ?_ _)); exact BK114.out⟩, ⟨by (with_reducible repeat (first | refine blk_drewN ?_ _ | refine blk_drew ?_ | refine blk_alloc ?_ _)); refine blk_far ?_ NB115_127.out _; (with_reducible repeat (first | refine blk_drewN ?_ _ | refine blk_drew ?_ | refine blk_alloc ?_ _)); refine blk_far ?_ NB115_127.out _; (with_reducible repeat (first | refine blk_drewN ?_ _ | refine blk_drew ?_ | refine blk_alloc ?_ _)); exact BK115.out⟩, ⟨by (with_reducible repeat (first | refine blk_drewN ?_ _ | refine blk_drew ?_ | refine blk_alloc ?_ _)); refine blk_far ?_ NB119_127.out _; (with_reducible repeat (first | refine blk_drewN ?_ _ | refine blk_drew ?_ | refine blk_alloc ?_ _)); refine blk_far ?_ NB119_127.out _; (with_reducible repeat (first | refine blk_drewN ?_ _ | refine blk_drew ?_ | refine blk_alloc ?_ _)); exact BK119.out⟩, ⟨by repeat (first | (with_reducible first | exact HB.out | apply below_alloc | apply pw_below_drewN | apply below_drew1 | refine below_set ?_ GE114.out | refine below_set ?_ GE115.out | refine below_set ?_ GE119.out | refine below_set ?_ GE127.out) | exact HB.out)⟩⟩
                              · rw [if_neg c49] at H
                                have c49b0 : (((rd_T47 l0 x39_3).f0) == a1_0 && (((rd_T47 l0 x39_3).f1) == a1_1)) = false := by simpa using c49
                                (try (have c49b1 : decide (((rd_T47 l0 x39_3).f0) = a1_0 && (((rd_T47 l0 x39_3).f1) == a1_1)) = false := by simpa using c49))
                                (try (have c49b2 : (((rd_T47 l0 x39_3).f0) == a1_0 && (((rd_T47 l0 x39_3).f1) == a1_1)) = false := by simpa using c49))
                                (try (have c49b3 : ¬ (((rd_T47 l0 x39_3).f0) = a1_0 && (((rd_T47 l0 x39_3).f1) == a1_1)) := by simpa using c49))
                                clear c49
                                have H' := Aside0.mk H
                                clear H
                                have p126 : 0 ≤ (x39_3 : Int) := of_decide_eq_true (by first | (with_reducible assumption) | assumption)
                                have q126 : x39_3 < (l0.length : Int) := of_decide_eq_true (by first | (with_reducible assumption) | assumption)
                                obtain ⟨ad126, e126, hx126_0, hx126_1⟩ := at_T47 HR0.out x39_3 p126 q126
                                cases e126
                                replace hx126_0 := (HB.out.cell (World.block_lt_of_cell? w _ hx126_0)).trans hx126_0
                                replace hx126_1 := (HB.out.cell (World.block_lt_of_cell? w _ hx126_1)).trans hx126_1
                                replace p126 := eq_true p126
                                replace q126 := eq_true q126
                                go_wp2_with (first | ((with_reducible refine gate_dst (N := 11) rfl ?_); refine box_event ?hg (N := 11) ?hd (cs := #[.int .i64 0, .int .i64 0]) (t := 47) ?hr ?_; (case hd => rfl); (case hg => rfl); (case hr => first | (go_simp; done) | (go_simp; rfl)); intro gb127 hg w58 hbox hb; have n0_ := Aside0.mk (Kd.R_below (by (with_reducible repeat (first | apply Kd.R_alloc | apply Kd.R_drewN | apply Kd.R_drew)); exact HO_120000.out) hb); have n1_ := Aside0.mk (Kd.R_below (Kd.R_elderB (by (with_reducible repeat (first | apply Kd.R_alloc | apply Kd.R_drewN | apply Kd.R_drew)); exact HO_120001.out) gb127 (Nat.le_of_eq hg.symm)) hb); have n2_ := Aside0.mk (Kd.R_below (by (with_reducible repeat (first | apply Kd.R_alloc | apply Kd.R_drewN | apply Kd.R_drew)); exact HO_120002.out) hb); have n3_ := Aside0.mk (blk_below (g := gb114) (o := .cells #[.int .i64 a1_0, .int .i64 a1_1] 47 (0, 0)) (by (with_reducible repeat (first | refine blk_drewN ?_ _ | refine blk_drew ?_ | refine blk_alloc ?_ _)); exact BK114.out) hb); have n4_ := Aside0.mk (blk_below (g := gb115) (o := .cells #[.slice none 0 0, .slice none 0 0, .slice none 0 0] 54 (0, 0)) (by (with_reducible repeat (first | refine blk_drewN ?_ _ | refine blk_drew ?_ | refine blk_alloc ?_ _)); exact BK115.out) hb); have n5_ := Aside0.mk (blk_below (g := gb119) (o := .cells #[u120000, u120001, u120002] 54 (0, 0)) (by (with_reducible repeat (first | refine blk_drewN ?_ _ | refine blk_drew ?_ | refine blk_alloc ?_ _)); exact BK119.out) hb); have n6_ := Aside0.mk (below_step (by repeat (first | (with_reducible first | exact HB.out | apply below_alloc | apply pw_below_drewN | apply below_drew1 | refine below_set ?_ GE114.out | refine below_set ?_ GE115.out | refine below_set ?_ GE119.out) | exact HB.out)) hb); have n7_ := Aside0.mk (hbox); have n8_ := Aside0.mk ((by rw [hg]; exact (below_size (by repeat (first | (with_reducible first | exact HB.out | apply below_alloc | apply pw_below_drewN | apply below_drew1 | refine below_set ?_ GE114.out | refine below_set ?_ GE115.out | refine below_set ?_ GE119.out) | exact HB.out))) : w.heap.size ≤ gb127)); have n9_ := Aside0.mk ((by rw [hg]; exact (below_size (by repeat (first | (with_reducible first | exact HB.out | apply below_alloc | apply pw_below_drewN | apply below_drew1 | refine below_set ?_ GE114.out | refine below_set ?_ GE115.out | refine below_set ?_ GE119.out) | exact HB.out))) : w.heap.size ≤ gb127)); have n10_ := Aside0.mk ((by rw [hg]; exact Nat.ne_of_lt (blk_lt (g := gb114) (o := .cells #[.int .i64 a1_0, .int .i64 a1_1] 47 (0, 0)) (by (with_reducible repeat (first | refine blk_drewN ?_ _ | refine blk_drew ?_ | refine blk_alloc ?_ _)); exact BK114.out)) : gb114 ≠ gb127)); have n11_ := Aside0.mk ((by rw [hg]; exact Nat.ne_of_gt (blk_lt (g := gb114) (o := .cells #[.int .i64 a1_0, .int .i64 a1_1] 47 (0, 0)) (by (with_reducible repeat (first | refine blk_drewN ?_ _ | refine blk_drew ?_ | refine blk_alloc ?_ _)); exact BK114.out)) : gb127 ≠ gb114)); have n12_ := Aside0.mk ((by rw [hg]; exact Nat.ne_of_lt (blk_lt (g := gb115) (o := .cells #[.slice none 0 0, .slice none 0 0, .slice none 0 0] 54 (0, 0)) (by (with_reducible repeat (first | refine blk_drewN ?_ _ | refine blk_drew ?_ | refine blk_alloc ?_ _)); exact BK115.out)) : gb115 ≠ gb127)); have n13_ := Aside0.mk ((by rw [hg]; exact Nat.ne_of_gt (blk_lt (g := gb115) (o := .cells #[.slice none 0 0, .slice none 0 0, .slice none 0 0] 54 (0, 0)) (by (with_reducible repeat (first | refine blk_drewN ?_ _ | refine blk_drew ?_ | refine blk_alloc ?_ _)); exact BK115.out)) : gb127 ≠ gb115)); have n14_ := Aside0.mk ((by rw [hg]; exact Nat.ne_of_lt (blk_lt (g := gb119) (o := .cells #[u120000, u120001, u120002] 54 (0, 0)) (by (with_reducible repeat (first | refine blk_drewN ?_ _ | refine blk_drew ?_ | refine blk_alloc ?_ _)); exact BK119.out)) : gb119 ≠ gb127)); have n15_ := Aside0.mk ((by rw [hg]; exact Nat.ne_of_gt (blk_lt (g := gb119) (o := .cells #[u120000, u120001, u120002] 54 (0, 0)) (by (with_reducible repeat (first | refine blk_drewN ?_ _ | refine blk_drew ?_ | refine blk_alloc ?_ _)); exact BK119.out)) : gb127 ≠ gb119)); clear HO_120000; clear HO_120001; clear HO_120002; clear BK114; clear BK115; clear BK119; clear HB; have HO_120000 := n0_; have HO_120001 := n1_; have HO_120002 := n2_; have BK114 := n3_; have BK115 := n4_; have BK119 := n5_; have HB := n6_; have BK127 := n7_; have GW127 := n8_; have GE127 := n9_; have NB114_127 := n10_; have NB127_114 := n11_; have NB115_127 := n12_; have NB127_115 := n13_; have NB119_127 := n14_; have NB127_119 := n15_; clear n0_ n1_ n2_ n3_ n4_ n5_ n6_ n7_ n8_ n9_ n10_ n11_ n12_ n13_ n14_ n15_; clear hb hbox hg; have hnb59 := NB127_114.out; have hnc59 := NB114_127.out; have hnb60 := NB127_115.out; have hnc60 := NB115_127.out; have hnb61 := NB127_119.out; have hnc61 := NB119_127.out; have hcz62_0 : w58.cell? ⟨gb127, 0, none⟩ = some (.int .i64 0) := (blk_cell BK127.out 0).trans rfl; have hcz62_1 : w58.cell? ⟨gb127, 1, none⟩ = some (.int .i64 0) := (blk_cell BK127.out 1).trans rfl; have hfz62_0 := blk_frozen BK127.out 0; have hfz62_1 := blk_frozen BK127.out 1; have hnb63 := NB114_115.out; have hnc63 := NB115_114.out; have hnb64 := NB114_119.out; have hnc64 := NB119_114.out; have hcz65_0 : w58.cell? ⟨gb114, 0, none⟩ = some (.int .i64 a1_0) := (blk_cell BK114.out 0).trans rfl; have hcz65_1 : w58.cell? ⟨gb114, 1, none⟩ = some (.int .i64 a1_1) := (blk_cell BK114.out 1).trans rfl; have hfz65_0 := blk_frozen BK114.out 0; have hfz65_1 := blk_frozen BK114.out 1))
                                go_roundg k3
                                case measure => have := HJ3.out; have := HK2.out; have := HK3.out; omega
                                case rel => exact ⟨((rd_T47 l0 x39_3).f1), (wrap64 (x39_3 + 1)), (by first | rfl | (simp; done) | (simp [*]; done)), (by first | rfl | (simp; done) | (simp [*]; done)), H', ⟨by have := HJ3.out; have := HK2.out; have := HK3.out; omega⟩, ⟨by (with_reducible repeat (first | apply Kd.R_alloc | apply Kd.R_drewN | apply Kd.R_drew)); exact Kd.R_mono (Kd.R_far (p := ⟨gb127, 1, none⟩) (Kd.R_far (p := ⟨gb127, 0, none⟩) (Kd.R_types HO_120000.out BK127.out (by decide)) (fun _ hk => hk.2) (.int .i64 ((rd_T47 l0 x39_3).f0))) (fun _ hk => hk.2) (.int .i64 ((rd_T47 l0 x39_3).f1))) (fun _ hk => hk.1)⟩, ⟨by (with_reducible repeat (first | apply Kd.R_alloc | apply Kd.R_drewN | apply Kd.R_drew)); exact Kd.R_mono (Kd.R_far (p := ⟨gb127, 1, none⟩) (Kd.R_far (p := ⟨gb127, 0, none⟩) (Kd.R_mono HO_120001.out (fun k_ hk => (⟨hk, hk.2⟩ : _ ∧ k_ ≠ gb127))) (fun _ hk => hk.2) (.int .i64 ((rd_T47 l0 x39_3).f0))) (fun _ hk => hk.2) (.int .i64 ((rd_T47 l0 x39_3).f1))) (fun _ hk => hk.1.1)⟩, ⟨by (with_reducible repeat (first | apply Kd.R_alloc | apply Kd.R_drewN | apply Kd.R_drew)); exact Kd.R_mono (Kd.R_far (p := ⟨gb127, 1, none⟩) (Kd.R_far (p := ⟨gb127, 0, none⟩) (Kd.R_types HO_120002.out BK127.out (by decide)) (fun _ hk => hk.2) (.int .i64 ((rd_T47 l0 x39_3).f0))) (fun _ hk => hk.2) (.int .i64 ((rd_T47 l0 x39_3).f1))) (fun _ hk => hk.1)⟩, ⟨by (with_reducible repeat (first | refine blk_drewN ?_ _ | refine blk_drew ?_ | refine blk_alloc ?_ _)); refine blk_far ?_ NB114_127.out _; (with_reducible repeat (first | refine blk_drewN ?_ _ | refine blk_drew ?_ | refine blk_alloc ?_ _)); refine blk_far ?_ NB114_127.out _; (with_reducible repeat (first | refine blk_drewN ?_ _ | refine blk_drew ?_ | refine blk_alloc ?_ _)); exact BK114.out⟩, ⟨by (with_reducible repeat (first | refine blk_drewN ?_ _ | refine blk_drew ?_ | refine blk_alloc ?_ _)); refine blk_far ?_ NB115_127.out _; (with_reducible repeat (first | refine blk_drewN ?_ _ | refine blk_drew ?_ | refine blk_alloc ?_ _)); refine blk_far ?_ NB115_127.out _; (with_reducible repeat (first | refine blk_drewN ?_ _ | refine blk_drew ?_ | refine blk_alloc ?_ _)); exact BK115.out⟩, ⟨by (with_reducible repeat (first | refine blk_drewN ?_ _ | refine blk_drew ?_ | refine blk_alloc ?_ _)); refine blk_far ?_ NB119_127.out _; (with_reducible repeat (first | refine blk_drewN ?_ _ | refine blk_drew ?_ | refine blk_alloc ?_ _)); refine blk_far ?_ NB119_127.out _; (with_reducible repeat (first | refine blk_drewN ?_ _ | refine blk_drew ?_ | refine blk_alloc ?_ _)); exact BK119.out⟩, ⟨by repeat (first | (with_reducible first | exact HB.out | apply below_alloc | apply pw_below_drewN | apply below_drew1 | refine below_set ?_ GE114.out | refine below_set ?_ GE115.out | refine below_set ?_ GE119.out | refine below_set ?_ GE127.out) | exact HB.out)⟩⟩
                            · replace c48 := Bool.eq_false_iff.mpr c48
                              subst c48
                              have H1 : (impl_regionInside.l1 k3 l0 false x8_2 ((rd_T47 l0 x39_3).f1) l0 (l0.length : Int) (wrap64 (x39_3 + 1)) a1_0 a1_1 x120000_2 x120001_2 x120002_2) = some (r1, r2, r3) := by rw [if_neg (show ¬ (false = true) by decide)] at H; exact H
                              clear H
                              have H := H1
                              clear H1
                              have H' := Aside0.mk H
                              clear H
                              have p126 : 0 ≤ (x39_3 : Int) := of_decide_eq_true (by first | (with_reducible assumption) | assumption)
                              have q126 : x39_3 < (l0.length : Int) := of_decide_eq_true (by first | (with_reducible assumption) | assumption)
                              obtain ⟨ad126, e126, hx126_0, hx126_1⟩ := at_T47 HR0.out x39_3 p126 q126
                              cases e126
                              replace hx126_0 := (HB.out.cell (World.block_lt_of_cell? w _ hx126_0)).trans hx126_0
                              replace hx126_1 := (HB.out.cell (World.block_lt_of_cell? w _ hx126_1)).trans hx126_1
                              replace p126 := eq_true p126
                              replace q126 := eq_true q126
                              go_wp2_with (first | ((with_reducible refine gate_dst (N := 11) rfl ?_); refine box_event ?hg (N := 11) ?hd (cs := #[.int .i64 0, .int .i64 0]) (t := 47) ?hr ?_; (case hd => rfl); (case hg => rfl); (case hr => first | (go_simp; done) | (go_simp; rfl)); intro gb127 hg w66 hbox hb; have n0_ := Aside0.mk (Kd.R_below (by (with_reducible repeat (first | apply Kd.R_alloc | apply Kd.R_drewN | apply Kd.R_drew)); exact HO_120000.out) hb); have n1_ := Aside0.mk (Kd.R_below (Kd.R_elderB (by (with_reducible repeat (first | apply Kd.R_alloc | apply Kd.R_drewN | apply Kd.R_drew)); exact HO_120001.out) gb127 (Nat.le_of_eq hg.symm)) hb); have n2_ := Aside0.mk (Kd.R_below (by (with_reducible repeat (first | apply Kd.R_alloc | apply Kd.R_drewN | apply Kd.R_drew)); exact HO_120002.out) hb); have n3_ := Aside0.mk (blk_below (g := gb114) (o := .cells #[.int .i64 a1_0, .int .i64 a1_1] 47 (0, 0)) (by (with_reducible repeat (first | refine blk_drewN ?_ _ | refine blk_drew ?_ | refine blk_alloc ?_ _)); exact BK114.out) hb); have n4_ := Aside0.mk (blk_below (g := gb115) (o := .cells #[.slice none 0 0, .slice none 0 0, .slice none 0 0] 54 (0, 0)) (by (with_reducible repeat (first | refine blk_drewN ?_ _ | refine blk_drew ?_ | refine blk_alloc ?_ _)); exact BK115.out) hb); have n5_ := Aside0.mk (blk_below (g := gb119) (o := .cells #[u120000, u120001, u120002] 54 (0, 0)) (by (with_reducible repeat (first | refine blk_drewN ?_ _ | refine blk_drew ?_ | refine blk_alloc ?_ _)); exact BK119.out) hb); have n6_ := Aside0.mk (below_step (by repeat (first | (with_reducible first | exact HB.out | apply below_alloc | apply pw_below_drewN | apply below_drew1 | refine below_set ?_ GE114.out | refine below_set ?_ GE115.out | refine below_set ?_ GE119.out) | exact HB.out)) hb); have n7_ := Aside0.mk (hbox); have n8_ := Aside0.mk ((by rw [hg]; exact (below_size (by repeat (first | (with_reducible first | exact HB.out | apply below_alloc | apply pw_below_drewN | apply below_drew1 | refine below_set ?_ GE114.out | refine below_set ?_ GE115.out | refine below_set ?_ GE119.out) | exact HB.out))) : w.heap.size ≤ gb127)); have n9_ := Aside0.mk ((by rw [hg]; exact (below_size (by repeat (first | (with_reducible first | exact HB.out | apply below_alloc | apply pw_below_drewN | apply below_drew1 | refine below_set ?_ GE114.out | refine below_set ?_ GE115.out | refine below_set ?_ GE119.out) | exact HB.out))) : w.heap.size ≤ gb127)); have n10_ := Aside0.mk ((by rw [hg]; exact Nat.ne_of_lt (blk_lt (g := gb114) (o := .cells #[.int .i64 a1_0, .int .i64 a1_1] 47 (0, 0)) (by (with_reducible repeat (first | refine blk_drewN ?_ _ | refine blk_drew ?_ | refine blk_alloc ?_ _)); exact BK114.out)) : gb114 ≠ gb127)); have n11_ := Aside0.mk ((by rw [hg]; exact Nat.ne_of_gt (blk_lt (g := gb114) (o := .cells #[.int .i64 a1_0, .int .i64 a1_1] 47 (0, 0)) (by (with_reducible repeat (first | refine blk_drewN ?_ _ | refine blk_drew ?_ | refine blk_alloc ?_ _)); exact BK114.out)) : gb127 ≠ gb114)); have n12_ := Aside0.mk ((by rw [hg]; exact Nat.ne_of_lt (blk_lt (g := gb115) (o := .cells #[.slice none 0 0, .slice none 0 0, .slice none 0 0] 54 (0, 0)) (by (with_reducible repeat (first | refine blk_drewN ?_ _ | refine blk_drew ?_ | refine blk_alloc ?_ _)); exact BK115.out)) : gb115 ≠ gb127)); have n13_ := Aside0.mk ((by rw [hg]; exact Nat.ne_of_gt (blk_lt (g := gb115) (o := .cells #[.slice none 0 0, .slice none 0 0, .slice none 0 0] 54 (0, 0)) (by (with_reducible repeat (first | refine blk_drewN ?_ _ | refine blk_drew ?_ | refine blk_alloc ?_ _)); exact BK115.out)) : gb127 ≠ gb115)); have n14_ := Aside0.mk ((by rw [hg]; exact Nat.ne_of_lt (blk_lt (g := gb119) (o := .cells #[u120000, u120001, u120002] 54 (0, 0)) (by (with_reducible repeat (first | refine blk_drewN ?_ _ | refine blk_drew ?_ | refine blk_alloc ?_ _)); exact BK119.out)) : gb119 ≠ gb127)); have n15_ := Aside0.mk ((by rw [hg]; exact Nat.ne_of_gt (blk_lt (g := gb119) (o := .cells #[u120000, u120001, u120002] 54 (0, 0)) (by (with_reducible repeat (first | refine blk_drewN ?_ _ | refine blk_drew ?_ | refine blk_alloc ?_ _)); exact BK119.out)) : gb127 ≠ gb119)); clear HO_120000; clear HO_120001; clear HO_120002; clear BK114; clear BK115; clear BK119; clear HB; have HO_120000 := n0_; have HO_120001 := n1_; have HO_120002 := n2_; have BK114 := n3_; have BK115 := n4_; have BK119 := n5_; have HB := n6_; have BK127 := n7_; have GW127 := n8_; have GE127 := n9_; have NB114_127 := n10_; have NB127_114 := n11_; have NB115_127 := n12_; have NB127_115 := n13_; have NB119_127 := n14_; have NB127_119 := n15_; clear n0_ n1_ n2_ n3_ n4_ n5_ n6_ n7_ n8_ n9_ n10_ n11_ n12_ n13_ n14_ n15_; clear hb hbox hg; have hnb67 := NB127_114.out; have hnc67 := NB114_127.out; have hnb68 := NB127_115.out; have hnc68 := NB115_127.out; have hnb69 := NB127_119.out; have hnc69 := NB119_127.out; have hcz70_0 : w66.cell? ⟨gb127, 0, none⟩ = some (.int .i64 0) := (blk_cell BK127.out 0).trans rfl; have hcz70_1 : w66.cell? ⟨gb127, 1, none⟩ = some (.int .i64 0) := (blk_cell BK127.out 1).trans rfl; have hfz70_0 := blk_frozen BK127.out 0; have hfz70_1 := blk_frozen BK127.out 1; have hnb71 := NB114_115.out; have hnc71 := NB115_114.out; have hnb72 := NB114_119.out; have hnc72 := NB119_114.out; have hcz73_0 : w66.cell? ⟨gb114, 0, none⟩ = some (.int .i64 a1_0) := (blk_cell BK114.out 0).trans rfl; have hcz73_1 : w66.cell? ⟨gb114, 1, none⟩ = some (.int .i64 a1_1) := (blk_cell BK114.out 1).trans rfl; have hfz73_0 := blk_frozen BK114.out 0; have hfz73_1 := blk_frozen BK114.out 1))
                              go_roundg k3
                              case measure => have := HJ3.out; have := HK2.out; have := HK3.out; omega
                              case rel => exact ⟨((rd_T47 l0 x39_3).f1), (wrap64 (x39_3 + 1)), (by first | rfl | (simp; done) | (simp [*]; done)), (by first | rfl | (simp; done) | (simp [*]; done)), H', ⟨by have := HJ3.out; have := HK2.out; have := HK3.out; omega⟩, ⟨by (with_reducible repeat (first | apply Kd.R_alloc | apply Kd.R_drewN | apply Kd.R_drew)); exact Kd.R_mono (Kd.R_far (p := ⟨gb127, 1, none⟩) (Kd.R_far (p := ⟨gb127, 0, none⟩) (Kd.R_types HO_120000.out BK127.out (by decide)) (fun _ hk => hk.2) (.int .i64 ((rd_T47 l0 x39_3).f0))) (fun _ hk => hk.2) (.int .i64 ((rd_T47 l0 x39_3).f1))) (fun _ hk => hk.1)⟩, ⟨by (with_reducible repeat (first | apply Kd.R_alloc | apply Kd.R_drewN | apply Kd.R_drew)); exact Kd.R_mono (Kd.R_far (p := ⟨gb127, 1, none⟩) (Kd.R_far (p := ⟨gb127, 0, none⟩) (Kd.R_mono HO_120001.out (fun k_ hk => (⟨hk, hk.2⟩ : _ ∧ k_ ≠ gb127))) (fun _ hk => hk.2) (.int .i64 ((rd_T47 l0 x39_3).f0))) (fun _ hk => hk.2) (.int .i64 ((rd_T47 l0 x39_3).f1))) (fun _ hk => hk.1.1)⟩, ⟨by (with_reducible repeat (first | apply Kd.R_alloc | apply Kd.R_drewN | apply Kd.R_drew)); exact Kd.R_mono (Kd.R_far (p := ⟨gb127, 1, none⟩) (Kd.R_far (p := ⟨gb127, 0, none⟩) (Kd.R_types HO_120002.out BK127.out (by decide)) (fun _ hk => hk.2) (.int .i64 ((rd_T47 l0 x39_3).f0))) (fun _ hk => hk.2) (.int .i64 ((rd_T47 l0 x39_3).f1))) (fun _ hk => hk.1)⟩, ⟨by (with_reducible repeat (first | refine blk_drewN ?_ _ | refine blk_drew ?_ | refine blk_alloc ?_ _)); refine blk_far ?_ NB114_127.out _; (with_reducible repeat (first | refine blk_drewN ?_ _ | refine blk_drew ?_ | refine blk_alloc ?_ _)); refine blk_far ?_ NB114_127.out _; (with_reducible repeat (first | refine blk_drewN ?_ _ | refine blk_drew ?_ | refine blk_alloc ?_ _)); exact BK114.out⟩, ⟨by (with_reducible repeat (first | refine blk_drewN ?_ _ | refine blk_drew ?_ | refine blk_alloc ?_ _)); refine blk_far ?_ NB115_127.out _; (with_reducible repeat (first | refine blk_drewN ?_ _ | refine blk_drew ?_ | refine blk_alloc ?_ _)); refine blk_far ?_ NB115_127.out _; (with_reducible repeat (first | refine blk_drewN ?_ _ | refine blk_drew ?_ | refine blk_alloc ?_ _)); exact BK115.out⟩, ⟨by (with_reducible repeat (first | refine blk_drewN ?_ _ | refine blk_drew ?_ | refine blk_alloc ?_ _)); refine blk_far ?_ NB119_127.out _; (with_reducible repeat (first | refine blk_drewN ?_ _ | refine blk_drew ?_ | refine blk_alloc ?_ _)); refine blk_far ?_ NB119_127.out _; (with_reducible repeat (first | refine blk_drewN ?_ _ | refine blk_drew ?_ | refine blk_alloc ?_ _)); exact BK119.out⟩, ⟨by repeat (first | (with_reducible first | exact HB.out | apply below_alloc | apply pw_below_drewN | apply below_drew1 | refine below_set ?_ GE114.out | refine below_set ?_ GE115.out | refine below_set ?_ GE119.out | refine below_set ?_ GE127.out) | exact HB.out)⟩⟩
                          · rw [if_neg c47] at H
                            have c47b0 : decide (x9_3 < ((rd_T47 l0 x39_3).f1)) = false := decide_eq_false c47
                            clear c47
                            have H' := Aside0.mk H
                            clear H
                            have p126 : 0 ≤ (x39_3 : Int) := of_decide_eq_true (by first | (with_reducible assumption) | assumption)
                            have q126 : x39_3 < (l0.length : Int) := of_decide_eq_true (by first | (with_reducible assumption) | assumption)
                            obtain ⟨ad126, e126, hx126_0, hx126_1⟩ := at_T47 HR0.out x39_3 p126 q126
                            cases e126
                            replace hx126_0 := (HB.out.cell (World.block_lt_of_cell? w _ hx126_0)).trans hx126_0
                            replace hx126_1 := (HB.out.cell (World.block_lt_of_cell? w _ hx126_1)).trans hx126_1
                            replace p126 := eq_true p126
                            replace q126 := eq_true q126
                            go_wp2_with (first | ((with_reducible refine gate_dst (N := 11) rfl ?_); refine box_event ?hg (N := 11) ?hd (cs := #[.int .i64 0, .int .i64 0]) (t := 47) ?hr ?_; (case hd => rfl); (case hg => rfl); (case hr => first | (go_simp; done) | (go_simp; rfl)); intro gb127 hg w74 hbox hb; have n0_ := Aside0.mk (Kd.R_below (by (with_reducible repeat (first | apply Kd.R_alloc | apply Kd.R_drewN | apply Kd.R_drew)); exact HO_120000.out) hb); have n1_ := Aside0.mk (Kd.R_below (Kd.R_elderB (by (with_reducible repeat (first | apply Kd.R_alloc | apply Kd.R_drewN | apply Kd.R_drew)); exact HO_120001.out) gb127 (Nat.le_of_eq hg.symm)) hb); have n2_ := Aside0.mk (Kd.R_below (by (with_reducible repeat (first | apply Kd.R_alloc | apply Kd.R_drewN | apply Kd.R_drew)); exact HO_120002.out) hb); have n3_ := Aside0.mk (blk_below (g := gb114) (o := .cells #[.int .i64 a1_0, .int .i64 a1_1] 47 (0, 0)) (by (with_reducible repeat (first | refine blk_drewN ?_ _ | refine blk_drew ?_ | refine blk_alloc ?_ _)); exact BK114.out) hb); have n4_ := Aside0.mk (blk_below (g := gb115) (o := .cells #[.slice none 0 0, .slice none 0 0, .slice none 0 0] 54 (0, 0)) (by (with_reducible repeat (first | refine blk_drewN ?_ _ | refine blk_drew ?_ | refine blk_alloc ?_ _)); exact BK115.out) hb); have n5_ := Aside0.mk (blk_below (g := gb119) (o := .cells #[u120000, u120001, u120002] 54 (0, 0)) (by (with_reducible repeat (first | refine blk_drewN ?_ _ | refine blk_drew ?_ | refine blk_alloc ?_ _)); exact BK119.out) hb); have n6_ := Aside0.mk (below_step (by repeat (first | (with_reducible first | exact HB.out | apply below_alloc | apply pw_below_drewN | apply below_drew1 | refine below_set ?_ GE114.out | refine below_set ?_ GE115.out | refine below_set ?_ GE119.out) | exact HB.out)) hb); have n7_ := Aside0.mk (hbox); have n8_ := Aside0.mk ((by rw [hg]; exact (below_size (by repeat (first | (with_reducible first | exact HB.out | apply below_alloc | apply pw_below_drewN | apply below_drew1 | refine below_set ?_ GE114.out | refine below_set ?_ GE115.out | refine below_set ?_ GE119.out) | exact HB.out))) : w.heap.size ≤ gb127)); have n9_ := Aside0.mk ((by rw [hg]; exact (below_size (by repeat (first | (with_reducible first | exact HB.out | apply below_alloc | apply pw_below_drewN | apply below_drew1 | refine below_set ?_ GE114.out | refine below_set ?_ GE115.out | refine below_set ?_ GE119.out) | exact HB.out))) : w.heap.size ≤ gb127)); have n10_ := Aside0.mk ((by rw [hg]; exact Nat.ne_of_lt (blk_lt (g := gb114) (o := .cells #[.int .i64 a1_0, .int .i64 a1_1] 47 (0, 0)) (by (with_reducible repeat (first | refine blk_drewN ?_ _ | refine blk_drew ?_ | refine blk_alloc ?_ _)); exact BK114.out)) : gb114 ≠ gb127)); have n11_ := Aside0.mk ((by rw [hg]; exact Nat.ne_of_gt (blk_lt (g := gb114) (o := .cells #[.int .i64 a1_0, .int .i64 a1_1] 47 (0, 0)) (by (with_reducible repeat (first | refine blk_drewN ?_ _ | refine blk_drew ?_ | refine blk_alloc ?_ _)); exact BK114.out)) : gb127 ≠ gb114)); have n12_ := Aside0.mk ((by rw [hg]; exact Nat.ne_of_lt (blk_lt (g := gb115) (o := .cells #[.slice none 0 0, .slice none 0 0, .slice none 0 0] 54 (0, 0)) (by (with_reducible repeat (first | refine blk_drewN ?_ _ | refine blk_drew ?_ | refine blk_alloc ?_ _)); exact BK115.out)) : gb115 ≠ gb127)); have n13_ := Aside0.mk ((by rw [hg]; exact Nat.ne_of_gt (blk_lt (g := gb115) (o := .cells #[.slice none 0 0, .slice none 0 0, .slice none 0 0] 54 (0, 0)) (by (with_reducible repeat (first | refine blk_drewN ?_ _ | refine blk_drew ?_ | refine blk_alloc ?_ _)); exact BK115.out)) : gb127 ≠ gb115)); have n14_ := Aside0.mk ((by rw [hg]; exact Nat.ne_of_lt (blk_lt (g := gb119) (o := .cells #[u120000, u120001, u120002] 54 (0, 0)) (by (with_reducible repeat (first | refine blk_drewN ?_ _ | refine blk_drew ?_ | refine blk_alloc ?_ _)); exact BK119.out)) : gb119 ≠ gb127)); have n15_ := Aside0.mk ((by rw [hg]; exact Nat.ne_of_gt (blk_lt (g := gb119) (o := .cells #[u120000, u120001, u120002] 54 (0, 0)) (by (with_reducible repeat (first | refine blk_drewN ?_ _ | refine blk_drew ?_ | refine blk_alloc ?_ _)); exact BK119.out)) : gb127 ≠ gb119)); clear HO_120000; clear HO_120001; clear HO_120002; clear BK114; clear BK115; clear BK119; clear HB; have HO_120000 := n0_; have HO_120001 := n1_; have HO_120002 := n2_; have BK114 := n3_; have BK115 := n4_; have BK119 := n5_; have HB := n6_; have BK127 := n7_; have GW127 := n8_; have GE127 := n9_; have NB114_127 := n10_; have NB127_114 := n11_; have NB115_127 := n12_; have NB127_115 := n13_; have NB119_127 := n14_; have NB127_119 := n15_; clear n0_ n1_ n2_ n3_ n4_ n5_ n6_ n7_ n8_ n9_ n10_ n11_ n12_ n13_ n14_ n15_; clear hb hbox hg; have hnb75 := NB127_114.out; have hnc75 := NB114_127.out; have hnb76 := NB127_115.out; have hnc76 := NB115_127.out; have hnb77 := NB127_119.out; have hnc77 := NB119_127.out; have hcz78_0 : w74.cell? ⟨gb127, 0, none⟩ = some (.int .i64 0) := (blk_cell BK127.out 0).trans rfl; have hcz78_1 : w74.cell? ⟨gb127, 1, none⟩ = some (.int .i64 0) := (blk_cell BK127.out 1).trans rfl; have hfz78_0 := blk_frozen BK127.out 0; have hfz78_1 := blk_frozen BK127.out 1; have hnb79 := NB114_115.out; have hnc79 := NB115_114.out; have hnb80 := NB114_119.out; have hnc80 := NB119_114.out; have hcz81_0 : w74.cell? ⟨gb114, 0, none⟩ = some (.int .i64 a1_0) := (blk_cell BK114.out 0).trans rfl; have hcz81_1 : w74.cell? ⟨gb114, 1, none⟩ = some (.int .i64 a1_1) := (blk_cell BK114.out 1).trans rfl; have hfz81_0 := blk_frozen BK114.out 0; have hfz81_1 := blk_frozen BK114.out 1))
                            go_roundg k3
                            case measure => have := HJ3.out; have := HK2.out; have := HK3.out; omega
                            case rel => exact ⟨(x9_3), (wrap64 (x39_3 + 1)), (by first | rfl | (simp; done) | (simp [*]; done)), (by first | rfl | (simp; done) | (simp [*]; done)), H', ⟨by have := HJ3.out; have := HK2.out; have := HK3.out; omega⟩, ⟨by (with_reducible repeat (first | apply Kd.R_alloc | apply Kd.R_drewN | apply Kd.R_drew)); exact Kd.R_mono (Kd.R_far (p := ⟨gb127, 1, none⟩) (Kd.R_far (p := ⟨gb127, 0, none⟩) (Kd.R_types HO_120000.out BK127.out (by decide)) (fun _ hk => hk.2) (.int .i64 ((rd_T47 l0 x39_3).f0))) (fun _ hk => hk.2) (.int .i64 ((rd_T47 l0 x39_3).f1))) (fun _ hk => hk.1)⟩, ⟨by (with_reducible repeat (first | apply Kd.R_alloc | apply Kd.R_drewN | apply Kd.R_drew)); exact Kd.R_mono (Kd.R_far (p := ⟨gb127, 1, none⟩) (Kd.R_far (p := ⟨gb127, 0, none⟩) (Kd.R_mono HO_120001.out (fun k_ hk => (⟨hk, hk.2⟩ : _ ∧ k_ ≠ gb127))) (fun _ hk => hk.2) (.int .i64 ((rd_T47 l0 x39_3).f0))) (fun _ hk => hk.2) (.int .i64 ((rd_T47 l0 x39_3).f1))) (fun _ hk => hk.1.1)⟩, ⟨by (with_reducible repeat (first | apply Kd.R_alloc | apply Kd.R_drewN | apply Kd.R_drew)); exact Kd.R_mono (Kd.R_far (p := ⟨gb127, 1, none⟩) (Kd.R_far (p := ⟨gb127, 0, none⟩) (Kd.R_types HO_120002.out BK127.out (by decide)) (fun _ hk => hk.2) (.int .i64 ((rd_T47 l0 x39_3).f0))) (fun _ hk => hk.2) (.int .i64 ((rd_T47 l0 x39_3).f1))) (fun _ hk => hk.1)⟩, ⟨by (with_reducible repeat (first | refine blk_drewN ?_ _ | refine blk_drew ?_ | refine blk_alloc ?_ _)); refine blk_far ?_ NB114_127.out _; (with_reducible repeat (first | refine blk_drewN ?_ _ | refine blk_drew ?_ | refine blk_alloc ?_ _)); refine blk_far ?_ NB114_127.out _; (with_reducible repeat (first | refine blk_drewN ?_ _ | refine blk_drew ?_ | refine blk_alloc ?_ _)); exact BK114.out⟩, ⟨by (with_reducible repeat (first | refine blk_drewN ?_ _ | refine blk_drew ?_ | refine blk_alloc ?_ _)); refine blk_far ?_ NB115_127.out _; (with_reducible repeat (first | refine blk_drewN ?_ _ | refine blk_drew ?_ | refine blk_alloc ?_ _)); refine blk_far ?_ NB115_127.out _; (with_reducible repeat (first | refine blk_drewN ?_ _ | refine blk_drew ?_ | refine blk_alloc ?_ _)); exact BK115.out⟩, ⟨by (with_reducible repeat (first | refine blk_drewN ?_ _ | refine blk_drew ?_ | refine blk_alloc ?_ _)); refine blk_far ?_ NB119_127.out _; (with_reducible repeat (first | refine blk_drewN ?_ _ | refine blk_drew ?_ | refine blk_alloc ?_ _)); refine blk_far ?_ NB119_127.out _; (with_reducible repeat (first | refine blk_drewN ?_ _ | refine blk_drew ?_ | refine blk_alloc ?_ _)); exact BK119.out⟩, ⟨by repeat (first | (with_reducible first | exact HB.out | apply below_alloc | apply pw_below_drewN | apply below_drew1 | refine below_set ?_ GE114.out | refine below_set ?_ GE115.out | refine below_set ?_ GE119.out | refine below_set ?_ GE127.out) | exact HB.out)⟩⟩
                        · rw [if_neg c46] at H
                          have c46b0 : decide (((rd_T47 l0 x39_3).f1) ≤ a1_1) = false := decide_eq_false c46
                          clear c46
                          have H' := Aside0.mk H
                          clear H
                          have p126 : 0 ≤ (x39_3 : Int) := of_decide_eq_true (by first | (with_reducible assumption) | assumption)
                          have q126 : x39_3 < (l0.length : Int) := of_decide_eq_true (by first | (with_reducible assumption) | assumption)
                          obtain ⟨ad126, e126, hx126_0, hx126_1⟩ := at_T47 HR0.out x39_3 p126 q126
                          cases e126
                          replace hx126_0 := (HB.out.cell (World.block_lt_of_cell? w _ hx126_0)).trans hx126_0
                          replace hx126_1 := (HB.out.cell (World.block_lt_of_cell? w _ hx126_1)).trans hx126_1
                          replace p126 := eq_true p126
                          replace q126 := eq_true q126
                          go_wp2_with (first | ((with_reducible refine gate_dst (N := 11) rfl ?_); refine box_event ?hg (N := 11) ?hd (cs := #[.int .i64 0, .int .i64 0]) (t := 47) ?hr ?_; (case hd => rfl); (case hg => rfl); (case hr => first | (go_simp; done) | (go_simp; rfl)); intro gb127 hg w82 hbox hb; have n0_ := Aside0.mk (Kd.R_below (by (with_reducible repeat (first | apply Kd.R_alloc | apply Kd.R_drewN | apply Kd.R_drew)); exact HO_120000.out) hb); have n1_ := Aside0.mk (Kd.R_below (Kd.R_elderB (by (with_reducible repeat (first | apply Kd.R_alloc | apply Kd.R_drewN | apply Kd.R_drew)); exact HO_120001.out) gb127 (Nat.le_of_eq hg.symm)) hb); have n2_ := Aside0.mk (Kd.R_below (by (with_reducible repeat (first | apply Kd.R_alloc | apply Kd.R_drewN | apply Kd.R_drew)); exact HO_120002.out) hb); have n3_ := Aside0.mk (blk_below (g := gb114) (o := .cells #[.int .i64 a1_0, .int .i64 a1_1] 47 (0, 0)) (by (with_reducible repeat (first | refine blk_drewN ?_ _ | refine blk_drew ?_ | refine blk_alloc ?_ _)); exact BK114.out) hb); have n4_ := Aside0.mk (blk_below (g := gb115) (o := .cells #[.slice none 0 0, .slice none 0 0, .slice none 0 0] 54 (0, 0)) (by (with_reducible repeat (first | refine blk_drewN ?_ _ | refine blk_drew ?_ | refine blk_alloc ?_ _)); exact BK115.out) hb); have n5_ := Aside0.mk (blk_below (g := gb119) (o := .cells #[u120000, u120001, u120002] 54 (0, 0)) (by (with_reducible repeat (first | refine blk_drewN ?_ _ | refine blk_drew ?_ | refine blk_alloc ?_ _)); exact BK119.out) hb); have n6_ := Aside0.mk (below_step (by repeat (first | (with_reducible first | exact HB.out | apply below_alloc | apply pw_below_drewN | apply below_drew1 | refine below_set ?_ GE114.out | refine below_set ?_ GE115.out | refine below_set ?_ GE119.out) | exact HB.out)) hb); have n7_ := Aside0.mk (hbox); have n8_ := Aside0.mk ((by rw [hg]; exact (below_size (by repeat (first | (with_reducible first | exact HB.out | apply below_alloc | apply pw_below_drewN | apply below_drew1 | refine below_set ?_ GE114.out | refine below_set ?_ GE115.out | refine below_set ?_ GE119.out) | exact HB.out))) : w.heap.size ≤ gb127)); have n9_ := Aside0.mk ((by rw [hg]; exact (below_size (by repeat (first | (with_reducible first | exact HB.out | apply below_alloc | apply pw_below_drewN | apply below_drew1 | refine below_set ?_ GE114.out | refine below_set ?_ GE115.out | refine below_set ?_ GE119.out) | exact HB.out))) : w.heap.size ≤ gb127)); have n10_ := Aside0.mk ((by rw [hg]; exact Nat.ne_of_lt (blk_lt (g := gb114) (o := .cells #[.int .i64 a1_0, .int .i64 a1_1] 47 (0, 0)) (by (with_reducible repeat (first | refine blk_drewN ?_ _ | refine blk_drew ?_ | refine blk_alloc ?_ _)); exact BK114.out)) : gb114 ≠ gb127)); have n11_ := Aside0.mk ((by rw [hg]; exact Nat.ne_of_gt (blk_lt (g := gb114) (o := .cells #[.int .i64 a1_0, .int .i64 a1_1] 47 (0, 0)) (by (with_reducible repeat (first | refine blk_drewN ?_ _ | refine blk_drew ?_ | refine blk_alloc ?_ _)); exact BK114.out)) : gb127 ≠ gb114)); have n12_ := Aside0.mk ((by rw [hg]; exact Nat.ne_of_lt (blk_lt (g := gb115) (o := .cells #[.slice none 0 0, .slice none 0 0, .slice none 0 0] 54 (0, 0)) (by (with_reducible repeat (first | refine blk_drewN ?_ _ | refine blk_drew ?_ | refine blk_alloc ?_ _)); exact BK115.out)) : gb115 ≠ gb127)); have n13_ := Aside0.mk ((by rw [hg]; exact Nat.ne_of_gt (blk_lt (g := gb115) (o := .cells #[.slice none 0 0, .slice none 0 0, .slice none 0 0] 54 (0, 0)) (by (with_reducible repeat (first | refine blk_drewN ?_ _ | refine blk_drew ?_ | refine blk_alloc ?_ _)); exact BK115.out)) : gb127 ≠ gb115)); have n14_ := Aside0.mk ((by rw [hg]; exact Nat.ne_of_lt (blk_lt (g := gb119) (o := .cells #[u120000, u120001, u120002] 54 (0, 0)) (by (with_reducible repeat (first | refine blk_drewN ?_ _ | refine blk_drew ?_ | refine blk_alloc ?_ _)); exact BK119.out)) : gb119 ≠ gb127)); have n15_ := Aside0.mk ((by rw [hg]; exact Nat.ne_of_gt (blk_lt (g := gb119) (o := .cells #[u120000, u120001, u120002] 54 (0, 0)) (by (with_reducible repeat (first | refine blk_drewN ?_ _ | refine blk_drew ?_ | refine blk_alloc ?_ _)); exact BK119.out)) : gb127 ≠ gb119)); clear HO_120000; clear HO_120001; clear HO_120002; clear BK114; clear BK115; clear BK119; clear HB; have HO_120000 := n0_; have HO_120001 := n1_; have HO_120002 := n2_; have BK114 := n3_; have BK115 := n4_; have BK119 := n5_; have HB := n6_; have BK127 := n7_; have GW127 := n8_; have GE127 := n9_; have NB114_127 := n10_; have NB127_114 := n11_; have NB115_127 := n12_; have NB127_115 := n13_; have NB119_127 := n14_; have NB127_119 := n15_; clear n0_ n1_ n2_ n3_ n4_ n5_ n6_ n7_ n8_ n9_ n10_ n11_ n12_ n13_ n14_ n15_; clear hb hbox hg; have hnb83 := NB127_114.out; have hnc83 := NB114_127.out; have hnb84 := NB127_115.out; have hnc84 := NB115_127.out; have hnb85 := NB127_119.out; have hnc85 := NB119_127.out; have hcz86_0 : w82.cell? ⟨gb127, 0, none⟩ = some (.int .i64 0) := (blk_cell BK127.out 0).trans rfl; have hcz86_1 : w82.cell? ⟨gb127, 1, none⟩ = some (.int .i64 0) := (blk_cell BK127.out 1).trans rfl; have hfz86_0 := blk_frozen BK127.out 0; have hfz86_1 := blk_frozen BK127.out 1; have hnb87 := NB114_115.out; have hnc87 := NB115_114.out; have hnb88 := NB114_119.out; have hnc88 := NB119_114.out; have hcz89_0 : w82.cell? ⟨gb114, 0, none⟩ = some (.int .i64 a1_0) := (blk_cell BK114.out 0).trans rfl; have hcz89_1 : w82.cell? ⟨gb114, 1, none⟩ = some (.int .i64 a1_1) := (blk_cell BK114.out 1).trans rfl; have hfz89_0 := blk_frozen BK114.out 0; have hfz89_1 := blk_frozen BK114.out 1))
                          go_roundg k3
                          case measure => have := HJ3.out; have := HK2.out; have := HK3.out; omega
                          case rel => exact ⟨(x9_3), (wrap64 (x39_3 + 1)), (by first | rfl | (simp; done) | (simp [*]; done)), (by first | rfl | (simp; done) | (simp [*]; done)), H', ⟨by have := HJ3.out; have := HK2.out; have := HK3.out; omega⟩, ⟨by (with_reducible repeat (first | apply Kd.R_alloc | apply Kd.R_drewN | apply Kd.R_drew)); exact Kd.R_mono (Kd.R_far (p := ⟨gb127, 1, none⟩) (Kd.R_far (p := ⟨gb127, 0, none⟩) (Kd.R_types HO_120000.out BK127.out (by decide)) (fun _ hk => hk.2) (.int .i64 ((rd_T47 l0 x39_3).f0))) (fun _ hk => hk.2) (.int .i64 ((rd_T47 l0 x39_3).f1))) (fun _ hk => hk.1)⟩, ⟨by (with_reducible repeat (first | apply Kd.R_alloc | apply Kd.R_drewN | apply Kd.R_drew)); exact Kd.R_mono (Kd.R_far (p := ⟨gb127, 1, none⟩) (Kd.R_far (p := ⟨gb127, 0, none⟩) (Kd.R_mono HO_120001.out (fun k_ hk => (⟨hk, hk.2⟩ : _ ∧ k_ ≠ gb127))) (fun _ hk => hk.2) (.int .i64 ((rd_T47 l0 x39_3).f0))) (fun _ hk => hk.2) (.int .i64 ((rd_T47 l0 x39_3).f1))) (fun _ hk => hk.1.1)⟩, ⟨by (with_reducible repeat (first | apply Kd.R_alloc | apply Kd.R_drewN | apply Kd.R_drew)); exact Kd.R_mono (Kd.R_far (p := ⟨gb127, 1, none⟩) (Kd.R_far (p := ⟨gb127, 0, none⟩) (Kd.R_types HO_120002.out BK127.out (by decide)) (fun _ hk => hk.2) (.int .i64 ((rd_T47 l0 x39_3).f0))) (fun _ hk => hk.2) (.int .i64 ((rd_T47 l0 x39_3).f1))) (fun _ hk => hk.1)⟩, ⟨by (with_reducible repeat (first | refine blk_drewN ?_ _ | refine blk_drew ?_ | refine blk_alloc ?_ _)); refine blk_far ?_ NB114_127.out _; (with_reducible repeat (first | refine blk_drewN ?_ _ | refine blk_drew ?_ | refine blk_alloc ?_ _)); refine blk_far ?_ NB114_127.out _; (with_reducible repeat (first | refine blk_drewN ?_ _ | refine blk_drew ?_ | refine blk_alloc ?_ _)); exact BK114.out⟩, ⟨by (with_reducible repeat (first | refine blk_drewN ?_ _ | refine blk_drew ?_ | refine blk_alloc ?_ _)); refine blk_far ?_ NB115_127.out _; (with_reducible repeat (first | refine blk_drewN ?_ _ | refine blk_drew ?_ | refine blk_alloc ?_ _)); refine blk_far ?_ NB115_127.out _; (with_reducible repeat (first | refine blk_drewN ?_ _ | refine blk_drew ?_ | refine blk_alloc ?_ _)); exact BK115.out⟩, ⟨by (with_reducible repeat (first | refine blk_drewN ?_ _ | refine blk_drew ?_ | refine blk_alloc ?_ _)); refine blk_far ?_ NB119_127.out _; (with_reducible repeat (first | refine blk_drewN ?_ _ | refine blk_drew ?_ | refine blk_alloc ?_ _)); refine blk_far ?_ NB119_127.out _; (with_reducible repeat (first | refine blk_drewN ?_ _ | refine blk_drew ?_ | refine blk_alloc ?_ _)); exact BK119.out⟩, ⟨by repeat (first | (with_reducible first | exact HB.out | apply below_alloc | apply pw_below_drewN | apply below_drew1 | refine below_set ?_ GE114.out | refine below_set ?_ GE115.out | refine below_set ?_ GE119.out | refine below_set ?_ GE127.out) | exact HB.out)⟩⟩
                      · rw [if_neg c45] at H
                        have c45b0 : (((rd_T47 l0 x39_3).f0) == x8_2) = false := beq_eq_false_iff_ne.mpr c45
                        have c45b1 : (((rd_T47 l0 x39_3).f0) != x8_2) = true := bne_iff_ne.mpr c45
                        have H' := Aside0.mk H
                        clear H
                        have p126 : 0 ≤ (x39_3 : Int) := of_decide_eq_true (by first | (with_reducible assumption) | assumption)
                        have q126 : x39_3 < (l0.length : Int) := of_decide_eq_true (by first | (with_reducible assumption) | assumption)
                        obtain ⟨ad126, e126, hx126_0, hx126_1⟩ := at_T47 HR0.out x39_3 p126 q126
                        cases e126
                        replace hx126_0 := (HB.out.cell (World.block_lt_of_cell? w _ hx126_0)).trans hx126_0
                        replace hx126_1 := (HB.out.cell (World.block_lt_of_cell? w _ hx126_1)).trans hx126_1
                        replace p126 := eq_true p126
                        replace q126 := eq_true q126
                        go_wp2_with (first | ((with_reducible refine gate_dst (N := 11) rfl ?_); refine box_event ?hg (N := 11) ?hd (cs := #[.int .i64 0, .int .i64 0]) (t := 47) ?hr ?_; (case hd => rfl); (case hg => rfl); (case hr => first | (go_simp; done) | (go_simp; rfl)); intro gb127 hg w90 hbox hb; have n0_ := Aside0.mk (Kd.R_below (by (with_reducible repeat (first | apply Kd.R_alloc | apply Kd.R_drewN | apply Kd.R_drew)); exact HO_120000.out) hb); have n1_ := Aside0.mk (Kd.R_below (Kd.R_elderB (by (with_reducible repeat (first | apply Kd.R_alloc | apply Kd.R_drewN | apply Kd.R_drew)); exact HO_120001.out) gb127 (Nat.le_of_eq hg.symm)) hb); have n2_ := Aside0.mk (Kd.R_below (by (with_reducible repeat (first | apply Kd.R_alloc | apply Kd.R_drewN | apply Kd.R_drew)); exact HO_120002.out) hb); have n3_ := Aside0.mk (blk_below (g := gb114) (o := .cells #[.int .i64 a1_0, .int .i64 a1_1] 47 (0, 0)) (by (with_reducible repeat (first | refine blk_drewN ?_ _ | refine blk_drew ?_ | refine blk_alloc ?_ _)); exact BK114.out) hb); have n4_ := Aside0.mk (blk_below (g := gb115) (o := .cells #[.slice none 0 0, .slice none 0 0, .slice none 0 0] 54 (0, 0)) (by (with_reducible repeat (first | refine blk_drewN ?_ _ | refine blk_drew ?_ | refine blk_alloc ?_ _)); exact BK115.out) hb); have n5_ := Aside0.mk (blk_below (g := gb119) (o := .cells #[u120000, u120001, u120002] 54 (0, 0)) (by (with_reducible repeat (first | refine blk_drewN ?_ _ | refine blk_drew ?_ | refine blk_alloc ?_ _)); exact BK119.out) hb); have n6_ := Aside0.mk (below_step (by repeat (first | (with_reducible first | exact HB.out | apply below_alloc | apply pw_below_drewN | apply below_drew1 | refine below_set ?_ GE114.out | refine below_set ?_ GE115.out | refine below_set ?_ GE119.out) | exact HB.out)) hb); have n7_ := Aside0.mk (hbox); have n8_ := Aside0.mk ((by rw [hg]; exact (below_size (by repeat (first | (with_reducible first | exact HB.out | apply below_alloc | apply pw_below_drewN | apply below_drew1 | refine below_set ?_ GE114.out | refine below_set ?_ GE115.out | refine below_set ?_ GE119.out) | exact HB.out))) : w.heap.size ≤ gb127)); have n9_ := Aside0.mk ((by rw [hg]; exact (below_size (by repeat (first | (with_reducible first | exact HB.out | apply below_alloc | apply pw_below_drewN | apply below_drew1 | refine below_set ?_ GE114.out | refine below_set ?_ GE115.out | refine below_set ?_ GE119.out) | exact HB.out))) : w.heap.size ≤ gb127)); have n10_ := Aside0.mk ((by rw [hg]; exact Nat.ne_of_lt (blk_lt (g := gb114) (o := .cells #[.int .i64 a1_0, .int .i64 a1_1] 47 (0, 0)) (by (with_reducible repeat (first | refine blk_drewN ?_ _ | refine blk_drew ?_ | refine blk_alloc ?_ _)); exact BK114.out)) : gb114 ≠ gb127)); have n11_ := Aside0.mk ((by rw [hg]; exact Nat.ne_of_gt (blk_lt (g := gb114) (o := .cells #[.int .i64 a1_0, .int .i64 a1_1] 47 (0, 0)) (by (with_reducible repeat (first | refine blk_drewN ?_ _ | refine blk_drew ?_ | refine blk_alloc ?_ _)); exact BK114.out)) : gb127 ≠ gb114)); have n12_ := Aside0.mk ((by rw [hg]; exact Nat.ne_of_lt (blk_lt (g := gb115) (o := .cells #[.slice none 0 0, .slice none 0 0, .slice none 0 0] 54 (0, 0)) (by (with_reducible repeat (first | refine blk_drewN ?_ _ | refine blk_drew ?_ | refine blk_alloc ?_ _)); exact BK115.out)) : gb115 ≠ gb127)); have n13_ := Aside0.mk ((by rw [hg]; exact Nat.ne_of_gt (blk_lt (g := gb115) (o := .cells #[.slice none 0 0, .slice none 0 0, .slice none 0 0] 54 (0, 0)) (by (with_reducible repeat (first | refine blk_drewN ?_ _ | refine blk_drew ?_ | refine blk_alloc ?_ _)); exact BK115.out)) : gb127 ≠ gb115)); have n14_ := Aside0.mk ((by rw [hg]; exact Nat.ne_of_lt (blk_lt (g := gb119) (o := .cells #[u120000, u120001, u120002] 54 (0, 0)) (by (with_reducible repeat (first | refine blk_drewN ?_ _ | refine blk_drew ?_ | refine blk_alloc ?_ _)); exact BK119.out)) : gb119 ≠ gb127)); have n15_ := Aside0.mk ((by rw [hg]; exact Nat.ne_of_gt (blk_lt (g := gb119) (o := .cells #[u120000, u120001, u120002] 54 (0, 0)) (by (with_reducible repeat (first | refine blk_drewN ?_ _ | refine blk_drew ?_ | refine blk_alloc ?_ _)); exact BK119.out)) : gb127 ≠ gb119)); clear HO_120000; clear HO_120001; clear HO_120002; clear BK114; clear BK115; clear BK119; clear HB; have HO_120000 := n0_; have HO_120001 := n1_; have HO_120002 := n2_; have BK114 := n3_; have BK115 := n4_; have BK119 := n5_; have HB := n6_; have BK127 := n7_; have GW127 := n8_; have GE127 := n9_; have NB114_127 := n10_; have NB127_114 := n11_; have NB115_127 := n12_; have NB127_115 := n13_; have NB119_127 := n14_; have NB127_119 := n15_; clear n0_ n1_ n2_ n3_ n4_ n5_ n6_ n7_ n8_ n9_ n10_ n11_ n12_ n13_ n14_ n15_; clear hb hbox hg; have hnb91 := NB127_114.out; have hnc91 := NB114_127.out; have hnb92 := NB127_115.out; have hnc92 := NB115_127.out; have hnb93 := NB127_119.out; have hnc93 := NB119_127.out; have hcz94_0 : w90.cell? ⟨gb127, 0, none⟩ = some (.int .i64 0) := (blk_cell BK127.out 0).trans rfl; have hcz94_1 : w90.cell? ⟨gb127, 1, none⟩ = some (.int .i64 0) := (blk_cell BK127.out 1).trans rfl; have hfz94_0 := blk_frozen BK127.out 0; have hfz94_1 := blk_frozen BK127.out 1))
                        go_roundg k3
                        case measure => have := HJ3.out; have := HK2.out; have := HK3.out; omega
                        case rel => exact ⟨(x9_3), (wrap64 (x39_3 + 1)), (by first | rfl | (simp; done) | (simp [*]; done)), (by first | rfl | (simp; done) | (simp [*]; done)), H', ⟨by have := HJ3.out; have := HK2.out; have := HK3.out; omega⟩, ⟨by (with_reducible repeat (first | apply Kd.R_alloc | apply Kd.R_drewN | apply Kd.R_drew)); exact Kd.R_mono (Kd.R_far (p := ⟨gb127, 1, none⟩) (Kd.R_far (p := ⟨gb127, 0, none⟩) (Kd.R_types HO_120000.out BK127.out (by decide)) (fun _ hk => hk.2) (.int .i64 ((rd_T47 l0 x39_3).f0))) (fun _ hk => hk.2) (.int .i64 ((rd_T47 l0 x39_3).f1))) (fun _ hk => hk.1)⟩, ⟨by (with_reducible repeat (first | apply Kd.R_alloc | apply Kd.R_drewN | apply Kd.R_drew)); exact Kd.R_mono (Kd.R_far (p := ⟨gb127, 1, none⟩) (Kd.R_far (p := ⟨gb127, 0, none⟩) (Kd.R_mono HO_120001.out (fun k_ hk => (⟨hk, hk.2⟩ : _ ∧ k_ ≠ gb127))) (fun _ hk => hk.2) (.int .i64 ((rd_T47 l0 x39_3).f0))) (fun _ hk => hk.2) (.int .i64 ((rd_T47 l0 x39_3).f1))) (fun _ hk => hk.1.1)⟩, ⟨by (with_reducible repeat (first | apply Kd.R_alloc | apply Kd.R_drewN | apply Kd.R_drew)); exact Kd.R_mono (Kd.R_far (p := ⟨gb127, 1, none⟩) (Kd.R_far (p := ⟨gb127, 0, none⟩) (Kd.R_types HO_120002.out BK127.out (by decide)) (fun _ hk => hk.2) (.int .i64 ((rd_T47 l0 x39_3).f0))) (fun _ hk => hk.2) (.int .i64 ((rd_T47 l0 x39_3).f1))) (fun _ hk => hk.1)⟩, ⟨by (with_reducible repeat (first | refine blk_drewN ?_ _ | refine blk_drew ?_ | refine blk_alloc ?_ _)); refine blk_far ?_ NB114_127.out _; (with_reducible repeat (first | refine blk_drewN ?_ _ | refine blk_drew ?_ | refine blk_alloc ?_ _)); refine blk_far ?_ NB114_127.out _; (with_reducible repeat (first | refine blk_drewN ?_ _ | refine blk_drew ?_ | refine blk_alloc ?_ _)); exact BK114.out⟩, ⟨by (with_reducible repeat (first | refine blk_drewN ?_ _ | refine blk_drew ?_ | refine blk_alloc ?_ _)); refine blk_far ?_ NB115_127.out _; (with_reducible repeat (first | refine blk_drewN ?_ _ | refine blk_drew ?_ | refine blk_alloc ?_ _)); refine blk_far ?_ NB115_127.out _; (with_reducible repeat (first | refine blk_drewN ?_ _ | refine blk_drew ?_ | refine blk_alloc ?_ _)); exact BK115.out⟩, ⟨by (with_reducible repeat (first | refine blk_drewN ?_ _ | refine blk_drew ?_ | refine blk_alloc ?_ _)); refine blk_far ?_ NB119_127.out _; (with_reducible repeat (first | refine blk_drewN ?_ _ | refine blk_drew ?_ | refine blk_alloc ?_ _)); refine blk_far ?_ NB119_127.out _; (with_reducible repeat (first | refine blk_drewN ?_ _ | refine blk_drew ?_ | refine blk_alloc ?_ _)); exact BK119.out⟩, ⟨by repeat (first | (with_reducible first | exact HB.out | apply below_alloc | apply pw_below_drewN | apply below_drew1 | refine below_set ?_ GE114.out | refine below_set ?_ GE115.out | refine below_set ?_ GE119.out | refine below_set ?_ GE127.out) | exact HB.out)⟩⟩
                    · rw [if_neg c44] at H
                      exact absurd H (by simp)
                  · rw [if_neg c43] at H
                    exact absurd H (by simp)
                · rw [if_neg c42] at H
                  have c42b0 : decide (x39_3 < (l0.length : Int)) = false := decide_eq_false c42
                  clear c42
                  by_cases c95 : x9_3 > x8_2
                  · rw [if_pos c95] at H
                    have c95b0 : decide (x8_2 < x9_3) = true := decide_eq_true c95
                    clear c95
                    by_cases c96 : x120001_2.length < 8796093022208
                    · rw [if_pos c96] at H
                      have LMc96 := Aside0.mk c96
                      clear c96
                      obtain ⟨y128, hy128⟩ : ∃ y_ : List (S47), y_ = (x120001_2 ++ [(⟨x8_2, x9_3⟩ : S47)]) := ⟨_, rfl⟩
                      replace H : (if x120000_2.length < 17592186044416 then (impl_regionInside.l0 k3 l0 a2 x9_3 a1_0 a1_1 (x120000_2 ++ [x9_3]) y128 x120002_2) else (none)) = some (r1, r2, r3) := by first | (rw [hy128]; with_reducible exact H) | (have H2_ := (Option.bind_some _ _).symm.trans H; rw [hy128]; with_reducible exact H2_) | (have H2_ := (Option.bind_some _ _).symm.trans H; with_reducible exact H2_) | with_reducible exact H | (rw [hy128]; exact H) | exact H
                      have Ny128 := Aside0.mk hy128
                      clear hy128
                      by_cases c97 : x120000_2.length < 17592186044416
                      · rw [if_pos c97] at H
                        have LMc97 := Aside0.mk c97
                        clear c97
                        obtain ⟨y131, hy131⟩ : ∃ y_ : List Int, y_ = (x120000_2 ++ [x9_3]) := ⟨_, rfl⟩
                        replace H : (impl_regionInside.l0 k3 l0 a2 x9_3 a1_0 a1_1 y131 y128 x120002_2) = some (r1, r2, r3) := by first | (rw [hy131]; with_reducible exact H) | (have H2_ := (Option.bind_some _ _).symm.trans H; rw [hy131]; with_reducible exact H2_) | (have H2_ := (Option.bind_some _ _).symm.trans H; with_reducible exact H2_) | with_reducible exact H | (rw [hy131]; exact H) | exact H
                        have Ny131 := Aside0.mk hy131
                        clear hy131
                        have H' := Aside0.mk H
                        clear H
                        have hnb98 := NB119_114.out
                        have hnc98 := NB114_119.out
                        have hnb99 := NB119_115.out
                        have hnc99 := NB115_119.out
                        have hcz100_0 : wr.cell? ⟨gb119, 0, none⟩ = some (u120000) := (blk_cell BK119.out 0).trans rfl
                        have hcz100_1 : wr.cell? ⟨gb119, 1, none⟩ = some (u120001) := (blk_cell BK119.out 1).trans rfl
                        have hcz100_2 : wr.cell? ⟨gb119, 2, none⟩ = some (u120002) := (blk_cell BK119.out 2).trans rfl
                        have hfz100_0 := blk_frozen BK119.out 0
                        have hfz100_1 := blk_frozen BK119.out 1
                        have hfz100_2 := blk_frozen BK119.out 2
                        go_wp2_with (first | ((with_reducible refine gate_builtin (b := .append) (xs := #[.tmp 76, .tmp 80]) rfl ?_); at_builtin; refine Kd.R_append k47 (w0 := w) w.heap.size rfl (.tmp 76) (.tmp 80) 27 47 (.agg #[(.int .i64 0), (.int .i64 0)]) 16 rfl Try.underlying27 info47 rfl (by decide) (by omega) u120001 x120001_2 (⟨x8_2, x9_3⟩ : S47) [.int .i64 x8_2, .int .i64 x9_3] (fun k_ => k_ ≠ gb114) (fun _ => False) rfl rfl ?aP (fun _ hk => hk.elim) ?aF ?aO ?aB ?aS ?aL ?_; (case aP => exact k47_mkM _ _ _ (⟨x8_2, x9_3⟩ : S47)); (case aB => exact (by repeat (first | (with_reducible first | exact HB.out | apply below_alloc | apply pw_below_drewN | apply below_drew1 | refine below_set ?_ GE114.out | refine below_set ?_ GE115.out | refine below_set ?_ GE119.out) | exact HB.out))); (case aF => exact (fun k_ hk => Kd.freshB (g := gb114) (o := .cells #[.int .i64 a1_0, .int .i64 a1_1] 47 (0, 0)) (by (with_reducible repeat (first | refine blk_drewN ?_ _ | refine blk_drew ?_ | refine blk_alloc ?_ _)); exact BK114.out) k_ hk)); (case aO => exact (by (with_reducible repeat (first | apply Kd.R_alloc | apply Kd.R_drewN | apply Kd.R_drew)); exact HO_120001.out)); (case aS => exact (below_size (by repeat (first | (with_reducible first | exact HB.out | apply below_alloc | apply pw_below_drewN | apply below_drew1 | refine below_set ?_ GE114.out | refine below_set ?_ GE115.out | refine below_set ?_ GE119.out) | exact HB.out)))); (case aL => have := LMc96.out; omega); intro v129 w101 ho hb hg hat; rw [← Ny128.out] at ho; have n0_ := Aside0.mk (Kd.R_over' (by (with_reducible repeat (first | apply Kd.R_alloc | apply Kd.R_drewN | apply Kd.R_drew)); exact HO_120000.out) (Kd.R_typed (by (with_reducible repeat (first | apply Kd.R_alloc | apply Kd.R_drewN | apply Kd.R_drew)); exact HO_120001.out)) (by decide) hg); have n1_ := Aside0.mk (Kd.R_over' (by (with_reducible repeat (first | apply Kd.R_alloc | apply Kd.R_drewN | apply Kd.R_drew)); exact HO_120002.out) (Kd.R_typed (by (with_reducible repeat (first | apply Kd.R_alloc | apply Kd.R_drewN | apply Kd.R_drew)); exact HO_120001.out)) (by decide) hg); have n2_ := Aside0.mk (blk_grown (g := gb114) (o := .cells #[.int .i64 a1_0, .int .i64 a1_1] 47 (0, 0)) (by (with_reducible repeat (first | refine blk_drewN ?_ _ | refine blk_drew ?_ | refine blk_alloc ?_ _)); exact BK114.out) hg (Kd.R_away HO_120001.out (fun _ hk => hk))); have n3_ := Aside0.mk (blk_grown (g := gb115) (o := .cells #[.slice none 0 0, .slice none 0 0, .slice none 0 0] 54 (0, 0)) (by (with_reducible repeat (first | refine blk_drewN ?_ _ | refine blk_drew ?_ | refine blk_alloc ?_ _)); exact BK115.out) hg (Kd.R_ne HO_120001.out BK115.out (by decide))); have n4_ := Aside0.mk (blk_grown (g := gb119) (o := .cells #[u120000, u120001, u120002] 54 (0, 0)) (by (with_reducible repeat (first | refine blk_drewN ?_ _ | refine blk_drew ?_ | refine blk_alloc ?_ _)); exact BK119.out) hg (Kd.R_ne HO_120001.out BK119.out (by decide))); have n5_ := Aside0.mk (hb); have n6_ := Aside0.mk (ho); clear HO_120000; clear HO_120002; clear BK114; clear BK115; clear BK119; clear HB; clear HO_120001; have HO_120000 := n0_; have HO_120002 := n1_; have BK114 := n2_; have BK115 := n3_; have BK119 := n4_; have HB := n5_; have HO130 := n6_; clear n0_ n1_ n2_ n3_ n4_ n5_ n6_; clear ho hb hg hat; obtain ⟨Ao102, co102, eo102⟩ := Kd.R_slice HO130.out; subst eo102; have hcz103_0 : w101.cell? ⟨gb119, 0, none⟩ = some (u120000) := (blk_cell BK119.out 0).trans rfl; have hcz103_1 : w101.cell? ⟨gb119, 1, none⟩ = some (u120001) := (blk_cell BK119.out 1).trans rfl; have hcz103_2 : w101.cell? ⟨gb119, 2, none⟩ = some (u120002) := (blk_cell BK119.out 2).trans rfl; have hfz103_0 := blk_frozen BK119.out 0; have hfz103_1 := blk_frozen BK119.out 1; have hfz103_2 := blk_frozen BK119.out 2) | ((with_reducible refine gate_builtin (b := .append) (xs := #[.tmp 93, .tmp 95]) rfl ?_); at_builtin; refine Kd.R_append (Kd.int .i64) (w0 := w) w.heap.size rfl (.tmp 93) (.tmp 95) 24 3 (.int .i64 0) 8 rfl Try.underlying24 info3 rfl (by decide) (by omega) u120000 x120000_2 x9_3 [.int .i64 x9_3] (fun k_ => some k_ ≠ (u120002 : Value).ownBlock) (fun _ => False) rfl (by first | (go_simp; done) | (go_simp; rfl)) ?aP (fun _ hk => hk.elim) ?aF ?aO ?aB ?aS ?aL ?_; (case aP => exact rfl); (case aB => exact (by repeat (first | (with_reducible first | exact HB.out | apply below_alloc | apply pw_below_drewN | apply below_drew1 | refine below_set ?_ GE114.out | refine below_set ?_ GE115.out | refine below_set ?_ GE119.out) | exact HB.out))); (case aF => exact (fun k_ hk => Kd.fresh' (Kd.R_lt (by (with_reducible repeat (first | apply Kd.R_alloc | apply Kd.R_drewN | apply Kd.R_drew)); exact (Kd.R_mono (Kd.R_far (p := ⟨gb119, 1, none⟩) (Kd.R_types HO_120002.out BK119.out (by decide)) (fun _ hk => hk.2) (.slice Ao102 y128.length co102)) (fun _ h_ => h_.1)))) k_ hk)); (case aO => exact (by (with_reducible repeat (first | apply Kd.R_alloc | apply Kd.R_drewN | apply Kd.R_drew)); exact Kd.R_mono (Kd.R_far (p := ⟨gb119, 1, none⟩) (Kd.R_types HO_120000.out BK119.out (by decide)) (fun _ hk => hk.2) (.slice Ao102 y128.length co102)) (fun _ hk => hk.1))); (case aS => exact (below_size (by repeat (first | (with_reducible first | exact HB.out | apply below_alloc | apply pw_below_drewN | apply below_drew1 | refine below_set ?_ GE114.out | refine below_set ?_ GE115.out | refine below_set ?_ GE119.out) | exact HB.out)))); (case aL => have := LMc97.out; omega); intro v132 w104 ho hb hg hat; rw [← Ny131.out] at ho; have n0_ := Aside0.mk (Kd.R_after (ok := (fun _ => True)) (by (with_reducible repeat (first | apply Kd.R_alloc | apply Kd.R_drewN | apply Kd.R_drew)); exact Kd.R_mono (Kd.R_far (p := ⟨gb119, 1, none⟩) (Kd.R_types HO_120002.out BK119.out (by decide)) (fun _ hk => hk.2) (.slice Ao102 y128.length co102)) (fun _ hk => ⟨trivial, hk.1⟩)) hg hat); have n1_ := Aside0.mk (blk_grown (g := gb114) (o := .cells #[.int .i64 a1_0, .int .i64 a1_1] 47 (0, 0)) (by (with_reducible repeat (first | refine blk_drewN ?_ _ | refine blk_drew ?_ | refine blk_alloc ?_ _)); refine blk_far ?_ NB114_119.out _; (with_reducible repeat (first | refine blk_drewN ?_ _ | refine blk_drew ?_ | refine blk_alloc ?_ _)); exact BK114.out) hg (Kd.R_ne HO_120000.out BK114.out (by decide))); have n2_ := Aside0.mk (blk_grown (g := gb115) (o := .cells #[.slice none 0 0, .slice none 0 0, .slice none 0 0] 54 (0, 0)) (by (with_reducible repeat (first | refine blk_drewN ?_ _ | refine blk_drew ?_ | refine blk_alloc ?_ _)); refine blk_far ?_ NB115_119.out _; (with_reducible repeat (first | refine blk_drewN ?_ _ | refine blk_drew ?_ | refine blk_alloc ?_ _)); exact BK115.out) hg (Kd.R_ne HO_120000.out BK115.out (by decide))); have n3_ := Aside0.mk (blk_grown (g := gb119) (o := .cells #[u120000, .slice Ao102 y128.length co102, u120002] 54 (0, 0)) (by (with_reducible repeat (first | refine blk_drewN ?_ _ | refine blk_drew ?_ | refine blk_alloc ?_ _)); refine blk_put (cs := #[u120000, u120001, u120002]) ?_ 1 _ rfl; (with_reducible repeat (first | refine blk_drewN ?_ _ | refine blk_drew ?_ | refine blk_alloc ?_ _)); exact BK119.out) hg (Kd.R_ne HO_120000.out BK119.out (by decide))); have n4_ := Aside0.mk (Kd.R_over' (by (with_reducible repeat (first | apply Kd.R_alloc | apply Kd.R_drewN | apply Kd.R_drew)); exact (Kd.R_mono (Kd.R_far (p := ⟨gb119, 1, none⟩) (Kd.R_types HO130.out BK119.out (by decide)) (fun _ hk => hk.2) (.slice Ao102 y128.length co102)) (fun _ h_ => h_.1))) (Kd.R_typed (by (with_reducible repeat (first | apply Kd.R_alloc | apply Kd.R_drewN | apply Kd.R_drew)); exact (Kd.R_mono (Kd.R_far (p := ⟨gb119, 1, none⟩) (Kd.R_types HO_120000.out BK119.out (by decide)) (fun _ hk => hk.2) (.slice Ao102 y128.length co102)) (fun _ h_ => h_.1)))) (by decide) hg); have n5_ := Aside0.mk (hb); have n6_ := Aside0.mk (ho); clear HO_120002; clear BK114; clear BK115; clear BK119; clear HO130; clear HB; clear HO_120000; have HO_120002 := n0_; have BK114 := n1_; have BK115 := n2_; have BK119 := n3_; have HO130 := n4_; have HB := n5_; have HO133 := n6_; clear n0_ n1_ n2_ n3_ n4_ n5_ n6_; clear ho hb hg hat; obtain ⟨Ao105, co105, eo105⟩ := Kd.R_slice HO133.out; subst eo105; have hcz106_0 : w104.cell? ⟨gb119, 0, none⟩ = some (u120000) := (blk_cell BK119.out 0).trans rfl; have hcz106_1 : w104.cell? ⟨gb119, 1, none⟩ = some (.slice Ao102 y128.length co102) := (blk_cell BK119.out 1).trans rfl; have hcz106_2 : w104.cell? ⟨gb119, 2, none⟩ = some (u120002) := (blk_cell BK119.out 2).trans rfl; have hfz106_0 := blk_frozen BK119.out 0; have hfz106_1 := blk_frozen BK119.out 1; have hfz106_2 := blk_frozen BK119.out 2))
                        go_roundg k3
                        case measure => have := HJ3.out; have := HK2.out; have := HK3.out; omega
                        case rel => exact ⟨(x9_3), (y131), (y128), (x120002_2), (.slice Ao105 y131.length co105), (.slice Ao102 y128.length co102), (u120002), (by first | rfl | (simp; done) | (simp [*]; done)), H', ⟨by have := HJ3.out; have := HK2.out; have := HK3.out; omega⟩, ⟨by (with_reducible repeat (first | apply Kd.R_alloc | apply Kd.R_drewN | apply Kd.R_drew)); exact Kd.R_mono (Kd.R_far (p := ⟨gb119, 0, none⟩) (Kd.R_types HO133.out BK119.out (by decide)) (fun _ hk => hk.2) (.slice Ao105 y131.length co105)) (fun _ hk => hk.1)⟩, ⟨by (with_reducible repeat (first | apply Kd.R_alloc | apply Kd.R_drewN | apply Kd.R_drew)); exact Kd.R_mono (Kd.R_far (p := ⟨gb119, 0, none⟩) (Kd.R_types HO130.out BK119.out (by decide)) (fun _ hk => hk.2) (.slice Ao105 y131.length co105)) (fun _ hk => hk.1)⟩, ⟨by (with_reducible repeat (first | apply Kd.R_alloc | apply Kd.R_drewN | apply Kd.R_drew)); exact Kd.R_mono (Kd.R_far (p := ⟨gb119, 0, none⟩) (Kd.R_types HO_120002.out BK119.out (by decide)) (fun _ hk => hk.2) (.slice Ao105 y131.length co105)) (fun _ hk => hk.1.2)⟩, ⟨by (with_reducible repeat (first | refine blk_drewN ?_ _ | refine blk_drew ?_ | refine blk_alloc ?_ _)); refine blk_far ?_ NB114_119.out _; (with_reducible repeat (first | refine blk_drewN ?_ _ | refine blk_drew ?_ | refine blk_alloc ?_ _)); exact BK114.out⟩, ⟨by (with_reducible repeat (first | refine blk_drewN ?_ _ | refine blk_drew ?_ | refine blk_alloc ?_ _)); refine blk_far ?_ NB115_119.out _; (with_reducible repeat (first | refine blk_drewN ?_ _ | refine blk_drew ?_ | refine blk_alloc ?_ _)); exact BK115.out⟩, ⟨by (with_reducible repeat (first | refine blk_drewN ?_ _ | refine blk_drew ?_ | refine blk_alloc ?_ _)); refine blk_put (cs := #[u120000, .slice Ao102 y128.length co102, u120002]) ?_ 0 _ rfl; (with_reducible repeat (first | refine blk_drewN ?_ _ | refine blk_drew ?_ | refine blk_alloc ?_ _)); exact BK119.out⟩, ⟨by repeat (first | (with_reducible first | exact HB.out | apply below_alloc | apply pw_below_drewN | apply below_drew1 | refine below_set ?_ GE114.out | refine below_set ?_ GE115.out | refine below_set ?_ GE119.out) | exact HB.out)⟩⟩
                      · rw [if_neg c97] at H
                        exact absurd H (by simp)
                    · rw [if_neg c96] at H
                      exact absurd H (by simp)
                  · rw [if_neg c95] at H
                    have c95b0 : decide (x8_2 < x9_3) = false := decide_eq_false c95
                    clear c95
                    by_cases c107 : x120002_2.length < 17592186044416
                    · rw [if_pos c107] at H
                      have LMc107 := Aside0.mk c107
                      clear c107
                      obtain ⟨y134, hy134⟩ : ∃ y_ : List Int, y_ = (x120002_2 ++ [x8_2]) := ⟨_, rfl⟩
                      replace H : (if x120000_2.length < 17592186044416 then (impl_regionInside.l0 k3 l0 a2 (wrap64 (x8_2 + 1)) a1_0 a1_1 (x120000_2 ++ [wrap64 (x8_2 + 1)]) x120001_2 y134) else (none)) = some (r1, r2, r3) := by first | (rw [hy134]; with_reducible exact H) | (have H2_ := (Option.bind_some _ _).symm.trans H; rw [hy134]; with_reducible exact H2_) | (have H2_ := (Option.bind_some _ _).symm.trans H; with_reducible exact H2_) | with_reducible exact H | (rw [hy134]; exact H) | exact H
                      have Ny134 := Aside0.mk hy134
                      clear hy134
                      by_cases c108 : x120000_2.length < 17592186044416
                      · rw [if_pos c108] at H
                        have LMc108 := Aside0.mk c108
                        clear c108
                        obtain ⟨y137, hy137⟩ : ∃ y_ : List Int, y_ = (x120000_2 ++ [wrap64 (x8_2 + 1)]) := ⟨_, rfl⟩
                        replace H : (impl_regionInside.l0 k3 l0 a2 (wrap64 (x8_2 + 1)) a1_0 a1_1 y137 x120001_2 y134) = some (r1, r2, r3) := by first | (rw [hy137]; with_reducible exact H) | (have H2_ := (Option.bind_some _ _).symm.trans H; rw [hy137]; with_reducible exact H2_) | (have H2_ := (Option.bind_some _ _).symm.trans H; with_reducible exact H2_) | with_reducible exact H | (rw [hy137]; exact H) | exact H
                        have Ny137 := Aside0.mk hy137
                        clear hy137
                        have H' := Aside0.mk H
                        clear H
                        have hnb109 := NB119_114.out
                        have hnc109 := NB114_119.out
                        have hnb110 := NB119_115.out
                        have hnc110 := NB115_119.out
                        have hcz111_0 : wr.cell? ⟨gb119, 0, none⟩ = some (u120000) := (blk_cell BK119.out 0).trans rfl
                        have hcz111_1 : wr.cell? ⟨gb119, 1, none⟩ = some (u120001) := (blk_cell BK119.out 1).trans rfl
                        have hcz111_2 : wr.cell? ⟨gb119, 2, none⟩ = some (u120002) := (blk_cell BK119.out 2).trans rfl
                        have hfz111_0 := blk_frozen BK119.out 0
                        have hfz111_1 := blk_frozen BK119.out 1
                        have hfz111_2 := blk_frozen BK119.out 2
                        go_wp2_with (first | ((with_reducible refine gate_builtin (b := .append) (xs := #[.tmp 84, .tmp 86]) rfl ?_); at_builtin; refine Kd.R_append (Kd.int .i64) (w0 := w) w.heap.size rfl (.tmp 84) (.tmp 86) 24 3 (.int .i64 0) 8 rfl Try.underlying24 info3 rfl (by decide) (by omega) u120002 x120002_2 x8_2 [.int .i64 x8_2] (fun k_ => some k_ ≠ (u120000 : Value).ownBlock) (fun _ => False) rfl rfl ?aP (fun _ hk => hk.elim) ?aF ?aO ?aB ?aS ?aL ?_; (case aP => exact rfl); (case aB => exact (by repeat (first | (with_reducible first | exact HB.out | apply below_alloc | apply pw_below_drewN | apply below_drew1 | refine below_set ?_ GE114.out | refine below_set ?_ GE115.out | refine below_set ?_ GE119.out) | exact HB.out))); (case aF => exact (fun k_ hk => Kd.fresh' (Kd.R_lt (by (with_reducible repeat (first | apply Kd.R_alloc | apply Kd.R_drewN | apply Kd.R_drew)); exact HO_120000.out)) k_ hk)); (case aO => exact (by (with_reducible repeat (first | apply Kd.R_alloc | apply Kd.R_drewN | apply Kd.R_drew)); exact HO_120002.out)); (case aS => exact (below_size (by repeat (first | (with_reducible first | exact HB.out | apply below_alloc | apply pw_below_drewN | apply below_drew1 | refine below_set ?_ GE114.out | refine below_set ?_ GE115.out | refine below_set ?_ GE119.out) | exact HB.out)))); (case aL => have := LMc107.out; omega); intro v135 w112 ho hb hg hat; rw [← Ny134.out] at ho; have n0_ := Aside0.mk (Kd.R_after (ok := (fun _ => True)) (by (with_reducible repeat (first | apply Kd.R_alloc | apply Kd.R_drewN | apply Kd.R_drew)); exact Kd.R_mono HO_120000.out (fun _ hk => ⟨trivial, hk⟩)) hg hat); have n1_ := Aside0.mk (Kd.R_over' (by (with_reducible repeat (first | apply Kd.R_alloc | apply Kd.R_drewN | apply Kd.R_drew)); exact HO_120001.out) (Kd.R_typed (by (with_reducible repeat (first | apply Kd.R_alloc | apply Kd.R_drewN | apply Kd.R_drew)); exact HO_120002.out)) (by decide) hg); have n2_ := Aside0.mk (blk_grown (g := gb114) (o := .cells #[.int .i64 a1_0, .int .i64 a1_1] 47 (0, 0)) (by (with_reducible repeat (first | refine blk_drewN ?_ _ | refine blk_drew ?_ | refine blk_alloc ?_ _)); exact BK114.out) hg (Kd.R_ne HO_120002.out BK114.out (by decide))); have n3_ := Aside0.mk (blk_grown (g := gb115) (o := .cells #[.slice none 0 0, .slice none 0 0, .slice none 0 0] 54 (0, 0)) (by (with_reducible repeat (first | refine blk_drewN ?_ _ | refine blk_drew ?_ | refine blk_alloc ?_ _)); exact BK115.out) hg (Kd.R_ne HO_120002.out BK115.out (by decide))); have n4_ := Aside0.mk (blk_grown (g := gb119) (o := .cells #[u120000, u120001, u120002] 54 (0, 0)) (by (with_reducible repeat (first | refine blk_drewN ?_ _ | refine blk_drew ?_ | refine blk_alloc ?_ _)); exact BK119.out) hg (Kd.R_ne HO_120002.out BK119.out (by decide))); have n5_ := Aside0.mk (hb); have n6_ := Aside0.mk (ho); clear HO_120000; clear HO_120001; clear BK114; clear BK115; clear BK119; clear HB; clear HO_120002; have HO_120000 := n0_; have HO_120001 := n1_; have BK114 := n2_; have BK115 := n3_; have BK119 := n4_; have HB := n5_; have HO136 := n6_; clear n0_ n1_ n2_ n3_ n4_ n5_ n6_; clear ho hb hg hat; obtain ⟨Ao113, co113, eo113⟩ := Kd.R_slice HO136.out; subst eo113; have hcz114_0 : w112.cell? ⟨gb119, 0, none⟩ = some (u120000) := (blk_cell BK119.out 0).trans rfl; have hcz114_1 : w112.cell? ⟨gb119, 1, none⟩ = some (u120001) := (blk_cell BK119.out 1).trans rfl; have hcz114_2 : w112.cell? ⟨gb119, 2, none⟩ = some (u120002) := (blk_cell BK119.out 2).trans rfl; have hfz114_0 := blk_frozen BK119.out 0; have hfz114_1 := blk_frozen BK119.out 1; have hfz114_2 := blk_frozen BK119.out 2) | ((with_reducible refine gate_builtin (b := .append) (xs := #[.tmp 93, .tmp 95]) rfl ?_); at_builtin; refine Kd.R_append (Kd.int .i64) (w0 := w) w.heap.size rfl (.tmp 93) (.tmp 95) 24 3 (.int .i64 0) 8 rfl Try.underlying24 info3 rfl (by decide) (by omega) u120000 x120000_2 (wrap64 (x8_2 + 1)) [.int .i64 (wrap64 (x8_2 + 1))] (fun k_ => some k_ ≠ (.slice Ao113 y134.length co113 : Value).ownBlock) (fun _ => False) rfl (by first | (go_simp; done) | (go_simp; rfl)) ?aP (fun _ hk => hk.elim) ?aF ?aO ?aB ?aS ?aL ?_; (case aP => exact rfl); (case aB => exact (by repeat (first | (with_reducible first | exact HB.out | apply below_alloc | apply pw_below_drewN | apply below_drew1 | refine below_set ?_ GE114.out | refine below_set ?_ GE115.out | refine below_set ?_ GE119.out) | exact HB.out))); (case aF => exact (fun k_ hk => Kd.fresh' (Kd.R_lt (by (with_reducible repeat (first | apply Kd.R_alloc | apply Kd.R_drewN | apply Kd.R_drew)); exact (Kd.R_mono (Kd.R_far (p := ⟨gb119, 2, none⟩) (Kd.R_types HO136.out BK119.out (by decide)) (fun _ hk => hk.2) (.slice Ao113 y134.length co113)) (fun _ h_ => h_.1)))) k_ hk)); (case aO => exact (by (with_reducible repeat (first | apply Kd.R_alloc | apply Kd.R_drewN | apply Kd.R_drew)); exact Kd.R_mono (Kd.R_far (p := ⟨gb119, 2, none⟩) (Kd.R_types HO_120000.out BK119.out (by decide)) (fun _ hk => hk.2) (.slice Ao113 y134.length co113)) (fun _ hk => hk.1.2))); (case aS => exact (below_size (by repeat (first | (with_reducible first | exact HB.out | apply below_alloc | apply pw_below_drewN | apply below_drew1 | refine below_set ?_ GE114.out | refine below_set ?_ GE115.out | refine below_set ?_ GE119.out) | exact HB.out)))); (case aL => have := LMc108.out; omega); intro v138 w115 ho hb hg hat; rw [← Ny137.out] at ho; have n0_ := Aside0.mk (Kd.R_over' (by (with_reducible repeat (first | apply Kd.R_alloc | apply Kd.R_drewN | apply Kd.R_drew)); exact (Kd.R_mono (Kd.R_far (p := ⟨gb119, 2, none⟩) (Kd.R_types HO_120001.out BK119.out (by decide)) (fun _ hk => hk.2) (.slice Ao113 y134.length co113)) (fun _ h_ => h_.1))) (Kd.R_typed (by (with_reducible repeat (first | apply Kd.R_alloc | apply Kd.R_drewN | apply Kd.R_drew)); exact (Kd.R_mono (Kd.R_far (p := ⟨gb119, 2, none⟩) (Kd.R_types HO_120000.out BK119.out (by decide)) (fun _ hk => hk.2) (.slice Ao113 y134.length co113)) (fun _ h_ => h_.1)))) (by decide) hg); have n1_ := Aside0.mk (blk_grown (g := gb114) (o := .cells #[.int .i64 a1_0, .int .i64 a1_1] 47 (0, 0)) (by (with_reducible repeat (first | refine blk_drewN ?_ _ | refine blk_drew ?_ | refine blk_alloc ?_ _)); refine blk_far ?_ NB114_119.out _; (with_reducible repeat (first | refine blk_drewN ?_ _ | refine blk_drew ?_ | refine blk_alloc ?_ _)); exact BK114.out) hg (Kd.R_ne HO_120000.out BK114.out (by decide))); have n2_ := Aside0.mk (blk_grown (g := gb115) (o := .cells #[.slice none 0 0, .slice none 0 0, .slice none 0 0] 54 (0, 0)) (by (with_reducible repeat (first | refine blk_drewN ?_ _ | refine blk_drew ?_ | refine blk_alloc ?_ _)); refine blk_far ?_ NB115_119.out _; (with_reducible repeat (first | refine blk_drewN ?_ _ | refine blk_drew ?_ | refine blk_alloc ?_ _)); exact BK115.out) hg (Kd.R_ne HO_120000.out BK115.out (by decide))); have n3_ := Aside0.mk (blk_grown (g := gb119) (o := .cells #[u120000, u120001, .slice Ao113 y134.length co113] 54 (0, 0)) (by (with_reducible repeat (first | refine blk_drewN ?_ _ | refine blk_drew ?_ | refine blk_alloc ?_ _)); refine blk_put (cs := #[u120000, u120001, u120002]) ?_ 2 _ rfl; (with_reducible repeat (first | refine blk_drewN ?_ _ | refine blk_drew ?_ | refine blk_alloc ?_ _)); exact BK119.out) hg (Kd.R_ne HO_120000.out BK119.out (by decide))); have n4_ := Aside0.mk (Kd.R_after (ok := (fun _ => True)) (by (with_reducible repeat (first | apply Kd.R_alloc | apply Kd.R_drewN | apply Kd.R_drew)); exact Kd.R_mono (Kd.R_far (p := ⟨gb119, 2, none⟩) (Kd.R_types HO136.out BK119.out (by decide)) (fun _ hk => hk.2) (.slice Ao113 y134.length co113)) (fun _ hk => ⟨trivial, hk.1⟩)) hg hat); have n5_ := Aside0.mk (hb); have n6_ := Aside0.mk (ho); clear HO_120001; clear BK114; clear BK115; clear BK119; clear HO136; clear HB; clear HO_120000; have HO_120001 := n0_; have BK114 := n1_; have BK115 := n2_; have BK119 := n3_; have HO136 := n4_; have HB := n5_; have HO139 := n6_; clear n0_ n1_ n2_ n3_ n4_ n5_ n6_; clear ho hb hg hat; obtain ⟨Ao116, co116, eo116⟩ := Kd.R_slice HO139.out; subst eo116; have hcz117_0 : w115.cell? ⟨gb119, 0, none⟩ = some (u120000) := (blk_cell BK119.out 0).trans rfl; have hcz117_1 : w115.cell? ⟨gb119, 1, none⟩ = some (u120001) := (blk_cell BK119.out 1).trans rfl; have hcz117_2 : w115.cell? ⟨gb119, 2, none⟩ = some (.slice Ao113 y134.length co113) := (blk_cell BK119.out 2).trans rfl; have hfz117_0 := blk_frozen BK119.out 0; have hfz117_1 := blk_frozen BK119.out 1; have hfz117_2 := blk_frozen BK119.out 2))
                        go_roundg k3
                        case measure => have := HJ3.out; have := HK2.out; have := HK3.out; omega
                        case rel => exact ⟨(wrap64 (x8_2 + 1)), (y137), (x120001_2), (y134), (.slice Ao116 y137.length co116), (u120001), (.slice Ao113 y134.length co113), (by first | rfl | (simp; done) | (simp [*]; done)), H', ⟨by have := HJ3.out; have := HK2.out; have := HK3.out; omega⟩, ⟨by (with_reducible repeat (first | apply Kd.R_alloc | apply Kd.R_drewN | apply Kd.R_drew)); exact Kd.R_mono (Kd.R_far (p := ⟨gb119, 0, none⟩) (Kd.R_types HO139.out BK119.out (by decide)) (fun _ hk => hk.2) (.slice Ao116 y137.length co116)) (fun _ hk => hk.1)⟩, ⟨by (with_reducible repeat (first | apply Kd.R_alloc | apply Kd.R_drewN | apply Kd.R_drew)); exact Kd.R_mono (Kd.R_far (p := ⟨gb119, 0, none⟩) (Kd.R_types HO_120001.out BK119.out (by decide)) (fun _ hk => hk.2) (.slice Ao116 y137.length co116)) (fun _ hk => hk.1)⟩, ⟨by (with_reducible repeat (first | apply Kd.R_alloc | apply Kd.R_drewN | apply Kd.R_drew)); exact Kd.R_mono (Kd.R_far (p := ⟨gb119, 0, none⟩) (Kd.R_types HO136.out BK119.out (by decide)) (fun _ hk => hk.2) (.slice Ao116 y137.length co116)) (fun _ hk => hk.1.2)⟩, ⟨by (with_reducible repeat (first | refine blk_drewN ?_ _ | refine blk_drew ?_ | refine blk_alloc ?_ _)); refine blk_far ?_ NB114_119.out _; (with_reducible repeat (first | refine blk_drewN ?_ _ | refine blk_drew ?_ | refine blk_alloc ?_ _)); exact BK114.out⟩, ⟨by (with_reducible repeat (first | refine blk_drewN ?_ _ | refine blk_drew ?_ | refine blk_alloc ?_ _)); refine blk_far ?_ NB115_119.out _; (with_reducible repeat (first | refine blk_drewN ?_ _ | refine blk_drew ?_ | refine blk_alloc ?_ _)); exact BK115.out⟩, ⟨by (with_reducible repeat (first | refine blk_drewN ?_ _ | refine blk_drew ?_ | refine blk_alloc ?_ _)); refine blk_put (cs := #[u120000, u120001, .slice Ao113 y134.length co113]) ?_ 0 _ rfl; (with_reducible repeat (first | refine blk_drewN ?_ _ | refine blk_drew ?_ | refine blk_alloc ?_ _)); exact BK119.out⟩, ⟨by repeat (first | (with_reducible first | exact HB.out | apply below_alloc | apply pw_below_drewN | apply below_drew1 | refine below_set ?_ GE114.out | refine below_set ?_ GE115.out | refine below_set ?_ GE119.out) | exact HB.out)⟩⟩
                      · rw [if_neg c108] at H
                        exact absurd H (by simp)
                    · rw [if_neg c107] at H
                      exact absurd H (by simp)
          · rw [if_neg c38] at H
            have c38b0 : decide (x8_2 < a1_1) = false := decide_eq_false c38
            clear c38
            simp only [Option.some.injEq, Prod.mk.injEq] at H
            obtain ⟨rfl, rfl, rfl⟩ := H
            have hnb118 := NB114_115.out
            have hnc118 := NB115_114.out
            have hnb119 := NB114_119.out
            have hnc119 := NB119_114.out
            have hcz120_0 : wr.cell? ⟨gb114, 0, none⟩ = some (.int .i64 a1_0) := (blk_cell BK114.out 0).trans rfl
            have hcz120_1 : wr.cell? ⟨gb114, 1, none⟩ = some (.int .i64 a1_1) := (blk_cell BK114.out 1).trans rfl
            have hfz120_0 := blk_frozen BK114.out 0
            have hfz120_1 := blk_frozen BK114.out 1
            have hnb121 := NB119_115.out
            have hnc121 := NB115_119.out
            have hcz122_0 : wr.cell? ⟨gb119, 0, none⟩ = some (u120000) := (blk_cell BK119.out 0).trans rfl
            have hcz122_1 : wr.cell? ⟨gb119, 1, none⟩ = some (u120001) := (blk_cell BK119.out 1).trans rfl
            have hcz122_2 : wr.cell? ⟨gb119, 2, none⟩ = some (u120002) := (blk_cell BK119.out 2).trans rfl
            have hfz122_0 := blk_frozen BK119.out 0
            have hfz122_1 := blk_frozen BK119.out 1
            have hfz122_2 := blk_frozen BK119.out 2
            obtain ⟨Ao123, co123, eo123⟩ := Kd.R_slice HO_120000.out
            subst eo123
            have hcz124_0 : wr.cell? ⟨gb115, 0, none⟩ = some (.slice none 0 0) := (blk_cell BK115.out 0).trans rfl
            have hcz124_1 : wr.cell? ⟨gb115, 1, none⟩ = some (.slice none 0 0) := (blk_cell BK115.out 1).trans rfl
            have hcz124_2 : wr.cell? ⟨gb115, 2, none⟩ = some (.slice none 0 0) := (blk_cell BK115.out 2).trans rfl
            have hfz124_0 := blk_frozen BK115.out 0
            have hfz124_1 := blk_frozen BK115.out 1
            have hfz124_2 := blk_frozen BK115.out 2
            obtain ⟨Ao125, co125, eo125⟩ := Kd.R_slice HO_120001.out
            subst eo125
            obtain ⟨Ao126, co126, eo126⟩ := Kd.R_slice HO_120002.out
            subst eo126
            go_wp2
            refine bodyPost_ret (results_cell_row rfl _ _ gb115 54 #[.slice Ao123 x120000_2.length co123, .slice Ao125 x120001_2.length co125, .slice Ao126 x120002_2.length co126] (0, 0) _ rfl (by (with_reducible repeat (first | refine blk_drewN ?_ _ | refine blk_drew ?_ | refine blk_alloc ?_ _)); refine blk_put (cs := #[.slice Ao123 x120000_2.length co123, .slice Ao125 x120001_2.length co125, .slice none 0 0]) ?_ 2 _ rfl; (with_reducible repeat (first | refine blk_drewN ?_ _ | refine blk_drew ?_ | refine blk_alloc ?_ _)); refine blk_put (cs := #[.slice Ao123 x120000_2.length co123, .slice none 0 0, .slice none 0 0]) ?_ 1 _ rfl; (with_reducible repeat (first | refine blk_drewN ?_ _ | refine blk_drew ?_ | refine blk_alloc ?_ _)); refine blk_put (cs := #[.slice none 0 0, .slice none 0 0, .slice none 0 0]) ?_ 0 _ rfl; (with_reducible repeat (first | refine blk_drewN ?_ _ | refine blk_drew ?_ | refine blk_alloc ?_ _)); exact BK115.out) Try.underlying54 rfl (by kernel_rfl)) rfl ?_
            exact ⟨_, _, _, by first | rfl | (simp [errW_none, errW_some] <;> rfl) | (simp [*, errW_none, errW_some] <;> rfl), by (with_reducible repeat (first | apply Kd.R_alloc | apply Kd.R_drewN | apply Kd.R_drew)); exact Kd.R_mono (Kd.R_far (p := ⟨gb115, 2, none⟩) (Kd.R_far (p := ⟨gb115, 1, none⟩) (Kd.R_far (p := ⟨gb115, 0, none⟩) (Kd.R_types HO_120000.out BK115.out (by decide)) (fun _ hk => hk.2) (.slice Ao123 x120000_2.length co123)) (fun _ hk => hk.2) (.slice Ao125 x120001_2.length co125)) (fun _ hk => hk.2) (.slice Ao126 x120002_2.length co126)) (fun _ hk => hk.1), by (with_reducible repeat (first | apply Kd.R_alloc | apply Kd.R_drewN | apply Kd.R_drew)); exact Kd.R_mono (Kd.R_far (p := ⟨gb115, 2, none⟩) (Kd.R_far (p := ⟨gb115, 1, none⟩) (Kd.R_far (p := ⟨gb115, 0, none⟩) (Kd.R_types HO_120001.out BK115.out (by decide)) (fun _ hk => hk.2) (.slice Ao123 x120000_2.length co123)) (fun _ hk => hk.2) (.slice Ao125 x120001_2.length co125)) (fun _ hk => hk.2) (.slice Ao126 x120002_2.length co126)) (fun _ hk => trivial), by (with_reducible repeat (first | apply Kd.R_alloc | apply Kd.R_drewN | apply Kd.R_drew)); exact Kd.R_mono (Kd.R_far (p := ⟨gb115, 2, none⟩) (Kd.R_far (p := ⟨gb115, 1, none⟩) (Kd.R_far (p := ⟨gb115, 0, none⟩) (Kd.R_types HO_120002.out BK115.out (by decide)) (fun _ hk => hk.2) (.slice Ao123 x120000_2.length co123)) (fun _ hk => hk.2) (.slice Ao125 x120001_2.length co125)) (fun _ hk => hk.2) (.slice Ao126 x120002_2.length co126)) (fun _ hk => hk.1), by repeat (first | (with_reducible first | exact HB.out | apply below_alloc | apply pw_below_drewN | apply below_drew1 | refine below_set ?_ GE114.out | refine below_set ?_ GE115.out | refine below_set ?_ GE119.out) | exact HB.out)⟩

end Go.Proofs.Ytdeenfpcmaadcaa.Pr

/- Rows of rows as cells: what a row of slices holds, each slice told by itself. -/
namespace Go.Proofs.Ytdeenfpcmaadcaa.Pr
open Go.RowKit Go.Proofs.YtdeenfpcmaadcaaW.PrintWords Go.Proofs.YtdeenfpcmaadcaaW.PrintLast Go.Proofs.YtdeenfpcmaadcaaW.PrintMore
set_option linter.unusedVariables false
set_option linter.unusedSimpArgs false

abbrev KI : Kd Int := Kd.int .i64
abbrev KV : Kd (List Value) := Kd.raw 1
def NeR (u v : Value) : Prop := ∀ k, u.ownBlock = some k → v.ownBlock ≠ some k
theorem NeR.symm {u v : Value} (h : NeR u v) : NeR v u := fun k hk e => h k e hk
/-- Rows, with what they hold. -/
abbrev RL := List (Value × List Int)
def vsOf (rs : RL) : List (List Value) := rs.map fun r => [r.1]
theorem vsOf_length (rs : RL) : (vsOf rs).length = rs.length := by simp [vsOf]
structure Regs (w W : World) (P : Nat → Prop) (v : Value) (rs : RL) : Prop where
  out : KV.R 24 W w.heap.size P v (vsOf rs)
  inn : ∀ r ∈ rs, KI.R 3 W w.heap.size P r.1 r.2
theorem Regs.mono {w W : World} {P P' : Nat → Prop} {v : Value} {rs : RL} (h : Regs w W P v rs) (hp : ∀ k, P k → P' k) : Regs w W P' v rs := ⟨Kd.R_mono h.out hp, fun r hr => Kd.R_mono (h.inn r hr) hp⟩
theorem Regs.step {w W W' : World} {P : Nat → Prop} {v : Value} {rs : RL} (h : Regs w W P v rs) (hp : ∀ k, P k → k < W.heap.size → W'.heap[k]? = W.heap[k]?) : Regs w W' P v rs := ⟨Kd.R_step h.out hp, fun r hr => Kd.R_step (h.inn r hr) hp⟩
theorem Regs.below {w W W' : World} {P : Nat → Prop} {v : Value} {rs : RL} (h : Regs w W P v rs) (hb : Below W.heap.size W W') : Regs w W' P v rs := h.step (fun k _ hk => hb.block k hk)
theorem Regs.grown {w W W' : World} {P : Nat → Prop} {v : Value} {rs : RL} {row : Option Nat} (h : Regs w W P v rs) (hg : W.grownBy W' row) (hr : ∀ k, P k → some k ≠ row) : Regs w W' P v rs := h.step (fun k hk hl => hg.block k hl (hr k hk))
theorem Regs.old {w W : World} {P : Nat → Prop} {v : Value} {rs : RL} (h : Regs w W P v rs) : Regs w W (fun k => P k ∧ k < W.heap.size) v rs := ⟨Kd.R_mono (Kd.R_bound h.out) (fun k hk => ⟨hk.1, hk.2.2.1⟩), fun r hr => Kd.R_mono (Kd.R_bound (h.inn r hr)) (fun k hk => ⟨hk.1, hk.2.2.1⟩)⟩
/-- No two of the rows share a block. -/
def Dist (rs : RL) : Prop := rs.Pairwise fun a b => NeR a.1 b.1
/-- A row's element, as the walk reads it. -/
theorem at_raw {W : World} {A : Option Addr} {rs : RL} (h : KV.C W A (vsOf rs).length (vsOf rs)) (i : Nat) (hi : i < rs.length) : ∃ ad, A = some ad ∧ W.cell? (ad.add i) = some rs[i].1 := by
  obtain ⟨ad, e, hc⟩ := h.2.2 (by rw [vsOf_length]; omega)
  refine ⟨ad, e, ?_⟩
  have hg : (vsOf rs)[i]? = some [rs[i].1] := by unfold vsOf; rw [List.getElem?_map, List.getElem?_eq_getElem hi]; rfl
  obtain ⟨cs, h1, h2, h3⟩ := hc i _ hg
  have h4 := h3 0 rs[i].1 (by rw [h2.1]; rfl)
  have : i * KV.sz + 0 = i := by show i * 1 + 0 = i; omega
  rwa [this] at h4
theorem Regs.slice {w W : World} {P : Nat → Prop} {v : Value} {rs : RL} (h : Regs w W P v rs) : ∃ A c, v = .slice A rs.length c ∧ rs.length ≤ c ∧ KV.C W A (vsOf rs).length (vsOf rs) := by
  obtain ⟨A, c, e, hl, hC⟩ := Kd.R_reads h.out
  rw [vsOf_length] at e hl
  exact ⟨A, c, e, hl, hC⟩
theorem take_reads {W : World} {A : Option Addr} {rs : RL} {i : Nat} (h : KV.C W A (vsOf rs).length (vsOf rs)) (hi : i ≤ rs.length) : KV.C W A i ((vsOf rs).take i) := by
  have e := Kd.C_take h (m := i) (by rw [vsOf_length]; exact hi)
  rwa [List.length_take, vsOf_length, Nat.min_eq_left hi] at e
theorem drop_reads {W : World} {A : Option Addr} {rs : RL} {i c : Nat} (h : KV.C W A (vsOf rs).length (vsOf rs)) (hi : i ≤ rs.length) (hc : rs.length ≤ c) : KV.C W (if c = i then A else A.map (·.add i)) (rs.length - i) ((vsOf rs).drop i) := by
  have e := Kd.C_drop h (m := i) (c := c) (by rw [vsOf_length]; exact hi) (by rw [vsOf_length]; exact hc)
  rw [List.length_drop, vsOf_length, show i * KV.sz = i from Nat.mul_one i] at e
  exact e
theorem raw_lit {w W : World} (hb : w.heap.size ≤ W.heap.size) (vs : List Value) (h1 : ∀ v ∈ vs, v.oneCell' = true) (hn : vs.length ≤ 1000000) :
    KV.R 24 (W.alloc (.cells vs.toArray 24)) w.heap.size (fun k => k = W.heap.size) (.slice (some ⟨W.heap.size, 0, none⟩) vs.length vs.length) (vs.map fun v => [v]) := by
  refine ⟨fun k hk => ?_, vs, ?_, (by rw [List.length_map]; exact (Nat.mul_one _).symm), fun j p hj => ?_⟩
  · simpa [Value.ownBlock] using hk.symm
  · have h2 := World.ownsRow_lit (base := w.heap.size) (e := 24) (size := 1) W vs.toArray vs.length hb (by unfold maxLen; omega) (by simp)
    rw [List.length_map]
    exact (by simpa using h2 : World.ownsRow _ _ _ 1 _ _ _)
  · rw [List.getElem?_map] at hj
    obtain ⟨v, hv, rfl⟩ := Option.map_eq_some_iff.1 hj
    have hjl := (List.getElem?_eq_some_iff.1 hv).1
    have hjv := (List.getElem?_eq_some_iff.1 hv).2
    refine ⟨?_, ?_, ?_⟩
    · show (vs.drop (j * 1)).take 1 = [v]
      rw [Nat.mul_one, List.drop_eq_getElem_cons hjl, hjv]
      rfl
    · show ((vs.drop (j * 1)).take 1).length = 1
      rw [Nat.mul_one, List.drop_eq_getElem_cons hjl]
      rfl
    · intro u hu
      exact h1 u (List.mem_of_mem_drop (List.mem_of_mem_take hu))
theorem regs_one {w W : World} (hb : Below w.heap.size w W) {v : Value} {xs : List Int} (h : KI.R 3 W w.heap.size (fun _ => True) v xs) :
    Regs w (W.alloc (.cells #[v] 24)) (fun _ => True) (.slice (some ⟨W.heap.size, 0, none⟩) 1 1) [(v, xs)] := by
  refine ⟨Kd.R_mono (raw_lit hb.size [v] (fun u hu => ?_) (by simp)) (fun _ _ => trivial), fun r hr => ?_⟩
  · rw [List.mem_singleton.1 hu]
    obtain ⟨A, c, e⟩ := Kd.R_slice h
    rw [e]; rfl
  · rw [List.mem_singleton.1 hr]
    exact Kd.R_alloc h _
theorem blk_two {W : World} {b t : Nat} {u v : Value} (h : W.heap[b]? = some (.cells #[u, v] t (0, 0))) : W.cell? ⟨b, 0, none⟩ = some u ∧ W.cell? ⟨b, 1, none⟩ = some v := by
  constructor <;> simp [World.cell?, h]
theorem calls_drawn {f : Nat} {vs : Array Value} {W : World} {v : Value} (h : Calls Try.prog f vs W fun e w' => e = .returned v ∧ Drawn0 W w') : Calls Try.prog f vs W fun e w' => e = .returned v ∧ Below W.heap.size W w' :=
  h.mono fun _ _ h => ⟨h.1, by obtain ⟨n, rfl⟩ := h.2.out; exact pw_below_drewN (Below.refl _ _) n⟩
theorem dist_split {rs : RL} {i : Nat} {x y : Value × List Int} (hd : Dist rs) (hxy : NeR x.1 y.1) (h : ∀ r ∈ rs, NeR r.1 x.1 ∧ NeR r.1 y.1) : Dist (rs.take i ++ x :: y :: rs.drop (i + 1)) := by
  unfold Dist at *
  have hs : (rs.take i ++ rs.drop (i + 1)).Pairwise fun a b => NeR a.1 b.1 := by
    refine hd.sublist ?_
    conv => rhs; rw [← List.take_append_drop i rs]
    refine List.Sublist.append_left ?_ _
    rw [← List.drop_drop]
    exact List.drop_sublist _ _
  obtain ⟨h1, h2, h3⟩ := List.pairwise_append.1 hs
  refine List.pairwise_append.2 ⟨h1, List.pairwise_cons.2 ⟨fun z hz => ?_, List.pairwise_cons.2 ⟨fun z hz => ((h z (List.mem_of_mem_drop hz)).2).symm, h2⟩⟩, fun a ha b hb => ?_⟩
  · rcases List.mem_cons.1 hz with rfl | hz
    · exact hxy
    · exact ((h z (List.mem_of_mem_drop hz)).1).symm
  · rcases List.mem_cons.1 hb with rfl | hb
    · exact (h a (List.mem_of_mem_take ha)).1
    · rcases List.mem_cons.1 hb with rfl | hb
      · exact (h a (List.mem_of_mem_take ha)).2
      · exact h3 a ha b hb
theorem split_mem {rs : RL} {i : Nat} {x y r : Value × List Int} (h : r ∈ rs.take i ++ x :: y :: rs.drop (i + 1)) : r ∈ rs ∨ r = x ∨ r = y := by
  rcases List.mem_append.1 h with h | h
  · exact .inl (List.mem_of_mem_take h)
  · rcases List.mem_cons.1 h with h | h
    · exact .inr (.inl h)
    · rcases List.mem_cons.1 h with h | h
      · exact .inr (.inr h)
      · exact .inl (List.mem_of_mem_drop h)
theorem split_vs (rs : RL) (i : Nat) (x y : Value × List Int) : vsOf (rs.take i ++ x :: y :: rs.drop (i + 1)) = (([] ++ (vsOf rs).take i) ++ [[x.1], [y.1]]) ++ (vsOf rs).drop (i + 1) := by
  unfold vsOf
  simp [List.map_take, List.map_drop]
theorem split_len (rs : RL) (i : Nat) (hi : i < rs.length) (x y : Value × List Int) : (rs.take i ++ x :: y :: rs.drop (i + 1)).length = rs.length + 1 := by
  simp only [List.length_append, List.length_take, List.length_cons, List.length_drop]
  omega
/-- Where a row goes in: from the end, ahead of all that it is ahead of. -/
def backK (lt : List Int → List Int → Bool) (r : List Int) (os : List (List Int)) : Nat → Nat
  | 0 => 0
  | k + 1 => if lt r (os.getD k []) = true then backK lt r os k else k + 1
theorem backK_le (lt : List Int → List Int → Bool) (r : List Int) (os : List (List Int)) : ∀ k, backK lt r os k ≤ k
  | 0 => Nat.le_refl _
  | k + 1 => by
    rw [backK]
    split
    · exact Nat.le_succ_of_le (backK_le lt r os k)
    · exact Nat.le_refl _
def insB (lt : List Int → List Int → Bool) (os : List (List Int)) (r : List Int) : List (List Int) := os.take (backK lt r os os.length) ++ r :: os.drop (backK lt r os os.length)
/-- Rows that are read, elder than block N. -/
structure BW (w W : World) (N : Nat) (v : Value) (rs : RL) (u : Value) (os : RL) : Prop where
  bl : Below w.heap.size w W
  hn : w.heap.size ≤ N ∧ N ≤ W.heap.size
  rg : Regs w W (fun k => k < N) v rs
  og : KV.R 24 W w.heap.size (fun k => k < N) u (vsOf os)
section
variable {w W W' : World} {N : Nat} {v u : Value} {rs os : RL}
theorem BW.grown {row : Option Nat} (h : BW w W N v rs u os) (hg : W.grownBy W' row) (hr : ∀ k, row = some k → N ≤ k) (hb : Below w.heap.size w W') : BW w W' N v rs u os :=
  ⟨hb, ⟨h.hn.1, Nat.le_trans h.hn.2 hg.size⟩, h.rg.grown hg (fun k hk e => by have := hr k e.symm; omega), Kd.R_grown h.og hg (fun k hk e => by have := hr k e.symm; omega)⟩
theorem BW.go (h : BW w W N v rs u os) (hb : Below W.heap.size W W') : BW w W' N v rs u os :=
  h.grown (grown_of_below hb none) (fun _ e => by cases e) (below_step h.bl hb)
theorem BW.now (hb : Below w.heap.size w W) (hr : Regs w W (fun _ => True) v rs) (ho : KV.R 24 W w.heap.size (fun _ => True) u (vsOf os)) : BW w W W.heap.size v rs u os :=
  ⟨hb, ⟨hb.size, Nat.le_refl _⟩, hr.old.mono (fun k hk => hk.2), Kd.R_mono (Kd.R_bound ho) (fun k hk => hk.2.2.1)⟩
end
theorem dist_perm {a b : RL} (h : a.Perm b) (hd : Dist a) : Dist b := (List.Perm.pairwise_iff (R := fun (x y : Value × List Int) => NeR x.1 y.1) (fun {x y} (q : NeR x.1 y.1) => q.symm) h).1 hd
theorem vs_ins (os : RL) (k : Nat) (x : Value × List Int) : vsOf (os.take k ++ x :: os.drop k) = (([] ++ (vsOf os).take k) ++ [[x.1]]) ++ (vsOf os).drop k := by
  unfold vsOf
  simp [List.map_take, List.map_drop]
/-- Rows of rows whose blocks are told apart, in the print's words. -/
theorem Regs.S {w W : World} {P : Nat → Prop} {v : Value} {rs : RL} (h : Regs w W P v rs) (hd : Dist rs) : Kd.S (Kd.slice 3 KI) 24 W w.heap.size (fun _ => True) v (rs.map (·.2)) := by
  classical
  obtain ⟨h0, inner, ho, hr⟩ := h.out
  obtain ⟨f, hf⟩ : ∃ f : Nat → Nat, ∀ (i : Nat) (hi : i < rs.length) (k : Nat), rs[i].1.ownBlock = some k → f k = i := by
    refine ⟨fun k => if hx : ∃ i, ∃ hi : i < rs.length, rs[i].1.ownBlock = some k then Classical.choose hx else 0, fun i hi k hk => ?_⟩
    have hx : ∃ i, ∃ hi : i < rs.length, rs[i].1.ownBlock = some k := ⟨i, hi, hk⟩
    simp only [dif_pos hx]
    obtain ⟨hj, ek⟩ := Classical.choose_spec hx
    rcases Nat.lt_trichotomy (Classical.choose hx) i with hlt | heq | hgt
    · exact absurd hk ((List.pairwise_iff_getElem.1 hd _ _ hj hi hlt) k ek)
    · exact heq
    · exact absurd ek ((List.pairwise_iff_getElem.1 hd _ _ hi hj hgt) k hk)
  have hlen : (vsOf rs).length = rs.length := vsOf_length rs
  refine ⟨f, fun k hk => trivial, inner, ?_, ?_, ?_⟩
  · rw [List.length_zipIdx, List.length_map, ← hlen]; exact ho
  · rw [List.length_zipIdx, List.length_map, ← hlen]; exact hr.1
  · intro j p hj
    rw [List.getElem?_zipIdx, Nat.zero_add] at hj
    obtain ⟨x, hx, rfl⟩ := Option.map_eq_some_iff.1 hj
    rw [List.getElem?_map] at hx
    obtain ⟨r, hrj, rfl⟩ := Option.map_eq_some_iff.1 hx
    have hjl : j < rs.length := (List.getElem?_eq_some_iff.1 hrj).1
    have hrj2 : rs[j] = r := (List.getElem?_eq_some_iff.1 hrj).2
    have hM := hr.2 j [r.1] (by unfold vsOf; rw [List.getElem?_map, hrj]; rfl)
    have hI := h.inn r (List.mem_of_getElem? hrj)
    have hne : ∀ k, r.1.ownBlock = some k → some k ≠ v.ownBlock := by
      intro k hk e
      obtain ⟨c1, e1⟩ := Kd.R_typed hI k hk
      obtain ⟨c2, e2⟩ := Kd.R_typed h.out k e.symm
      rw [e1] at e2
      injection e2 with e2
      injection e2 with _ e2 _
      exact absurd e2 (by decide)
    show ∃ v', _ = [v'] ∧ KI.R 3 W w.heap.size _ v' r.2
    refine ⟨r.1, hM.1, ?_⟩
    refine Kd.R_mono (Kd.R_tight rfl hI) (fun k hk => ⟨⟨trivial, hne k hk.symm⟩, ?_⟩)
    subst hrj2
    exact hf j hjl k hk.symm
end Go.Proofs.Ytdeenfpcmaadcaa.Pr

/- The program's planeRegions, by hand: all regions of a plane set, in the order of the points. -/
namespace Go.Proofs.Ytdeenfpcmaadcaa.Pr
open Go.RowKit Go.Proofs.YtdeenfpcmaadcaaW.PrintWords Go.Proofs.YtdeenfpcmaadcaaW.PrintLast Go.Proofs.YtdeenfpcmaadcaaW.PrintMore
set_option linter.unusedVariables false
set_option linter.unusedSimpArgs false
abbrev CH := S47
def mkR (q : List Int × List CH × List Int) : SR := ⟨q.1, q.2.1, q.2.2⟩
def allR (k : Nat) (l : List CH) : List CH → Option (List SR)
  | [] => some []
  | c :: cs => (impl_regionInside.f k l c.f0 c.f1 true).bind fun q => (allR k l cs).bind fun rs => some (mkR q :: rs)
theorem allR_mono (l : List CH) (k : Nat) : ∀ cs, LeO (allR k l cs) (allR (k + 1) l cs)
  | [] => LeO.refl _
  | c :: cs => LeO.bind (impl_regionInside.mono _ _ _ _ _) (fun _ => LeO.bind (allR_mono l k cs) (fun _ => LeO.refl _))
def impl_planeRegions.f (k : Nat) (a0 : Int) (l1 : List CH) : Option ((List SR) × Bool) :=
  (impl_isSet.f k a0 l1).bind fun s => if s = true then (impl_crossings.f k l1).bind fun n => if n > 0 then some ([], false) else
    if 0 ≤ a0 ∧ a0 ≤ 1000 ∧ l1.length ≤ 1000 then (impl_regionInside.f k l1 0 (a0 - 1) false).bind fun q => (allR k l1 l1).bind fun rs =>
      if ((mkR q :: rs).map (·.f0)).Nodup ∧ (∀ x ∈ mkR q :: rs, x.f0.length ≤ 1000000) then some (sortR (mkR q :: rs), true) else none
    else none
  else some ([], false)
theorem impl_planeRegions.mono : ∀ a0 a1 k, LeO (impl_planeRegions.f k a0 a1) (impl_planeRegions.f (k + 1) a0 a1) := by
  intro a0 a1 k
  unfold impl_planeRegions.f
  exact LeO.bind (impl_isSet.mono _ _ _) (fun _ => LeO.ite (LeO.bind (impl_crossings.mono _ _) (fun _ => LeO.ite (LeO.refl _) (LeO.ite (LeO.bind (impl_regionInside.mono _ _ _ _ _) (fun _ => LeO.bind (allR_mono _ _ _) (fun _ => LeO.refl _))) (LeO.refl _)))) (LeO.refl _))
section
variable {w W w3 : World} {base : Nat} {v v0 v1 v2 : Value} {xs : List SR} {r1 : List Int} {r2 : List CH} {r3 : List Int} {P0 P1 P2 : Nat → Prop}
theorem reg_M (hb : base ≤ W.heap.size) (h0 : (Kd.int .i64).R 3 w3 W.heap.size P0 v0 r1) (h1 : k47.R 47 w3 W.heap.size P1 v1 r2) (h2 : (Kd.int .i64).R 3 w3 W.heap.size P2 v2 r3) : k54.M w3 base (fun k => W.heap.size ≤ k) (mkR (r1, r2, r3)) [v0, v1, v2] :=
  k54_mkM w3 base _ (mkR (r1, r2, r3)) (Kd.R_mono (Kd.R_bound (Kd.R_lower h0 (Nat.le_refl _))) (fun k hk => hk.2.1) |> fun h => Kd.R_lower h hb) (Kd.R_mono (Kd.R_bound h1) (fun k hk => hk.2.1) |> fun h => Kd.R_lower h hb) (Kd.R_mono (Kd.R_bound h2) (fun k hk => hk.2.1) |> fun h => Kd.R_lower h hb)
theorem S_one {x : SR} {ok : Nat → Prop} (hb : base ≤ W.heap.size) (h : k54.M W base ok x [v0, v1, v2]) : Kd.S k54 54 (W.alloc (.cells #[v0, v1, v2] 54)) base (fun _ => True) (.slice (some ⟨W.heap.size, 0, none⟩) 1 1) [x] := by
  have hb1 : (W.alloc (.cells #[v0, v1, v2] 54)).heap[W.heap.size]? = some (.cells #[v0, v1, v2] 54 (0, 0)) := by
    show (W.heap.push _)[W.heap.size]? = _
    exact Array.getElem?_push_size
  exact S_shut (d := k54) (e := 54) (W := W.alloc (.cells #[v0, v1, v2] 54)) (base := base) (g := W.heap.size) (cap := 1) (cur := #[v0, v1, v2]) (cs := [([v0, v1, v2], (x, 0))]) (f := fun _ => 0) trivial hb hb1 (Nat.le_refl 1) (by unfold maxLen; omega) rfl (by simp)
    (fun c hc => by
      rw [List.mem_singleton.1 hc]
      exact Kd.M_below (k54.M_mono (fun k hk => ⟨⟨trivial, by have := hk.2.2.1; omega⟩, rfl⟩) (k54.M_bound h)) (below_alloc (Below.refl _ _) _))
    (fun j hj i hi => by
      obtain rfl : j = 0 := by simpa using hj
      rw [blk_cell hb1]
      simp)
/-- A region that was made, beside those that were there. -/
structure PB (w w3 : World) (N : Nat) (v : Value) (xs : List SR) (v0 v1 v2 : Value) (x : SR) : Prop where
  so : Kd.S k54 54 w3 w.heap.size (fun k => True ∧ ¬ (N ≤ k)) v xs
  m : k54.M w3 w.heap.size (fun k => N ≤ k) x [v0, v1, v2]
  ne : ∀ k, N ≤ k → True ∧ some k ≠ v.ownBlock
  bl : Below w.heap.size w w3
theorem PB.of {o : Obj} (hB : Below w.heap.size w W) (hS : Kd.S k54 54 W w.heap.size (fun _ => True) v xs) (hb : Below (W.alloc o).heap.size (W.alloc o) w3)
    (h0 : (Kd.int .i64).R 3 w3 (W.alloc o).heap.size P0 v0 r1) (h1 : k47.R 47 w3 (W.alloc o).heap.size P1 v1 r2) (h2 : (Kd.int .i64).R 3 w3 (W.alloc o).heap.size P2 v2 r3) : PB w w3 (W.alloc o).heap.size v xs v0 v1 v2 (mkR (r1, r2, r3)) := by
  have hs : (W.alloc o).heap.size = W.heap.size + 1 := by simp
  have hb2 : Below W.heap.size W w3 := (below_alloc (Below.refl _ _) o).trans (hb.mono (by omega))
  refine ⟨Kd.S_mono (Kd.S_old hS hb2) (fun k hk => ⟨trivial, by omega⟩), reg_M (by have := hB.size; omega) h0 h1 h2, fun k hk => ⟨trivial, fun e => ?_⟩, below_step hB hb2⟩
  have := Kd.S_lt hS k e.symm
  omega
end
set_option maxHeartbeats 4000000 in
set_option maxRecDepth 100000 in
theorem impl_planeRegions.calls (k : Nat) (a0 : Int) (A1 : Option Addr) (c1 : Nat) (l1 : List CH) (r1 : List SR) (r2 : Bool) (w : World) (hr1 : Kd.C k47 w A1 l1.length l1) (hc1 : l1.length ≤ c1) (h : impl_planeRegions.f k a0 l1 = some (r1, r2)) :
    Calls Try.prog 35 #[.int .i64 a0, .slice A1 l1.length c1] w fun e w' => ∃ v0_ : Value, e = .returned (.tuple #[v0_, .bool r2]) ∧ Kd.S k54 54 w' w.heap.size (fun _ => True) v0_ r1 ∧ Below w.heap.size w w' := by
  obtain ⟨s, hs, h⟩ := Option.bind_eq_some_iff.mp h
  have HI := Aside0.mk (impl_isSet.calls k a0 A1 c1 l1 s w hr1 hc1 hs)
  have HR1 := Aside0.mk hr1
  have HC1 := Aside0.mk hc1
  clear hr1 hc1 hs
  cases s with
  | false =>
    rw [if_neg (by simp)] at h
    injection h with h
    injection h with h1 h2
    subst h1 h2
    go_enter Try.func35, Try.ntmps35
    go_wp2_with (go_at_call 61; refine HI.out.mono ?_; rintro e w' ⟨rfl, hb⟩)
    go_ret2
    exact ⟨_, rfl, Kd.S_nil _ _ _ _ _, hb⟩
  | true =>
    rw [if_pos rfl] at h
    obtain ⟨n, hn, h⟩ := Option.bind_eq_some_iff.mp h
    have HN := Aside0.mk (fun (W : World) (hb : Below w.heap.size w W) => impl_crossings.calls k A1 c1 l1 n W (Kd.C_below HR1.out hb) HC1.out hn)
    clear hn
    by_cases h0 : n > 0
    · rw [if_pos h0] at h
      injection h with h
      injection h with h1 h2
      subst h1 h2
      have e0 : decide (n > 0) = true := decide_eq_true h0
      have e1 : decide (0 < n) = true := decide_eq_true h0
      clear h0
      go_enter Try.func35, Try.ntmps35
      go_wp2_with (first | (go_at_call 61; refine HI.out.mono ?_; rintro e w' ⟨rfl, hb⟩; have HBa := Aside0.mk hb; clear hb) | (go_at_call 62; refine (HN.out _ HBa.out).mono ?_; rintro e w' ⟨rfl, hb⟩; have HBb := Aside0.mk (below_step HBa.out hb); clear hb))
      go_ret2
      exact ⟨_, rfl, Kd.S_nil _ _ _ _ _, HBb.out⟩
    · rw [if_neg h0] at h
      by_cases hr : 0 ≤ a0 ∧ a0 ≤ 1000 ∧ l1.length ≤ 1000
      rotate_left
      · rw [if_neg hr] at h; cases h
      rw [if_pos hr] at h
      obtain ⟨q, hq, h⟩ := Option.bind_eq_some_iff.mp h
      obtain ⟨rs, hrs, h⟩ := Option.bind_eq_some_iff.mp h
      split at h
      rotate_left
      · cases h
      rename_i hok
      injection h with h
      injection h with h1 h2
      subst h1 h2
      have e0 : decide (n > 0) = false := decide_eq_false h0
      have e1 : decide (0 < n) = false := decide_eq_false h0
      have e2 : IntKind.i64.wrap (a0 - 1) = a0 - 1 := by
        rw [i64_w]
        exact M.w64 (by omega) (by omega)
      obtain ⟨q1, q2, q3⟩ := q
      have HQ := Aside0.mk (fun (W : World) (hb : Below w.heap.size w W) => impl_regionInside.calls k A1 c1 l1 0 (a0 - 1) false q1 q2 q3 W (Kd.C_below HR1.out hb) HC1.out hq)
      obtain ⟨al, hal⟩ : ∃ al, al = mkR (q1, q2, q3) :: rs := ⟨_, rfl⟩
      rw [← hal] at hok ⊢
      have HOK := Aside0.mk hok
      have HAL := Aside0.mk (show (allR k l1 (l1.drop 0)).bind (fun rs => some ([mkR (q1, q2, q3)] ++ rs)) = some al by rw [List.drop_zero, hrs, hal]; rfl)
      have HL := Aside0.mk hr
      have hlen : l1.length ≤ 1000 := hr.2.2
      clear h0 hq hrs hok hal hr
      go_enter Try.func35, Try.ntmps35
      go_wp2_with (first | (go_at_call 61; refine HI.out.mono ?_; rintro e w' ⟨rfl, hb⟩; have HBa := Aside0.mk hb; clear hb) | (go_at_call 62; refine (HN.out _ HBa.out).mono ?_; rintro e w' ⟨rfl, hb⟩; have HBb := Aside0.mk (below_step HBa.out hb); clear hb) | (go_at_call 63; refine (HQ.out _ HBb.out).mono ?_; rintro e w3 ⟨v0, v1, v2, rfl, g0, g1, g2, hb⟩; have HBc := Aside0.mk (below_alloc (below_step HBb.out hb) (.cells #[v0, v1, v2] 54)); have HS := Aside0.mk (S_one (Nat.le_trans HBb.out.size hb.size) (reg_M HBb.out.size g0 g1 g2)); clear hb g0 g1 g2))
      clear e0 e1 e2
      obtain ⟨N, hN⟩ : ∃ N, N = l1.length := ⟨_, rfl⟩
      go_loopg [6, 26] N (fun gg v6 v26 W => ∃ (j : Nat) (xs : List SR), v26 = .int .i64 j ∧ Aside0 (j + gg = N) ∧ Aside0 (Below w.heap.size w W) ∧ Aside0 (Kd.S k54 54 W w.heap.size (fun _ => True) v6 xs) ∧ Aside0 (xs.length = j + 1) ∧ Aside0 ((allR k l1 (l1.drop j)).bind (fun rs => some (xs ++ rs)) = some al))
      case atStart => exact ⟨0, [mkR (q1, q2, q3)], by first | rfl | (simp; done), ⟨by omega⟩, HBc, HS, ⟨rfl⟩, HAL⟩
      case round =>
        clear HBc HS HAL HI HN HQ HBa HBb
        obtain ⟨j, xs, rfl, HG, HB, HS, HXL, HA⟩ := hrel
        have hN2 : (N : Int) = (l1.length : Int) := by omega
        by_cases hj : j < N
        · have hjl : j < l1.length := by omega
          have e1 : decide ((j : Int) < (l1.length : Int)) = true := decide_eq_true (by omega)
          have e2 : IntKind.i64.wrap ((j : Int) + 1) = ((j + 1 : Nat) : Int) := by
            rw [i64_w]
            exact M.w64 (by omega) (by omega)
          obtain ⟨gm, rfl⟩ : ∃ gm, gk = gm + 1 := ⟨gk - 1, by have := HG.out; omega⟩
          obtain ⟨c, hc⟩ : ∃ c, c = l1[j] := ⟨_, rfl⟩
          have hA := HA.out
          rw [List.drop_eq_getElem_cons hjl, ← hc, allR] at hA
          obtain ⟨rs', hA, hA2⟩ := Option.bind_eq_some_iff.mp hA
          obtain ⟨⟨p1, p2, p3⟩, hp, hA⟩ := Option.bind_eq_some_iff.mp hA
          obtain ⟨rs2, hA3, hA⟩ := Option.bind_eq_some_iff.mp hA
          injection hA with hA
          subst hA
          have HA2 := Aside0.mk (show (allR k l1 (l1.drop (j + 1))).bind (fun rs => some ((xs ++ [mkR (p1, p2, p3)]) ++ rs)) = some al by
            rw [hA3, ← hA2]
            simp)
          have HP := Aside0.mk (fun (W : World) (hb : Below w.heap.size w W) => impl_regionInside.calls k A1 c1 l1 c.f0 c.f1 true p1 p2 p3 W (Kd.C_below HR1.out hb) HC1.out hp)
          obtain ⟨ad, ea, x0, x1⟩ := at_T47 (Kd.C_below HR1.out HB.out) (j : Int) (by omega) (by omega)
          rw [M.rd_ch l1 j hjl, ← hc] at x0 x1
          rw [Int.toNat_natCast] at x0 x1
          cases ea
          clear hc hA2 hA3 hp HA
          go_wp2_with (first | (go_at_call 63; refine (HP.out _ (below_alloc HB.out _)).mono ?_; rintro e w3 ⟨v0, v1, v2, rfl, g0, g1, g2, hb⟩; have HPB := Aside0.mk (PB.of HB.out HS.out hb g0 g1 g2); clear hb g0 g1 g2) | ((with_reducible refine gate_builtin (b := .append) (xs := #[.tmp 30, .tmp 34]) rfl ?_); at_builtin; refine Kd.S_append k54 (w0 := w) w.heap.size rfl (.tmp 30) (.tmp 34) 50 54 (.agg #[.slice none 0 0, .slice none 0 0, .slice none 0 0]) 72 rfl Try.underlying50 info54 rfl (by decide) (by omega) _ xs (mkR (p1, p2, p3)) [v0, v1, v2] (fun _ => True) _ rfl rfl HPB.out.m HPB.out.ne (fun _ _ => trivial) HPB.out.so HPB.out.bl HPB.out.bl.size ?hl1 ?_; (case hl1 => have := HXL.out; omega); intro v7 w7 hs7 hb7 hg7 hat7; have HS7 := Aside0.mk hs7; have HB7 := Aside0.mk hb7; clear hs7 hb7 hg7 hat7))
          go_roundg gm
          case measure => omega
          case rel => exact ⟨j + 1, xs ++ [mkR (p1, p2, p3)], by first | rfl | (simp; done), ⟨by have := HG.out; omega⟩, HB7, HS7, ⟨by rw [List.length_append, HXL.out]; rfl⟩, HA2⟩
        · have hA := HA.out
          have e1 : decide ((j : Int) < (l1.length : Int)) = false := decide_eq_false (by omega)
          have e1' : decide (j < l1.length) = false := decide_eq_false (by omega)
          have hxl : xs.length ≤ 1000000 := by have := HXL.out; have := HG.out; omega
          have hxn : xs ≠ [] := fun e => by have := HXL.out; rw [e] at this; simp at this
          rw [List.drop_eq_nil_of_le (by omega), allR, Option.bind_some, List.append_nil] at hA
          injection hA with hA
          subst hA
          have HX := Aside0.mk (show xs.length ≤ 1000000 ∧ xs ≠ [] from ⟨hxl, hxn⟩)
          clear HA hj hxl hxn
          go_wp2_with (go_at_call 64; refine (sort_region w.heap.size (fun _ => True) _ xs _ HS.out HB.out.size HX.out.2 HX.out.1 HOK.out.2 HOK.out.1).mono ?_; rintro e w8 ⟨rfl, hs8, hb8⟩; have HS8 := Aside0.mk hs8; have HB8 := Aside0.mk (HB.out.trans hb8); clear hs8 hb8)
          go_ret2
          exact ⟨_, by first | rfl | (simp; done), HS8.out, HB8.out⟩
end Go.Proofs.Ytdeenfpcmaadcaa.Pr

/- What is asked of a predicate that is handed to the library, and the place of the first element for which it holds. -/
namespace Go.Proofs.Ytdeenfpcmaadcaa.Pr
open Go.RowKit Go.Proofs.YtdeenfpcmaadcaaW.PrintWords Go.Proofs.YtdeenfpcmaadcaaW.PrintLast Go.Proofs.YtdeenfpcmaadcaaW.PrintMore
set_option linter.unusedVariables false
set_option linter.unusedSimpArgs false

/-- A function value that tells p of the elements of a list, in any world in which what was there is as it was. -/
def PredB {α : Type} (g : Nat) (lb : Array Value) (enc : α → Value) (p : α → Bool) (zs : List α) (w : World) : Prop :=
  ∀ (W : World) (x : α), x ∈ zs → Below w.heap.size w W → Calls Try.prog g (#[enc x] ++ lb) W fun e w' => e = .returned (.bool (p x)) ∧ Below W.heap.size W w'
/-- The place of the first element for which p holds, or -1. -/
def idxP {α : Type} (p : α → Bool) : List α → Int
  | [] => -1
  | x :: r => if p x = true then 0 else if idxP p r < 0 then -1 else idxP p r + 1
theorem idxP_ge {α : Type} (p : α → Bool) : ∀ l : List α, -1 ≤ idxP p l
  | [] => by simp [idxP]
  | x :: r => by
    have := idxP_ge p r
    unfold idxP
    split
    · omega
    · split <;> omega
theorem idxP_nonneg {α : Type} (p : α → Bool) : ∀ l : List α, decide (idxP p l ≥ 0) = l.any p
  | [] => by simp [idxP]
  | x :: r => by
    have ih := idxP_nonneg p r
    unfold idxP
    rw [List.any_cons, ← ih]
    cases hx : p x with
    | true => simp
    | false =>
      simp only [Bool.false_eq_true, if_false, Bool.false_or]
      split
      · rename_i h; simp; omega
      · rename_i h; simp; omega
theorem idxP_none {α : Type} (p : α → Bool) : ∀ l : List α, (∀ x ∈ l, p x = false) → idxP p l = -1
  | [], _ => rfl
  | x :: r, h => by
    unfold idxP
    rw [if_neg (by rw [h x (List.mem_cons_self ..)]; simp), idxP_none p r (fun y hy => h y (List.mem_cons_of_mem _ hy))]
    simp
theorem idxP_at {α : Type} (p : α → Bool) : ∀ (l : List α) (i : Nat) (h : i < l.length), p l[i] = true → (∀ j (hj : j < i), p (l[j]'(by omega)) = false) → idxP p l = i
  | [], i, h, _, _ => by simp at h
  | x :: r, 0, h, hp, _ => by
    unfold idxP
    rw [if_pos (by simpa using hp)]
    rfl
  | x :: r, i + 1, h, hp, hn => by
    have h0 := hn 0 (by omega)
    have ih := idxP_at p r i (by simpa using h) (by simpa using hp) (fun j hj => by simpa using hn (j + 1) (by omega))
    unfold idxP
    rw [if_neg (by simp at h0; rw [h0]; simp), ih, if_neg (by omega)]
    omega

end Go.Proofs.Ytdeenfpcmaadcaa.Pr

/- What slices.IndexFunc and slices.ContainsFunc compute on chords, for any predicate that leaves old memory as it was. -/
namespace Go.Proofs.Ytdeenfpcmaadcaa.Pr
open Go.RowKit Go.Proofs.YtdeenfpcmaadcaaW.PrintWords Go.Proofs.YtdeenfpcmaadcaaW.PrintLast Go.Proofs.YtdeenfpcmaadcaaW.PrintMore
set_option linter.unusedVariables false
set_option linter.unusedSimpArgs false

def encCh (x : S47) : Value := .agg #[.int .i64 x.f0, .int .i64 x.f1]
theorem rdCh (l : List S47) (i : Nat) (h : i < l.length) : rd_T47 l (i : Int) = l[i] := by
  unfold rd_T47
  simp [List.getD_eq_getElem?_getD, List.getElem?_eq_getElem h]

set_option maxHeartbeats 2000000 in
set_option maxRecDepth 100000 in
theorem indexFunc_chord (A : Option Addr) (c : Nat) (zs : List S47) (p : S47 → Bool) (g : Nat) (lb : Array Value) (eg : ∀ args w, (callFunc g args).run Try.prog w = .ok (.enter g args) w) (w : World)
    (hr : Kd.C k47 w A zs.length zs) (hc : zs.length ≤ c) (hp : PredB g lb encCh p zs w) :
    Calls Try.prog 90 #[.slice A zs.length c, .func (.func g) #[] lb] w fun e w' => e = .returned (.int .i64 (idxP p zs)) ∧ Below w.heap.size w w' := by
  have hbig : zs.length ≤ 9223372036854775807 := hr.2.1
  have HR := Aside0.mk hr
  have HP := Aside0.mk hp
  have hu60 := Try.underlying47
  clear hr hp hc
  go_enter Try.func90, Try.ntmps90
  go_wp2
  go_loopg [5, 8] zs.length (fun gg _ s8 wr => ∃ i : Nat, s8 = .int .i64 i ∧ Aside0 (i ≤ zs.length) ∧ Aside0 (zs.length - i ≤ gg) ∧ Aside0 (Below w.heap.size w wr) ∧ Aside0 (∀ j (hj : j < zs.length), j < i → p zs[j] = false))
  case atStart => exact ⟨0, rfl, ⟨Nat.zero_le _⟩, ⟨by omega⟩, ⟨Below.refl _ w⟩, ⟨fun j _ hj => absurd hj (Nat.not_lt_zero _)⟩⟩
  case round =>
    obtain ⟨i, rfl, HI, HG, HB, HA⟩ := hrel
    by_cases hlt : i < zs.length
    · have c4b0 : decide ((i : Int) < (zs.length : Int)) = true := decide_eq_true (by omega)
      have c5b0 : decide (i < zs.length) = true := decide_eq_true hlt
      obtain ⟨ad, e, h0, h1⟩ := at_T47 HR.out (i : Int) (by omega) (by omega)
      cases e
      rw [rdCh zs i hlt, Int.toNat_natCast] at h0 h1
      replace h0 := (HB.out.cell (World.block_lt_of_cell? w _ h0)).trans h0
      replace h1 := (HB.out.cell (World.block_lt_of_cell? w _ h1)).trans h1
      have hcall := HP.out wr zs[i] (List.getElem_mem hlt) HB.out
      have hn := HA.out
      obtain ⟨y, hy⟩ : ∃ y, zs[i] = y := ⟨_, rfl⟩
      have HY := Aside0.mk hy
      rw [hy] at h0 h1 hcall
      have HN := Aside0.mk hn
      clear hn hy
      cases hq : p y with
      | true =>
        rw [hq] at hcall
        have HQ := Aside0.mk hq
        clear hq
        go_wp2_with (go_at_fn g; refine hcall.mono ?_; rintro e w' ⟨rfl, hb1⟩)
        have hb' := HB.out.trans (hb1.mono HB.out.size)
        go_ret
        exact ⟨congrArg (fun z => Ending.returned (Value.int .i64 z)) (idxP_at p zs i hlt (by rw [HY.out]; exact HQ.out) (fun j hj => HN.out j (by omega) hj)).symm, hb'⟩
      | false =>
        rw [hq] at hcall
        have HQ := Aside0.mk hq
        clear hq
        go_wp2_with (go_at_fn g; refine hcall.mono ?_; rintro e w' ⟨rfl, hb1⟩)
        have hb' := HB.out.trans (hb1.mono HB.out.size)
        go_roundg (zs.length - (i + 1))
        case measure => have := HG.out; omega
        case rel =>
          refine ⟨i + 1, by go_num, ⟨by omega⟩, ⟨by omega⟩, ⟨hb'⟩, ⟨fun j hj hji => ?_⟩⟩
          by_cases e : j = i
          · subst e
            rw [HY.out]; exact HQ.out
          · exact HN.out j hj (by omega)
    · have c4b0 : decide ((i : Int) < (zs.length : Int)) = false := decide_eq_false (by omega)
      have c5b0 : decide (i < zs.length) = false := decide_eq_false hlt
      have hall := Aside0.mk (idxP_none p zs (fun x hx => by
        obtain ⟨j, hj, rfl⟩ := List.getElem_of_mem hx
        exact HA.out j hj (by omega)))
      have HB2 := HB
      clear HA HP HR
      go_wp2
      go_ret
      exact ⟨congrArg (fun z => Ending.returned (Value.int .i64 z)) hall.out.symm, HB2.out⟩

set_option maxHeartbeats 2000000 in
theorem containsFunc_chord (A : Option Addr) (c : Nat) (zs : List S47) (p : S47 → Bool) (g : Nat) (lb : Array Value) (eg : ∀ args w, (callFunc g args).run Try.prog w = .ok (.enter g args) w) (w : World)
    (hr : Kd.C k47 w A zs.length zs) (hc : zs.length ≤ c) (hp : PredB g lb encCh p zs w) :
    Calls Try.prog 73 #[.slice A zs.length c, .func (.func g) #[] lb] w fun e w' => e = .returned (.bool (zs.any p)) ∧ Below w.heap.size w w' := by
  rw [← idxP_nonneg p zs]
  have hcon := indexFunc_chord A c zs p g lb eg w hr hc hp
  clear hr hp
  generalize idxP p zs = r at hcon ⊢
  go_enter Try.func73, Try.ntmps73
  go_wp2_with (go_at_call 90; refine hcon.mono ?_; rintro e w' ⟨rfl, hb'⟩)
  go_ret
  exact ⟨by simp, hb'⟩
end Go.Proofs.Ytdeenfpcmaadcaa.Pr

-- Written by a program for this claim.
namespace Go.Proofs.Ytdeenfpcmaadcaa.Pr
open Go.RowKit Go.Proofs.YtdeenfpcmaadcaaW.PrintWords Go.Proofs.YtdeenfpcmaadcaaW.PrintLast Go.Proofs.YtdeenfpcmaadcaaW.PrintMore
attribute [local go_sem] max2_int min2_int max_two min_two max_three min_three max_four min_four   -- for this text's walks alone
set_option linter.unusedVariables false
set_option linter.unusedSimpArgs false

attribute [local go_sem high] eqA47
/-! ### impl_Chord_75: function 75 -/
def impl_Chord_75.l0 : Nat → List (S47) → Int → Int → Int → Int → Option (Int)
  | 0, _, _, _, _, _ => none
  | k + 1, x0, x7, x8, x154000, x154001 => if x8 < x7 then (if 0 ≤ x8 then (if x8 < (x0.length : Int) then (if (x154000 == ((rd_T47 x0 x8).f0) && (x154001 == ((rd_T47 x0 x8).f1))) = true then (some x8) else (impl_Chord_75.l0 k x0 x7 (wrap64 (x8 + 1)) x154000 x154001)) else (none)) else (none)) else (some (-1))
def impl_Chord_75.f (k : Nat) (l0 : List (S47)) (a1_0 : Int) (a1_1 : Int) : Option (Int) := impl_Chord_75.l0 k l0 (l0.length : Int) 0 a1_0 a1_1
theorem impl_Chord_75.mono_l : ∀ k, (∀ y0 y1 y2 y3 y4, LeO (impl_Chord_75.l0 k y0 y1 y2 y3 y4) (impl_Chord_75.l0 (k + 1) y0 y1 y2 y3 y4))
  | 0 => fun _ _ _ _ _ r h => by simp [impl_Chord_75.l0] at h
  | k + 1 => by
    have ih0 := impl_Chord_75.mono_l k
    · intro y0 y1 y2 y3 y4
      unfold impl_Chord_75.l0
      repeat' first
      | (with_reducible exact ih0 _ _ _ _ _)
      | (with_reducible exact LeO.refl _)
      | (with_reducible exact LeO.none _)
      | (with_reducible refine LeO.ite ?_ ?_)
      | (with_reducible refine LeO.bind ?_ (fun _ => ?_))
      | exact ih0 _ _ _ _ _
      | exact LeO.none _
      | refine LeO.ite ?_ ?_
      | refine LeO.bind ?_ (fun _ => ?_)
theorem impl_Chord_75.mono : ∀ a0 a1 a2 k, LeO (impl_Chord_75.f k a0 a1 a2) (impl_Chord_75.f (k + 1) a0 a1 a2) := by
  intro a0 a1 a2 k
  have ih0 := impl_Chord_75.mono_l k
  unfold impl_Chord_75.f
  repeat' first
      | (with_reducible exact ih0 _ _ _ _ _)
      | (with_reducible exact LeO.refl _)
      | (with_reducible exact LeO.none _)
      | (with_reducible refine LeO.ite ?_ ?_)
      | (with_reducible refine LeO.bind ?_ (fun _ => ?_))
      | exact ih0 _ _ _ _ _
      | exact LeO.none _
      | refine LeO.ite ?_ ?_
      | refine LeO.bind ?_ (fun _ => ?_)
set_option maxHeartbeats 8000000 in
set_option maxRecDepth 100000 in
theorem impl_Chord_75.calls (k : Nat) (A0 : Option Addr) (c0 : Nat) (l0 : List (S47)) (a1_0 : Int) (a1_1 : Int) (r : Int) (w : World) (hr0 : Kd.C k47 w A0 l0.length l0) (hc0 : l0.length ≤ c0) (h : impl_Chord_75.f k l0 a1_0 a1_1 = some r) :
    Calls Try.prog 75 #[.slice A0 l0.length c0, .agg #[.int .i64 a1_0, .int .i64 a1_1]] w fun e w' => e = .returned (.int .i64 r) ∧ Below w.heap.size w w' := by
  have hu47 := Try.underlying47
  have HR0 := Aside0.mk hr0
  have HC0 := Aside0.mk hc0
  clear hr0 hc0
  have HB := Aside0.mk (Below.refl w.heap.size w)
  have H : (impl_Chord_75.l0 k l0 (l0.length : Int) 0 a1_0 a1_1) = some r := h
  clear h
  have H' := Aside0.mk H
  clear H
  go_enter Try.func75, Try.ntmps75
  go_wp2_with (first | ((with_reducible refine gate_dst (N := 3) rfl ?_); refine box_event ?hg (N := 3) ?hd (cs := #[.int .i64 a1_0, .int .i64 a1_1]) (t := 47) ?hr ?_; (case hd => rfl); (case hg => rfl); (case hr => first | (go_simp; done) | (go_simp; rfl)); intro gb153 hg w3 hbox hb; have n0_ := Aside0.mk (below_step (by repeat (first | (with_reducible first | exact HB.out | apply below_alloc | apply pw_below_drewN | apply below_drew1) | exact HB.out)) hb); have n1_ := Aside0.mk (hbox); have n2_ := Aside0.mk ((by rw [hg]; exact (below_size (by repeat (first | (with_reducible first | exact HB.out | apply below_alloc | apply pw_below_drewN | apply below_drew1) | exact HB.out))) : w.heap.size ≤ gb153)); have n3_ := Aside0.mk ((by rw [hg]; exact (below_size (by repeat (first | (with_reducible first | exact HB.out | apply below_alloc | apply pw_below_drewN | apply below_drew1) | exact HB.out))) : w.heap.size ≤ gb153)); clear HB; have HB := n0_; have BK153 := n1_; have GW153 := n2_; have GE153 := n3_; clear n0_ n1_ n2_ n3_; clear hb hbox hg))
  repeat (go_quiet (first | ((with_reducible refine gate_dst (N := 3) rfl ?_); refine box_event ?hg (N := 3) ?hd (cs := #[.int .i64 a1_0, .int .i64 a1_1]) (t := 47) ?hr ?_; (case hd => rfl); (case hg => rfl); (case hr => first | (go_simp; done) | (go_simp; rfl)); intro gb153 hg w3 hbox hb; have n0_ := Aside0.mk (below_step (by repeat (first | (with_reducible first | exact HB.out | apply below_alloc | apply pw_below_drewN | apply below_drew1) | exact HB.out)) hb); have n1_ := Aside0.mk (hbox); have n2_ := Aside0.mk ((by rw [hg]; exact (below_size (by repeat (first | (with_reducible first | exact HB.out | apply below_alloc | apply pw_below_drewN | apply below_drew1) | exact HB.out))) : w.heap.size ≤ gb153)); have n3_ := Aside0.mk ((by rw [hg]; exact (below_size (by repeat (first | (with_reducible first | exact HB.out | apply below_alloc | apply pw_below_drewN | apply below_drew1) | exact HB.out))) : w.heap.size ≤ gb153)); clear HB; have HB := n0_; have BK153 := n1_; have GW153 := n2_; have GE153 := n3_; clear n0_ n1_ n2_ n3_; clear hb hbox hg)); try go_wp2_with (first | ((with_reducible refine gate_dst (N := 3) rfl ?_); refine box_event ?hg (N := 3) ?hd (cs := #[.int .i64 a1_0, .int .i64 a1_1]) (t := 47) ?hr ?_; (case hd => rfl); (case hg => rfl); (case hr => first | (go_simp; done) | (go_simp; rfl)); intro gb153 hg w3 hbox hb; have n0_ := Aside0.mk (below_step (by repeat (first | (with_reducible first | exact HB.out | apply below_alloc | apply pw_below_drewN | apply below_drew1) | exact HB.out)) hb); have n1_ := Aside0.mk (hbox); have n2_ := Aside0.mk ((by rw [hg]; exact (below_size (by repeat (first | (with_reducible first | exact HB.out | apply below_alloc | apply pw_below_drewN | apply below_drew1) | exact HB.out))) : w.heap.size ≤ gb153)); have n3_ := Aside0.mk ((by rw [hg]; exact (below_size (by repeat (first | (with_reducible first | exact HB.out | apply below_alloc | apply pw_below_drewN | apply below_drew1) | exact HB.out))) : w.heap.size ≤ gb153)); clear HB; have HB := n0_; have BK153 := n1_; have GW153 := n2_; have GE153 := n3_; clear n0_ n1_ n2_ n3_; clear hb hbox hg)))
  go_loopg [8] k (fun kq v8 w' => ∃ (x8_1 : Int), v8 = .int .i64 x8_1 ∧ Aside0 (impl_Chord_75.l0 kq l0 (l0.length : Int) x8_1 a1_0 a1_1 = some r) ∧ Aside0 (kq ≤ k) ∧ Aside0 (w'.heap[gb153]? = some (.cells #[.int .i64 a1_0, .int .i64 a1_1] 47 (0, 0))) ∧ Aside0 (Below w.heap.size w w'))
  case atStart => exact ⟨(0), (by first | rfl | (simp; done) | (simp [*]; done)), H', ⟨Nat.le_refl _⟩, ⟨by (with_reducible repeat (first | refine blk_drewN ?_ _ | refine blk_drew ?_ | refine blk_alloc ?_ _)); exact BK153.out⟩, ⟨by repeat (first | (with_reducible first | exact HB.out | apply below_alloc | apply pw_below_drewN | apply below_drew1 | refine below_set ?_ GE153.out) | exact HB.out)⟩⟩
  case round =>
    clear H'
    try clear p2
    obtain ⟨x8_1, rfl, HA, HK1, BK153, HB⟩ := hrel
    cases gk with
    | zero => exact absurd HA.out (by simp [impl_Chord_75.l0])
    | succ k1 =>
      have H := HA.out
      clear HA
      simp only [impl_Chord_75.l0] at H
      by_cases c4 : x8_1 < (l0.length : Int)
      · rw [if_pos c4] at H
        have c4b0 : decide (x8_1 < (l0.length : Int)) = true := decide_eq_true c4
        clear c4
        by_cases c5 : 0 ≤ x8_1
        · rw [if_pos c5] at H
          have c5b0 : decide (0 ≤ x8_1) = true := decide_eq_true c5
          clear c5
          by_cases c6 : x8_1 < (l0.length : Int)
          · rw [if_pos c6] at H
            have c6b0 : decide (x8_1 < (l0.length : Int)) = true := decide_eq_true c6
            clear c6
            by_cases c7 : (a1_0 == ((rd_T47 l0 x8_1).f0) && (a1_1 == ((rd_T47 l0 x8_1).f1))) = true
            · rw [if_pos c7] at H
              have c7b0 : (a1_0 == ((rd_T47 l0 x8_1).f0) && (a1_1 == ((rd_T47 l0 x8_1).f1))) = true := c7
              (try (have c7b1 : decide (a1_0 = ((rd_T47 l0 x8_1).f0) && (a1_1 == ((rd_T47 l0 x8_1).f1))) = true := by simpa using c7))
              (try (have c7b2 : (a1_0 == ((rd_T47 l0 x8_1).f0) && (a1_1 == ((rd_T47 l0 x8_1).f1))) = true := by simpa using c7))
              clear c7
              obtain rfl := Option.some.inj H
              have hcz8_0 : wr.cell? ⟨gb153, 0, none⟩ = some (.int .i64 a1_0) := (blk_cell BK153.out 0).trans rfl
              have hcz8_1 : wr.cell? ⟨gb153, 1, none⟩ = some (.int .i64 a1_1) := (blk_cell BK153.out 1).trans rfl
              have hfz8_0 := blk_frozen BK153.out 0
              have hfz8_1 := blk_frozen BK153.out 1
              have p154 : 0 ≤ (x8_1 : Int) := of_decide_eq_true (by first | (with_reducible assumption) | assumption)
              have q154 : x8_1 < (l0.length : Int) := of_decide_eq_true (by first | (with_reducible assumption) | assumption)
              obtain ⟨ad154, e154, hx154_0, hx154_1⟩ := at_T47 HR0.out x8_1 p154 q154
              cases e154
              replace hx154_0 := (HB.out.cell (World.block_lt_of_cell? w _ hx154_0)).trans hx154_0
              replace hx154_1 := (HB.out.cell (World.block_lt_of_cell? w _ hx154_1)).trans hx154_1
              replace p154 := eq_true p154
              replace q154 := eq_true q154
              go_wp2
              repeat (go_quiet (fail); try go_wp2)
              go_ret
              exact ⟨by first | rfl | (simp [errW_none, errW_some] <;> rfl) | (simp [*, errW_none, errW_some] <;> rfl), by repeat (first | (with_reducible first | exact HB.out | apply below_alloc | apply pw_below_drewN | apply below_drew1 | refine below_set ?_ GE153.out) | exact HB.out)⟩
            · rw [if_neg c7] at H
              have c7b0 : (a1_0 == ((rd_T47 l0 x8_1).f0) && (a1_1 == ((rd_T47 l0 x8_1).f1))) = false := by simpa using c7
              (try (have c7b1 : decide (a1_0 = ((rd_T47 l0 x8_1).f0) && (a1_1 == ((rd_T47 l0 x8_1).f1))) = false := by simpa using c7))
              (try (have c7b2 : (a1_0 == ((rd_T47 l0 x8_1).f0) && (a1_1 == ((rd_T47 l0 x8_1).f1))) = false := by simpa using c7))
              (try (have c7b3 : ¬ (a1_0 = ((rd_T47 l0 x8_1).f0) && (a1_1 == ((rd_T47 l0 x8_1).f1))) := by simpa using c7))
              clear c7
              have H' := Aside0.mk H
              clear H
              have hcz9_0 : wr.cell? ⟨gb153, 0, none⟩ = some (.int .i64 a1_0) := (blk_cell BK153.out 0).trans rfl
              have hcz9_1 : wr.cell? ⟨gb153, 1, none⟩ = some (.int .i64 a1_1) := (blk_cell BK153.out 1).trans rfl
              have hfz9_0 := blk_frozen BK153.out 0
              have hfz9_1 := blk_frozen BK153.out 1
              have p154 : 0 ≤ (x8_1 : Int) := of_decide_eq_true (by first | (with_reducible assumption) | assumption)
              have q154 : x8_1 < (l0.length : Int) := of_decide_eq_true (by first | (with_reducible assumption) | assumption)
              obtain ⟨ad154, e154, hx154_0, hx154_1⟩ := at_T47 HR0.out x8_1 p154 q154
              cases e154
              replace hx154_0 := (HB.out.cell (World.block_lt_of_cell? w _ hx154_0)).trans hx154_0
              replace hx154_1 := (HB.out.cell (World.block_lt_of_cell? w _ hx154_1)).trans hx154_1
              replace p154 := eq_true p154
              replace q154 := eq_true q154
              go_wp2
              repeat (go_quiet (fail); try go_wp2)
              go_roundg k1
              case measure => have := HK1.out; omega
              case rel => exact ⟨(wrap64 (x8_1 + 1)), (by first | rfl | (simp; done) | (simp [*]; done)), H', ⟨by have := HK1.out; omega⟩, ⟨by (with_reducible repeat (first | refine blk_drewN ?_ _ | refine blk_drew ?_ | refine blk_alloc ?_ _)); exact BK153.out⟩, ⟨by repeat (first | (with_reducible first | exact HB.out | apply below_alloc | apply pw_below_drewN | apply below_drew1 | refine below_set ?_ GE153.out) | exact HB.out)⟩⟩
          · rw [if_neg c6] at H
            exact absurd H (by simp)
        · rw [if_neg c5] at H
          exact absurd H (by simp)
      · rw [if_neg c4] at H
        have c4b0 : decide (x8_1 < (l0.length : Int)) = false := decide_eq_false c4
        clear c4
        obtain rfl := Option.some.inj H
        go_wp2
        repeat (go_quiet (fail); try go_wp2)
        go_ret
        exact ⟨by first | rfl | (simp [errW_none, errW_some] <;> rfl) | (simp [*, errW_none, errW_some] <;> rfl), by repeat (first | (with_reducible first | exact HB.out | apply below_alloc | apply pw_below_drewN | apply below_drew1 | refine below_set ?_ GE153.out) | exact HB.out)⟩

end Go.Proofs.Ytdeenfpcmaadcaa.Pr

-- Written by a program for this claim.
namespace Go.Proofs.Ytdeenfpcmaadcaa.Pr
open Go.RowKit Go.Proofs.YtdeenfpcmaadcaaW.PrintWords Go.Proofs.YtdeenfpcmaadcaaW.PrintLast Go.Proofs.YtdeenfpcmaadcaaW.PrintMore
attribute [local go_sem] max2_int min2_int max_two min_two max_three min_three max_four min_four   -- for this text's walks alone
set_option linter.unusedVariables false
set_option linter.unusedSimpArgs false

/-! ### impl_Chord_51: function 51 -/
def impl_Chord_51.f (k : Nat) (l0 : List (S47)) (a1_0 : Int) (a1_1 : Int) : Option (Bool) := (impl_Chord_75.f k l0 a1_0 a1_1).bind fun t156 => (some (decide (t156 ≥ 0)))
theorem impl_Chord_51.mono : ∀ a0 a1 a2 k, LeO (impl_Chord_51.f k a0 a1 a2) (impl_Chord_51.f (k + 1) a0 a1 a2) := by
  intro a0 a1 a2 k
  unfold impl_Chord_51.f
  repeat' first
      | (with_reducible exact impl_Chord_75.mono _ _ _ _)
      | (with_reducible exact LeO.refl _)
      | (with_reducible exact LeO.none _)
      | (with_reducible refine LeO.ite ?_ ?_)
      | (with_reducible refine LeO.bind ?_ (fun _ => ?_))
      | exact impl_Chord_75.mono _ _ _ _
      | exact LeO.none _
      | refine LeO.ite ?_ ?_
      | refine LeO.bind ?_ (fun _ => ?_)
set_option maxHeartbeats 8000000 in
set_option maxRecDepth 100000 in
theorem impl_Chord_51.calls (k : Nat) (A0 : Option Addr) (c0 : Nat) (l0 : List (S47)) (a1_0 : Int) (a1_1 : Int) (r : Bool) (w : World) (hr0 : Kd.C k47 w A0 l0.length l0) (hc0 : l0.length ≤ c0) (h : impl_Chord_51.f k l0 a1_0 a1_1 = some r) :
    Calls Try.prog 51 #[.slice A0 l0.length c0, .agg #[.int .i64 a1_0, .int .i64 a1_1]] w fun e w' => e = .returned (.bool r) ∧ Below w.heap.size w w' := by
  have hu47 := Try.underlying47
  have HR0 := Aside0.mk hr0
  have HC0 := Aside0.mk hc0
  clear hr0 hc0
  have HB := Aside0.mk (Below.refl w.heap.size w)
  have H : ((impl_Chord_75.f k l0 a1_0 a1_1).bind fun t156 => (some (decide (t156 ≥ 0)))) = some r := h
  clear h
  replace H := Option.bind_eq_some_iff.mp H
  obtain ⟨t156, A30, H⟩ := H
  replace H : (some (decide (t156 ≥ 0))) = some r := H
  have A3 := Aside0.mk A30
  clear A30
  obtain rfl := Option.some.inj H
  go_enter Try.func51, Try.ntmps51
  go_wp2_with (first | ((with_reducible refine gate_dst (N := 3) rfl ?_); refine box_event ?hg (N := 3) ?hd (cs := #[.int .i64 a1_0, .int .i64 a1_1]) (t := 47) ?hr ?_; (case hd => rfl); (case hg => rfl); (case hr => first | (go_simp; done) | (go_simp; rfl)); intro gb155 hg w4 hbox hb; have n0_ := Aside0.mk (below_step (by repeat (first | (with_reducible first | exact HB.out | apply below_alloc | apply pw_below_drewN | apply below_drew1) | exact HB.out)) hb); have n1_ := Aside0.mk (hbox); have n2_ := Aside0.mk ((by rw [hg]; exact (below_size (by repeat (first | (with_reducible first | exact HB.out | apply below_alloc | apply pw_below_drewN | apply below_drew1) | exact HB.out))) : w.heap.size ≤ gb155)); have n3_ := Aside0.mk ((by rw [hg]; exact (below_size (by repeat (first | (with_reducible first | exact HB.out | apply below_alloc | apply pw_below_drewN | apply below_drew1) | exact HB.out))) : w.heap.size ≤ gb155)); clear HB; have HB := n0_; have BK155 := n1_; have GW155 := n2_; have GE155 := n3_; clear n0_ n1_ n2_ n3_; clear hb hbox hg; have hcz5_0 : w4.cell? ⟨gb155, 0, none⟩ = some (.int .i64 a1_0) := (blk_cell BK155.out 0).trans rfl; have hcz5_1 : w4.cell? ⟨gb155, 1, none⟩ = some (.int .i64 a1_1) := (blk_cell BK155.out 1).trans rfl; have hfz5_0 := blk_frozen BK155.out 0; have hfz5_1 := blk_frozen BK155.out 1) | ((with_reducible refine gate_callee (f := 75) rfl ?_); refine goesL_ (some 7) rfl rfl Try.func75 (by kernel_rfl) rfl #[.slice A0 l0.length c0, .agg #[.int .i64 a1_0, .int .i64 a1_1]] rfl (by (try simp only [List.map_toArray, List.map_cons, List.map_nil]); first | done | rfl | (simp only [List.length_drop, List.length_take]; rfl)) ?_; (with_reducible refine (impl_Chord_75.calls k _ _ l0 a1_0 a1_1 t156 _ ?side1 ?side2 A3.out).mono ?_); (case side1 => repeat (first | exact (Kd.C_below HR0.out HB.out) | (with_reducible refine Kd.C_alloc ?_ _) | (with_reducible refine Kd.C_drewN ?_ _) | (with_reducible refine Kd.C_drew ?_))); (case side2 => exact HC0.out); rintro e w6 ⟨rfl, hb⟩; refine ⟨_, rfl, ?_⟩; have n0_ := Aside0.mk (blk_below (g := gb155) (o := .cells #[.int .i64 a1_0, .int .i64 a1_1] 47 (0, 0)) (by (with_reducible repeat (first | refine blk_drewN ?_ _ | refine blk_drew ?_ | refine blk_alloc ?_ _)); exact BK155.out) hb); have n1_ := Aside0.mk (below_step (by repeat (first | (with_reducible first | exact HB.out | apply below_alloc | apply pw_below_drewN | apply below_drew1 | refine below_set ?_ GE155.out) | exact HB.out)) hb); clear BK155; clear HB; have BK155 := n0_; have HB := n1_; clear n0_ n1_; (try clear hb); (try clear hb2); (try clear hk); (try clear hi)))
  go_ret
  exact ⟨by first | rfl | (simp [errW_none, errW_some] <;> rfl) | (simp [*, errW_none, errW_some] <;> rfl), by repeat (first | (with_reducible first | exact HB.out | apply below_alloc | apply pw_below_drewN | apply below_drew1 | refine below_set ?_ GE155.out) | exact HB.out)⟩

end Go.Proofs.Ytdeenfpcmaadcaa.Pr

/- Whether a chord is one of a row of chords: the library's Contains, in plain words. -/
namespace Go.Proofs.Ytdeenfpcmaadcaa.M
open Go.RowKit Go.Proofs.YtdeenfpcmaadcaaW.PrintWords Go.Proofs.Ytdeenfpcmaadcaa.Pr
set_option linter.unusedVariables false
set_option linter.unusedSimpArgs false
def hasC (l : List Ch) (c : Ch) : Bool := l.any fun d => c.f0 == d.f0 && (c.f1 == d.f1)
theorem hasC_iff (l : List Ch) (c : Ch) : hasC l c = true ↔ c ∈ l := by
  unfold hasC
  rw [List.any_eq_true]
  constructor
  · rintro ⟨d, hd, e⟩
    rw [Bool.and_eq_true, beq_iff_eq, beq_iff_eq] at e
    have : c = d := by cases c; cases d; simp only at e; rw [e.1, e.2]
    rw [this]; exact hd
  · exact fun h => ⟨c, h, by simp⟩
theorem indexC_ev (l : List Ch) (c : Ch) (hl : l.length ≤ 9223372036854775807) : Ev (fun k => impl_Chord_75.f k l c.f0 c.f1) (if hasC l c = true then ((l.findIdx fun d => c.f0 == d.f0 && (c.f1 == d.f1) : Nat) : Int) else -1) := by
  unfold impl_Chord_75.f
  have e := Ev.scan0 (fun k i (n : Nat) => impl_Chord_75.l0 k l (l.length : Int) i c.f0 c.f1) l (fun rest n => if hasC rest c = true then (((n + rest.findIdx fun d => c.f0 == d.f0 && (c.f1 == d.f1)) : Nat) : Int) else -1) (fun i n => n = i)
    (fun n hn => by
      refine Ev.step (fun k => by rw [impl_Chord_75.l0]) ?_
      exact Ev.neg (by omega) (Ev.val (by simp [hasC])))
    (fun i h n hn => by
      subst hn
      by_cases hx : (c.f0 == l[n].f0 && (c.f1 == l[n].f1)) = true
      · right
        refine Ev.step (fun k => by rw [impl_Chord_75.l0]) ?_
        refine Ev.pos (by omega) (Ev.pos (by omega) (Ev.pos (by omega) (Ev.pos (by rw [rd_ch l n h]; exact hx) (Ev.val ?_))))
        unfold hasC
        rw [List.any_cons, hx, Bool.true_or, if_pos rfl, List.findIdx_cons, hx]
        simp
      · refine .inl ⟨n + 1, rfl, ?_, fun r hr => ?_⟩
        · have hx2 : (c.f0 == l[n].f0 && (c.f1 == l[n].f1)) = false := by simpa using hx
          unfold hasC
          rw [List.any_cons, hx2, Bool.false_or, List.findIdx_cons, hx2]
          split
          · simp; omega
          · rfl
        · refine Ev.step (fun k => by rw [impl_Chord_75.l0]) ?_
          refine Ev.pos (by omega) (Ev.pos (by omega) (Ev.pos (by omega) (Ev.neg (by rw [rd_ch l n h]; exact hx) ?_)))
          rw [w64 (by omega) (by omega)]
          exact hr)
    0 rfl
  simpa using e
theorem hasC_ev (l : List Ch) (c : Ch) (hl : l.length ≤ 9223372036854775807) : Ev (fun k => impl_Chord_51.f k l c.f0 c.f1) (hasC l c) := by
  unfold impl_Chord_51.f
  refine Ev.bindk (indexC_ev l c hl) (Ev.val ?_)
  cases h : hasC l c with
  | true => rw [if_pos rfl]; simp
  | false => rw [if_neg (by simp)]; simp
end Go.Proofs.Ytdeenfpcmaadcaa.M

/- The program's neighbours, by hand: all two regions with a chord in common. -/
namespace Go.Proofs.Ytdeenfpcmaadcaa.M
open Go.RowKit Go.Proofs.YtdeenfpcmaadcaaW.PrintWords Go.Proofs.Ytdeenfpcmaadcaa.Pr
abbrev Rg := S54
/-- Whether two regions have a chord in common. -/
def shB (a b : Rg) : Bool := a.f1.any fun c => hasC b.f1 c
def rowK (a : Rg) (i : Nat) : Nat → List Rg → List (List Int)
  | _, [] => []
  | k, b :: r => if shB a b = true then [(i : Int), (k : Int)] :: rowK a i (k + 1) r else rowK a i (k + 1) r
def neighL : Nat → List Rg → List (List Int)
  | _, [] => []
  | i, a :: r => rowK a i (i + 1) r ++ neighL (i + 1) r
theorem rd_rg (l : List Rg) (i : Nat) (h : i < l.length) : rd_T54 l (i : Int) = l[i] := by
  unfold rd_T54
  simp [List.getD_eq_getElem?_getD, List.getElem?_eq_getElem h]
theorem rowK_len (a : Rg) (i : Nat) : ∀ (k : Nat) (r : List Rg), (rowK a i k r).length ≤ r.length
  | _, [] => by simp [rowK]
  | k, b :: r => by
    have := rowK_len a i (k + 1) r
    unfold rowK
    split <;> simp <;> omega
end Go.Proofs.Ytdeenfpcmaadcaa.M
namespace Go.Proofs.Ytdeenfpcmaadcaa.Pr
open Go.RowKit Go.Proofs.YtdeenfpcmaadcaaW.PrintWords Go.Proofs.YtdeenfpcmaadcaaW.PrintLast Go.Proofs.YtdeenfpcmaadcaaW.PrintMore Go.Proofs.Ytdeenfpcmaadcaa.M
set_option linter.unusedVariables false
set_option linter.unusedSimpArgs false
theorem cell_alloc_lt {W : World} {b off : Nat} (o : Obj) (h : b < W.heap.size) : (W.alloc o).cell? ⟨b, off, none⟩ = W.cell? ⟨b, off, none⟩ := (below_alloc (Below.refl W.heap.size W) o).cell (p := ⟨b, off, none⟩) h
def impl_neighbours.f (l0 : List Rg) : Option ((List (List Int))) := if l0.length ≤ 1000 then some (neighL 0 l0) else none
theorem pair_lit {W : World} {base : Nat} (hb : base ≤ W.heap.size) (i j : Int) : KI.R 3 (W.alloc (.cells #[.int .i64 i, .int .i64 j] 3)) base (fun q => q = W.heap.size) (.slice (some ⟨W.heap.size, 0, none⟩) 2 2) [i, j] := by
  refine ⟨fun k hk => ?_, [.int .i64 i, .int .i64 j], ?_, rfl, fun q p hq => ?_⟩
  · simpa [Value.ownBlock] using hk.symm
  · exact (by simpa using World.ownsRow_lit (base := base) (e := 3) (size := 1) W #[.int .i64 i, .int .i64 j] 2 hb (by unfold maxLen; omega) (by simp) : World.ownsRow _ _ _ 1 _ _ _)
  · match q, hq with
    | 0, hq => (obtain rfl := Option.some.inj hq; exact rfl)
    | 1, hq => (obtain rfl := Option.some.inj hq; exact rfl)
set_option maxHeartbeats 2000000 in
theorem neigh_pred (A0 : Option Addr) (c0 : Nat) (l0 : List Rg) (W : World) (hr : Kd.C k54 W A0 l0.length l0) (B0 Bk k : Nat) (hk : k < l0.length) (h0 : W.cell? ⟨B0, 0, none⟩ = some (.slice A0 l0.length c0)) (h1 : W.cell? ⟨Bk, 0, none⟩ = some (.int .i64 k)) (c : Ch) :
    Calls Try.prog 79 #[.agg #[.int .i64 c.f0, .int .i64 c.f1], .pointer (some ⟨B0, 0, none⟩), .pointer (some ⟨Bk, 0, none⟩)] W fun e w' => e = .returned (.bool (hasC l0[k].f1 c)) ∧ Below W.heap.size W w' := by
  obtain ⟨ad, X0, d0, X1, d1, X2, d2, e, y0, y1, y2, _, _, hl1, hC1, _, _⟩ := at_T54 hr (k : Int) (by omega) (by omega)
  rw [rd_rg l0 k hk] at y1 hl1 hC1
  rw [Int.toNat_natCast] at y1
  clear y0 y2
  cases e
  obtain ⟨zs, hzs⟩ : ∃ zs, l0[k].f1 = zs := ⟨_, rfl⟩
  rw [hzs] at y1 hl1 hC1 ⊢
  obtain ⟨K, hK⟩ := hasC_ev zs c hC1.2.1
  have hcall := Aside0.mk (fun (W2 : World) (hb : Below W.heap.size W W2) => impl_Chord_51.calls K X1 d1 zs c.f0 c.f1 (hasC zs c) W2 (Kd.C_below hC1 hb) hl1 (hK K (Nat.le_refl _)))
  have hB0 : B0 < W.heap.size := World.block_lt_of_cell? W ⟨B0, 0, none⟩ h0
  have hBk : Bk < W.heap.size := World.block_lt_of_cell? W ⟨Bk, 0, none⟩ h1
  have hBa : (ad.add (k * 3)).block < W.heap.size := World.block_lt_of_cell? W ⟨(ad.add (k * 3)).block, (ad.add (k * 3)).off + 1, none⟩ y1
  have hn0 : B0 ≠ W.heap.size := by omega
  have hnk : Bk ≠ W.heap.size := by omega
  have hna : (ad.add (k * 3)).block ≠ W.heap.size := by omega
  have hlt : decide ((k : Int) < (l0.length : Int)) = true := decide_eq_true (by omega)
  have hlt2 : decide (k < l0.length) = true := decide_eq_true hk
  have HS1 := Aside0.mk (fun (W2 : World) (hb : Below (W.alloc (.cells #[.int .i64 c.f0, .int .i64 c.f1] 47)).heap.size (W.alloc (.cells #[.int .i64 c.f0, .int .i64 c.f1] 47)) W2) =>
    (⟨(hb.cell (p := ⟨B0, 0, none⟩) (by show B0 < _; simp; omega)).trans ((cell_alloc_lt _ hB0).trans h0), (hb.cell (p := ⟨Bk, 0, none⟩) (by show Bk < _; simp; omega)).trans ((cell_alloc_lt _ hBk).trans h1), (hb.cell (p := ⟨(ad.add (k * 3)).block, (ad.add (k * 3)).off + 1, none⟩) (by show (ad.add (k * 3)).block < _; simp; omega)).trans ((cell_alloc_lt _ hBa).trans y1),
      (hb.cell (p := ⟨W.heap.size, 0, none⟩) (by simp)).trans (by simp), (hb.cell (p := ⟨W.heap.size, 1, none⟩) (by simp)).trans (by simp), hb⟩ :
      W2.cell? ⟨B0, 0, none⟩ = some (.slice (some ad) l0.length c0) ∧ W2.cell? ⟨Bk, 0, none⟩ = some (.int .i64 k) ∧ W2.cell? ⟨(ad.add (k * 3)).block, (ad.add (k * 3)).off + 1, none⟩ = some (.slice X1 zs.length d1) ∧ W2.cell? ⟨W.heap.size, 0, none⟩ = some (.int .i64 c.f0) ∧ W2.cell? ⟨W.heap.size, 1, none⟩ = some (.int .i64 c.f1) ∧ Below (W.alloc (.cells #[.int .i64 c.f0, .int .i64 c.f1] 47)).heap.size (W.alloc (.cells #[.int .i64 c.f0, .int .i64 c.f1] 47)) W2))
  have HBW := Aside0.mk (show Below W.heap.size W (W.alloc (.cells #[.int .i64 c.f0, .int .i64 c.f1] 47)) from below_alloc (Below.refl _ _) _)
  have hk0 : (0 : Int) ≤ (k : Int) := by omega
  have hk1 : (k : Int) < (l0.length : Int) := by omega
  have hk2 : (k : Int) ≤ (l0.length : Int) := by omega
  clear hr hK hzs hC1 hl1 hB0 hBk hBa y1 h0 h1 hn0 hnk hna
  generalize hasC zs c = b at hcall ⊢
  have hu47 := Try.underlying47
  go_enter Try.func79, Try.ntmps79
  go_wp2_with fail
  generalize (W.alloc (.cells #[.int .i64 c.f0, .int .i64 c.f1] 47)) = W1 at HS1 HBW ⊢
  go_region_held3 (fun w' => w'.cell? ⟨B0, 0, none⟩ = some (.slice (some ad) l0.length c0) ∧ w'.cell? ⟨Bk, 0, none⟩ = some (.int .i64 k) ∧ w'.cell? ⟨(ad.add (k * 3)).block, (ad.add (k * 3)).off + 1, none⟩ = some (.slice X1 zs.length d1) ∧ w'.cell? ⟨W.heap.size, 0, none⟩ = some (.int .i64 c.f0) ∧ w'.cell? ⟨W.heap.size, 1, none⟩ = some (.int .i64 c.f1) ∧ Below W1.heap.size W1 w')
    ((go_split_ands; exact HS1.out _ (by first | assumption | exact Below.refl _ _ | exact below_drew (Below.refl _ _) | exact below_drew (by assumption) | exact below_step (by assumption) (by assumption))))
    (first | (go_at_call 51; refine (hcall.out _ (below_step HBW.out (by first | assumption | exact Below.refl _ _ | exact below_drew (Below.refl _ _) | exact below_drew (by assumption)))).mono ?_; rintro e w' ⟨rfl, hb⟩))
  all_goals
    rename_i hH
    obtain ⟨_, _, _, _, _, h3⟩ := hH
    go_wp2_with fail
    go_ret
    exact ⟨by simp, below_step HBW.out h3⟩
/-- What is held in the loops: the rows so far, the box of the regions, old memory. -/
structure NB (w W : World) (v : Value) (out : List (List Int)) : Prop where
  bl : Below w.heap.size w W
  rs : Kd.S (Kd.slice 3 KI) 24 W w.heap.size (fun _ => True) v out
theorem NB.go {w W W' : World} {v : Value} {out : List (List Int)} (h : NB w W v out) (hb : Below W.heap.size W W') : NB w W' v out := ⟨below_step h.bl hb, Kd.S_below h.rs hb⟩
def kpB (g : Nat) (t : Nat) (cs : Array Value) (W : World) : Prop := W.heap[g]? = some (.cells cs t (0, 0))
theorem kpB.go {g t : Nat} {cs : Array Value} {W W' : World} (h : kpB g t cs W) (hb : Below W.heap.size W W') : kpB g t cs W' := (hb.block g (blk_lt h)).trans h
theorem kpB.new {t : Nat} {cs : Array Value} (W : World) : kpB W.heap.size t cs (W.alloc (.cells cs t)) := by
  show (W.heap.push _)[W.heap.size]? = _
  exact Array.getElem?_push_size
theorem kpB.cell {g t : Nat} {cs : Array Value} {W : World} (h : kpB g t cs W) (j : Nat) : W.cell? ⟨g, j, none⟩ = cs[j]? := by
  rw [blk_cell h]
theorem kpB.grown {g t : Nat} {cs : Array Value} {W W' : World} {row : Option Nat} (h : kpB g t cs W) (hg : W.grownBy W' row) (hr : some g ≠ row) : kpB g t cs W' := (hg.block g (blk_lt h) hr).trans h
theorem nil_lit {α : Type} (d : Kd α) (e : Nat) {W : World} {base : Nat} (hb : base ≤ W.heap.size) : Kd.S d e (W.alloc (.cells #[] e)) base (fun _ => True) (.slice (some ⟨W.heap.size, 0, none⟩) 0 0) [] := by
  refine ⟨fun _ => 0, fun _ _ => trivial, [], ?_, (by simp), fun j p hj => by simp at hj⟩
  exact (by simpa using World.ownsRow_lit (base := base) (e := e) (size := d.sz) W #[] 0 hb (by unfold maxLen; omega) (by simp) : World.ownsRow _ _ _ d.sz _ _ _)
abbrev KR : Kd (List Int) := Kd.slice 3 KI
/-- What is held in the inner loop: besides, the boxes of the region at hand and of the index. -/
structure NW (w W : World) (v : Value) (out : List (List Int)) (cs rc : Array Value) (Br Bk : Nat) (k : Int) : Prop where
  nb : NB w W v out
  k0 : kpB w.heap.size 50 cs W
  kr : kpB Br 54 rc W
  kk : kpB Bk 3 #[.int .i64 k] W
section
variable {w W W' : World} {v : Value} {out : List (List Int)} {cs rc : Array Value} {Br Bk : Nat} {k : Int}
theorem NW.go (h : NW w W v out cs rc Br Bk k) (hb : Below W.heap.size W W') : NW w W' v out cs rc Br Bk k := ⟨h.nb.go hb, h.k0.go hb, h.kr.go hb, h.kk.go hb⟩
theorem NW.next (h : NW w W v out cs rc Br Bk k) : NW w (W.alloc (.cells #[.int .i64 (k + 1)] 3)) v out cs rc Br W.heap.size (k + 1) :=
  have hb : Below W.heap.size W (W.alloc (.cells #[.int .i64 (k + 1)] 3)) := below_alloc (Below.refl _ _) _
  ⟨h.nb.go hb, h.k0.go hb, h.kr.go hb, kpB.new W⟩
theorem NW.first (h : NB w W v out) (h0 : kpB w.heap.size 50 cs W) : NW w ((W.alloc (.cells rc 54)).alloc (.cells #[.int .i64 k] 3)) v out cs rc W.heap.size (W.heap.size + 1) k :=
  have hb : Below W.heap.size W (W.alloc (.cells rc 54)) := below_alloc (Below.refl _ _) _
  have hb2 : Below (W.alloc (.cells rc 54)).heap.size (W.alloc (.cells rc 54)) ((W.alloc (.cells rc 54)).alloc (.cells #[.int .i64 k] 3)) := below_alloc (Below.refl _ _) _
  ⟨(h.go hb).go hb2, (h0.go hb).go hb2, (kpB.new W).go hb2, by
    have e := kpB.new (t := 3) (cs := #[.int .i64 k]) (W.alloc (.cells rc 54))
    simpa using e⟩
theorem NW.hp (h : NW w W v out cs rc Br Bk k) (i j : Int) : KR.M (W.alloc (.cells #[.int .i64 i, .int .i64 j] 3)) w.heap.size (fun q => q = W.heap.size) [i, j] [.slice (some ⟨W.heap.size, 0, none⟩) 2 2] := ⟨_, rfl, pair_lit h.nb.bl.size i j⟩
theorem NW.hokp (h : NW w W v out cs rc Br Bk k) : ∀ q, q = W.heap.size → True ∧ some q ≠ v.ownBlock := fun q hq => ⟨trivial, fun e => by
  have := Kd.S_lt h.nb.rs q e.symm
  omega⟩
theorem NW.ho (h : NW w W v out cs rc Br Bk k) (o : Obj) : Kd.S KR 24 (W.alloc o) w.heap.size (fun q => True ∧ ¬ q = W.heap.size) v out := Kd.S_mono (Kd.S_old h.nb.rs (below_alloc (Below.refl _ _) o)) (fun q hq => ⟨trivial, by have := hq.2; omega⟩)
theorem NW.app (h : NW w W v out cs rc Br Bk k) {o : Obj} {v7 : Value} {w7 : World} {out' : List (List Int)} (hs : Kd.S KR 24 w7 w.heap.size (fun _ => True) v7 out') (hb : Below w.heap.size w w7) (hg : (W.alloc o).grownBy w7 v.ownBlock) : NW w w7 v7 out' cs rc Br Bk k :=
  have hb0 : Below W.heap.size W (W.alloc o) := below_alloc (Below.refl _ _) o
  have h2 := h.go hb0
  ⟨⟨hb, hs⟩, h2.k0.grown hg (Kd.S_ne h2.nb.rs h2.k0 (by decide)), h2.kr.grown hg (Kd.S_ne h2.nb.rs h2.kr (by decide)), h2.kk.grown hg (Kd.S_ne h2.nb.rs h2.kk (by decide))⟩
end
set_option maxHeartbeats 4000000 in
set_option maxRecDepth 100000 in
theorem impl_neighbours.calls (A0 : Option Addr) (c0 : Nat) (l0 : List Rg) (r : List (List Int)) (w : World) (hr0 : Kd.C k54 w A0 l0.length l0) (hc0 : l0.length ≤ c0) (h : impl_neighbours.f l0 = some r) :
    Calls Try.prog 57 #[.slice A0 l0.length c0] w fun e w' => ∃ v0_ : Value, e = .returned (v0_) ∧ Kd.S (Kd.slice 3 (Kd.int .i64)) 24 w' w.heap.size (fun _ => True) v0_ r ∧ Below w.heap.size w w' := by
  unfold impl_neighbours.f at h
  by_cases hn : l0.length ≤ 1000
  rotate_left
  · rw [if_neg hn] at h; cases h
  rw [if_pos hn] at h
  have HR := Aside0.mk (Option.some.inj h)
  clear h
  have HB0 := Aside0.mk (show Below w.heap.size w (w.alloc (.cells #[.slice A0 l0.length c0] 50)) from below_alloc (Below.refl _ _) _)
  have HK0 := Aside0.mk (kpB.new (t := 50) (cs := #[.slice A0 l0.length c0]) w)
  have HLT := Aside0.mk (show w.heap.size < (w.alloc (.cells #[.slice A0 l0.length c0] 50)).heap.size by simp)
  have HCAP := Aside0.mk hc0
  have eg : ∀ args w, (callFunc 79 args).run Try.prog w = .ok (.enter 79 args) w := enters_of Try.func79 (by kernel_rfl) rfl
  have HEG := Aside0.mk eg
  have HN := Aside0.mk hn
  have HR0 := Aside0.mk hr0
  clear hr0 hc0 eg
  go_enter Try.func57, Try.ntmps57
  go_upto_region 2 with fail
  have HNB := Aside0.mk (show NB w ((w.alloc (.cells #[.slice A0 l0.length c0] 50)).alloc (.cells #[] 24)) (.slice (some ⟨w.heap.size + 1, 0, none⟩) 0 0) [] from ⟨below_alloc HB0.out _, by
    have e := nil_lit KR 24 (W := w.alloc (.cells #[.slice A0 l0.length c0] 50)) (base := w.heap.size) (Nat.le_of_lt HLT.out)
    simpa using e⟩)
  have HK := Aside0.mk (HK0.out.go (below_alloc (Below.refl (w.alloc (.cells #[.slice A0 l0.length c0] 50)).heap.size (w.alloc (.cells #[.slice A0 l0.length c0] 50))) (.cells #[] 24)))
  generalize ((w.alloc (.cells #[.slice A0 l0.length c0] 50)).alloc (.cells #[] 24)) = W0 at HNB HK ⊢
  have x0 : W0.cell? ⟨w.heap.size, 0, none⟩ = some (.slice A0 l0.length c0) := HK.out.cell 0
  clear HB0 HK0
  go_wp2_with fail
  obtain ⟨N, hN⟩ : ∃ N, N = l0.length := ⟨_, rfl⟩
  go_loopg [3, 10] N (fun gg v3 v10 W => ∃ (i : Nat) (out : List (List Int)), v10 = .int .i64 i ∧ Aside0 (i + gg = N) ∧ Aside0 (NB w W v3 out) ∧ Aside0 (kpB w.heap.size 50 #[.slice A0 l0.length c0] W) ∧ Aside0 (out.length ≤ i * 1000) ∧ Aside0 (out ++ neighL i (l0.drop i) = r))
  case atStart => exact ⟨0, [], by first | rfl | (simp; done), ⟨by omega⟩, HNB, HK, ⟨by simp⟩, ⟨by simpa using HR.out⟩⟩
  case round =>
    clear HNB HK x0 HR
    obtain ⟨i, out, rfl, HG, HNB, HK, HOL, HR⟩ := hrel
    by_cases hi : i < N
    · have hil : i < l0.length := by omega
      have e1 : decide ((i : Int) < (l0.length : Int)) = true := decide_eq_true (by omega)
      have e2 : IntKind.i64.wrap ((i : Int) + 1) = ((i + 1 : Nat) : Int) := by
        rw [i64_w]
        exact M.w64 (by omega) (by omega)
      obtain ⟨gm, rfl⟩ : ∃ gm, gk = gm + 1 := ⟨gk - 1, by have := HG.out; omega⟩
      obtain ⟨a, ha⟩ : ∃ a, a = l0[i] := ⟨_, rfl⟩
      obtain ⟨ad, X0, d0, X1, d1, X2, d2, ea, y0, y1, y2, _, _, hl1, hC1, _, _⟩ := at_T54 HR0.out (i : Int) (by omega) (by omega)
      rw [rd_rg l0 i hil, ← ha] at y0 y1 y2 hl1 hC1
      rw [Int.toNat_natCast] at y0 y1 y2
      replace y0 := (HNB.out.bl.cell (World.block_lt_of_cell? w _ y0)).trans y0
      replace y1 := (HNB.out.bl.cell (World.block_lt_of_cell? w ⟨(ad.add (i * 3)).block, (ad.add (i * 3)).off + 1, none⟩ y1)).trans y1
      replace y2 := (HNB.out.bl.cell (World.block_lt_of_cell? w ⟨(ad.add (i * 3)).block, (ad.add (i * 3)).off + 2, none⟩ y2)).trans y2
      have hR := HR.out
      rw [List.drop_eq_getElem_cons hil, ← ha, neighL] at hR
      have HR2 := Aside0.mk hR
      have HA := Aside0.mk ha
      have HC1 := Aside0.mk hC1
      have HL1 := Aside0.mk hl1
      clear hR HR ha hC1 hl1
      cases ea
      have hu54 := Try.underlying54
      go_upto_block 2 with fail
      have HW := Aside0.mk (NW.first (k := (i : Int) + 1) (rc := #[.slice X0 a.f0.length d0, .slice X1 a.f1.length d1, .slice X2 a.f2.length d2]) HNB.out HK.out)
      clear HNB HK y0 y1 y2
      generalize ((wr.alloc (.cells #[.slice X0 a.f0.length d0, .slice X1 a.f1.length d1, .slice X2 a.f2.length d2] 54)).alloc (.cells #[.int .i64 ((i : Int) + 1)] 3)) = W1 at HW ⊢
      generalize wr.heap.size = Br at HW ⊢
      go_wp2_with fail
      obtain ⟨M0, hM0⟩ : ∃ M0, M0 = N - (i + 1) := ⟨_, rfl⟩
      go_loopg [3, 6] M0 (fun gg v3 v6 W => ∃ (k Bk : Nat) (out : List (List Int)), v6 = .pointer (some ⟨Bk, 0, none⟩) ∧ Aside0 (k + gg = N) ∧ Aside0 (NW w W v3 out #[.slice (some ad) l0.length c0] #[.slice X0 a.f0.length d0, .slice X1 a.f1.length d1, .slice X2 a.f2.length d2] Br Bk (k : Int)) ∧ Aside0 (out.length ≤ i * 1000 + k) ∧ Aside0 (out ++ (rowK a i k (l0.drop k) ++ neighL (i + 1) (l0.drop (i + 1))) = r))
      case atStart => exact ⟨i + 1, Br + 1, out, by first | rfl | (simp; done), ⟨by omega⟩, ⟨by have e := HW.out; rwa [show ((i + 1 : Nat) : Int) = (i : Int) + 1 by omega]⟩, ⟨by have := HOL.out; omega⟩, HR2⟩
      case round =>
        clear HW HR2 HOL
        obtain ⟨k, Bk, out, rfl, HG2, HW, HOL, HR2⟩ := hrel
        have hkN : k ≤ N := by have := HG2.out; omega
        have x0 : wr.cell? ⟨w.heap.size, 0, none⟩ = some (.slice (some ad) l0.length c0) := HW.out.k0.cell 0
        have x1 : wr.cell? ⟨Bk, 0, none⟩ = some (.int .i64 (k : Int)) := HW.out.kk.cell 0
        by_cases hk : k < N
        · have hkl : k < l0.length := by omega
          have e3 : decide ((k : Int) < (l0.length : Int)) = true := decide_eq_true (by omega)
          have e4 : decide (k < l0.length) = true := decide_eq_true hkl
          have e5 : IntKind.i64.wrap ((k : Int) + 1) = ((k + 1 : Nat) : Int) := by
            rw [i64_w]
            exact M.w64 (by omega) (by omega)
          obtain ⟨gi, rfl⟩ : ∃ gi, gk = gi + 1 := ⟨gk - 1, by have := HG2.out; omega⟩
          have x2 : wr.cell? ⟨Br, 1, none⟩ = some (.slice X1 a.f1.length d1) := HW.out.kr.cell 1
          have hR := HR2.out
          rw [List.drop_eq_getElem_cons hkl, rowK] at hR
          have HR3 := Aside0.mk hR
          have HCF := Aside0.mk (containsFunc_chord X1 d1 a.f1 (fun c => hasC l0[k].f1 c) 79 #[.pointer (some ⟨w.heap.size, 0, none⟩), .pointer (some ⟨Bk, 0, none⟩)] HEG.out wr (Kd.C_below HC1.out HW.out.nb.bl) HL1.out
            (fun W c _ hb => neigh_pred (some ad) c0 l0 W (Kd.C_below (Kd.C_below HR0.out HW.out.nb.bl) hb) w.heap.size Bk k hkl ((hb.cell (p := ⟨w.heap.size, 0, none⟩) (World.block_lt_of_cell? wr ⟨w.heap.size, 0, none⟩ x0)).trans x0) ((hb.cell (p := ⟨Bk, 0, none⟩) (World.block_lt_of_cell? wr ⟨Bk, 0, none⟩ x1)).trans x1) c))
          obtain ⟨b, hb⟩ : ∃ b, b = shB a l0[k] := ⟨_, rfl⟩
          have HSB := Aside0.mk hb
          have HCF2 := Aside0.mk (show Calls Try.prog 73 #[.slice X1 a.f1.length d1, .func (.func 79) #[] #[.pointer (some ⟨w.heap.size, 0, none⟩), .pointer (some ⟨Bk, 0, none⟩)]] wr fun e w' => e = .returned (.bool b) ∧ Below wr.heap.size wr w' by rw [hb]; exact HCF.out)
          clear hb hR HCF HR2
          cases b with
          | false =>
            go_wp2_with (go_at_call 73; refine HCF2.out.mono ?_; rintro e w2 ⟨rfl, hb2⟩; have HW2 := Aside0.mk (HW.out.go hb2); clear HW x0 x1 x2 hb2; have x1 : w2.cell? ⟨Bk, 0, none⟩ = some (.int .i64 (k : Int)) := HW2.out.kk.cell 0)
            go_roundg gi
            case measure => omega
            case rel => exact ⟨k + 1, w2.heap.size, out, by first | rfl | (simp; done), ⟨by have := HG2.out; omega⟩, ⟨by have e := HW2.out.next; rwa [show ((k + 1 : Nat) : Int) = (k : Int) + 1 by omega]⟩, ⟨by have := HOL.out; omega⟩, ⟨by have e := HR3.out; rwa [if_neg (by rw [← HSB.out]; simp)] at e⟩⟩
          | true =>
            go_wp2_with (first | (go_at_call 73; refine HCF2.out.mono ?_; rintro e w2 ⟨rfl, hb2⟩; have HW2 := Aside0.mk (HW.out.go hb2); clear HW x0 x1 x2 hb2; have x1 : w2.cell? ⟨Bk, 0, none⟩ = some (.int .i64 (k : Int)) := HW2.out.kk.cell 0) | ((with_reducible refine gate_builtin (b := .append) (xs := #[.tmp 27, .tmp 31]) rfl ?_); at_builtin; refine Kd.S_append KR (w0 := w) w.heap.size rfl (.tmp 27) (.tmp 31) 37 24 (.slice none 0 0) 24 rfl Try.underlying37 info24 rfl (by decide) (by omega) u3 out [(i : Int), (k : Int)] [.slice (some ⟨w2.heap.size, 0, none⟩) 2 2] (fun _ => True) (fun q => q = w2.heap.size) rfl (by show Value.slice (some ⟨w2.heap.size + 1, 0, none⟩) 1 1 = _; simp) (HW2.out.hp i k) HW2.out.hokp (fun _ _ => trivial) (HW2.out.ho _) (below_alloc HW2.out.nb.bl _) (Nat.le_trans HW2.out.nb.bl.size (by simp)) ?hl1 ?_; (case hl1 => have := HOL.out; have := HG2.out; have := HG.out; omega); intro v7 w7 hs7 hb7 hg7 hat7; have HW7 := Aside0.mk (HW2.out.app hs7 hb7 hg7); clear HW2 x1 hs7 hb7 hg7 hat7; have x1 : w7.cell? ⟨Bk, 0, none⟩ = some (.int .i64 (k : Int)) := HW7.out.kk.cell 0))
            go_roundg gi
            case measure => omega
            case rel => exact ⟨k + 1, w7.heap.size, out ++ [[(i : Int), (k : Int)]], by first | rfl | (simp; done), ⟨by have := HG2.out; omega⟩, ⟨by have e := HW7.out.next; rwa [show ((k + 1 : Nat) : Int) = (k : Int) + 1 by omega]⟩, ⟨by have := HOL.out; simp; omega⟩, ⟨by have e := HR3.out; rw [if_pos (by rw [← HSB.out])] at e; simpa using e⟩⟩
        · have hke : k = l0.length := by omega
          have e3 : decide ((k : Int) < (l0.length : Int)) = false := decide_eq_false (by omega)
          have e4 : decide (k < l0.length) = false := decide_eq_false (by omega)
          have hR := HR2.out
          rw [List.drop_eq_nil_of_le (by omega), rowK, List.nil_append] at hR
          have HR3 := Aside0.mk hR
          have HKE := Aside0.mk hke
          clear HR2 hR hke
          go_wp2_with fail
          go_roundg gm
          case measure => omega
          case rel => exact ⟨i + 1, out, by first | rfl | (simp; done), ⟨by have := HG.out; omega⟩, ⟨HW.out.nb⟩, ⟨HW.out.k0⟩, ⟨by have := HOL.out; have := HKE.out; have := HN.out; omega⟩, HR3⟩
    · have e1 : decide ((i : Int) < (l0.length : Int)) = false := decide_eq_false (by omega)
      have e4 : decide (i < l0.length) = false := decide_eq_false (by omega)
      have hR := HR.out
      rw [List.drop_eq_nil_of_le (by omega), neighL, List.append_nil] at hR
      have HR3 := Aside0.mk hR
      clear HR hR
      go_wp2_with fail
      go_ret
      exact ⟨_, rfl, by rw [← HR3.out]; exact HNB.out.rs, HNB.out.bl⟩
end Go.Proofs.Ytdeenfpcmaadcaa.Pr

/- What the program's numbersWith computes, for any predicate that leaves old memory as it was: the numbers of a range for which it holds. -/
namespace Go.Proofs.Ytdeenfpcmaadcaa.Pr
open Go.RowKit Go.Proofs.YtdeenfpcmaadcaaW.PrintWords Go.Proofs.YtdeenfpcmaadcaaW.PrintLast Go.Proofs.YtdeenfpcmaadcaaW.PrintMore
set_option linter.unusedVariables false
set_option linter.unusedSimpArgs false

/-- The numbers from lo on, d of them, for which p holds. -/
def numsP (p : Int → Bool) (lo : Int) : Nat → List Int
  | 0 => []
  | d + 1 => if p lo = true then lo :: numsP p (lo + 1) d else numsP p (lo + 1) d
theorem numsP_length (p : Int → Bool) : ∀ (d : Nat) (lo : Int), (numsP p lo d).length ≤ d
  | 0, _ => by simp [numsP]
  | d + 1, lo => by
    have := numsP_length p d (lo + 1)
    unfold numsP
    split
    · simp; omega
    · omega

set_option maxHeartbeats 4000000 in
set_option maxRecDepth 100000 in
theorem numbersWith_calls (lo hi : Int) (d : Nat) (hd : d = (hi + 1 - lo).toNat) (hlo : 0 ≤ lo) (hhi : hi ≤ 1000000) (p : Int → Bool) (g : Nat) (lb : Array Value) (eg : ∀ args w, (callFunc g args).run Try.prog w = .ok (.enter g args) w) (w : World)
    (hp : ∀ (W : World) (x : Int), lo ≤ x → x ≤ hi → Below w.heap.size w W → Calls Try.prog g (#[.int .i64 x] ++ lb) W fun e w' => e = .returned (.bool (p x)) ∧ Below W.heap.size W w') :
    Calls Try.prog 52 #[.int .i64 lo, .int .i64 hi, .func (.func g) #[] lb] w fun e w' => ∃ v0_ : Value, e = .returned v0_ ∧ Kd.R (Kd.int .i64) 3 w' w.heap.size (fun _ => True) v0_ (numsP p lo d) ∧ Below w.heap.size w w' := by
  have HP := Aside0.mk hp
  have HD := Aside0.mk hd
  clear hp hd
  have HB := Aside0.mk (Below.refl w.heap.size w)
  go_enter Try.func52, Try.ntmps52
  go_wp2_with (first | ((with_reducible refine gate_dst (N := 9) rfl ?_); refine Kd.R_lit (Kd.int .i64) _ 3 ?hg (N := 9) ?hd (xs := ([] : List Int)) (inner := []) (ok := fun _ => True) (okp := fun _ => True) ?hr ?hp (fun _ hk => hk) trivial (Below.refl _ _) (Nat.le_refl _) (by simp) ?_; (case hd => rfl); (case hg => rfl); (case hr => first | (go_simp; done) | (go_simp; rfl)); (case hp => exact (Reps.none _ _)); intro v244 w6 ho7 hb hg_ hnew_; clear hg_ hnew_; have n0_ := Aside0.mk (Kd.R_lower ho7 (below_size (by repeat (first | (with_reducible first | exact HB.out | apply below_alloc | apply pw_below_drewN | apply below_drew1) | exact HB.out)))); have n1_ := Aside0.mk (below_step (by repeat (first | (with_reducible first | exact HB.out | apply below_alloc | apply pw_below_drewN | apply below_drew1) | exact HB.out)) hb); clear HB; have HO0 := n0_; have HB := n1_; clear n0_ n1_; clear hb ho7))
  go_loopg [7, 8] d (fun gg v7 v8 w' => ∃ (x : Int) (xs : List Int), v8 = .int .i64 x ∧ Aside0 (lo ≤ x) ∧ Aside0 (gg = (hi + 1 - x).toNat) ∧ Aside0 (gg ≤ d) ∧ Aside0 (numsP p lo d = xs ++ numsP p x gg) ∧ Aside0 ((xs.length : Int) ≤ x - lo) ∧ Aside0 (x ≤ hi + 1 ∨ x = lo) ∧ Aside0 (Kd.R (Kd.int .i64) 3 w' w.heap.size (fun _ => True) v7 xs) ∧ Aside0 (Below w.heap.size w w'))
  case atStart => exact ⟨lo, [], by first | rfl | (simp; done) | (simp [*]; done), ⟨Int.le_refl _⟩, HD, ⟨Nat.le_refl _⟩, ⟨rfl⟩, ⟨by simp⟩, ⟨.inr rfl⟩, HO0, HB⟩
  case round =>
    obtain ⟨x, xs, rfl, HLO, HG, HGD, HX, HLen, HTop, HO, HB2⟩ := hrel
    clear HB
    have HB := HB2
    clear HB2
    by_cases hlt : x ≤ hi
    · have c4b0 : decide (x ≤ hi) = true := decide_eq_true hlt
      obtain ⟨gm, rfl⟩ : ∃ gm, gk = gm + 1 := ⟨gk - 1, by have := HG.out; omega⟩
      have hx0 : 0 ≤ x := by have := HLO.out; omega
      have hx1 : x ≤ 1000000 := by omega
      have hcall := HP.out wr x HLO.out hlt HB.out
      have HN := Aside0.mk (show numsP p x (gm + 1) = if p x = true then x :: numsP p (x + 1) gm else numsP p (x + 1) gm from rfl)
      cases hq : p x with
      | true =>
        rw [hq] at hcall
        have HQ := Aside0.mk hq
        clear hq
        go_wp2_with (first | (go_at_fn g; refine hcall.mono ?_; rintro e w1 ⟨rfl, hb1⟩; have HO1 := Aside0.mk (Kd.R_below HO.out hb1); have HBx := Aside0.mk (HB.out.trans (hb1.mono HB.out.size)); clear HO HB; have HO := HO1; have HB := HBx; clear HO1 HBx hb1) | ((with_reducible refine gate_builtin (b := .append) (xs := #[.tmp 19, .tmp 21]) rfl ?_); at_builtin; refine Kd.R_append (Kd.int .i64) (w0 := w) w.heap.size rfl (.tmp 19) (.tmp 21) 24 3 (.int .i64 0) 8 rfl Try.underlying24 info3 rfl (by decide) (by omega) u7 xs x [.int .i64 x] (fun _ => True) (fun _ => False) rfl rfl ?aP (fun _ hk => hk.elim) ?aF ?aO ?aB ?aS ?aL ?_; (case aP => exact rfl); (case aB => exact (by repeat (first | (with_reducible first | exact HB.out | apply below_alloc | apply pw_below_drewN | apply below_drew1) | exact HB.out))); (case aF => exact (fun _ _ => trivial)); (case aO => exact (by (with_reducible repeat (first | apply Kd.R_alloc | apply Kd.R_drewN | apply Kd.R_drew)); exact HO.out)); (case aS => exact (below_size (by repeat (first | (with_reducible first | exact HB.out | apply below_alloc | apply pw_below_drewN | apply below_drew1) | exact HB.out)))); (case aL => have := HLen.out; have := HLO.out; omega); intro v361 w25 ho hb hg hat; have n0_ := Aside0.mk (hb); have n1_ := Aside0.mk (ho); clear HB; clear HO; have HB := n0_; have HO := n1_; clear n0_ n1_; clear ho hb hg hat))
        go_roundg gm
        case measure => omega
        case rel => exact ⟨x + 1, xs ++ [x], by first | rfl | (simp; done) | (simp [*]; done), ⟨by have := HLO.out; omega⟩, ⟨by have := HG.out; omega⟩, ⟨by have := HGD.out; omega⟩, ⟨by rw [HX.out, HN.out, if_pos HQ.out, List.append_assoc]; rfl⟩, ⟨by have := HLen.out; simp; omega⟩, ⟨by omega⟩, HO, HB⟩
      | false =>
        rw [hq] at hcall
        have HQ := Aside0.mk hq
        clear hq
        go_wp2_with (go_at_fn g; refine hcall.mono ?_; rintro e w1 ⟨rfl, hb1⟩; have HO1 := Aside0.mk (Kd.R_below HO.out hb1); have HBx := Aside0.mk (HB.out.trans (hb1.mono HB.out.size)); clear HO HB; have HO := HO1; have HB := HBx; clear HO1 HBx hb1)
        go_roundg gm
        case measure => omega
        case rel => exact ⟨x + 1, xs, by first | rfl | (simp; done) | (simp [*]; done), ⟨by have := HLO.out; omega⟩, ⟨by have := HG.out; omega⟩, ⟨by have := HGD.out; omega⟩, ⟨by rw [HX.out, HN.out, if_neg (by rw [HQ.out]; simp)]⟩, ⟨by have := HLen.out; omega⟩, ⟨by omega⟩, HO, HB⟩
    · have c4b0 : decide (x ≤ hi) = false := decide_eq_false hlt
      have HE := Aside0.mk (show numsP p lo d = xs from by
        have h0 : gk = 0 := by have := HG.out; omega
        rw [HX.out, h0]
        simp [numsP])
      clear HX HG HGD HLen HTop HLO
      go_wp2
      go_ret
      exact ⟨u7, rfl, by rw [HE.out]; exact HO.out, HB.out⟩
end Go.Proofs.Ytdeenfpcmaadcaa.Pr

/- The program's EndRegions, by hand: the regions with one neighbour. -/
namespace Go.Proofs.Ytdeenfpcmaadcaa.M
open Go.RowKit Go.Proofs.YtdeenfpcmaadcaaW.PrintWords Go.Proofs.Ytdeenfpcmaadcaa.Pr
def bump (cs : List Int) (x : Int) : List Int := cs.set x.toNat (cs.getD x.toNat 0 + 1)
def bumps : List (List Int) → List Int → List Int
  | [], cs => cs
  | r :: ps, cs => bumps ps (bump (bump cs (r.getD 0 0)) (r.getD 1 0))
theorem bump_len (cs : List Int) (x : Int) : (bump cs x).length = cs.length := by simp [bump]
theorem bumps_len : ∀ (ps : List (List Int)) (cs : List Int), (bumps ps cs).length = cs.length
  | [], _ => rfl
  | r :: ps, cs => by rw [bumps, bumps_len, bump_len, bump_len]
/-- Two places of n. -/
def PairIn (n : Nat) (r : List Int) : Prop := ∃ x y : Nat, r = [(x : Int), (y : Int)] ∧ x < y ∧ y < n
theorem rowK_in (a : Rg) (i : Nat) : ∀ (k : Nat) (r : List Rg), i < k → ∀ q ∈ rowK a i k r, PairIn (k + r.length) q
  | _, [], _, q, h => by cases h
  | k, b :: r, hik, q, h => by
    unfold rowK at h
    have e : k + (b :: r).length = (k + 1) + r.length := by simp; omega
    rw [e]
    split at h
    · rcases List.mem_cons.1 h with rfl | h
      · exact ⟨i, k, rfl, hik, by omega⟩
      · exact rowK_in a i (k + 1) r (by omega) q h
    · exact rowK_in a i (k + 1) r (by omega) q h
theorem neighL_in : ∀ (i : Nat) (r : List Rg), ∀ q ∈ neighL i r, PairIn (i + r.length) q
  | _, [], q, h => by cases h
  | i, a :: r, q, h => by
    have e : i + (a :: r).length = (i + 1) + r.length := by simp; omega
    rw [e]
    rcases List.mem_append.1 h with h | h
    · exact rowK_in a i (i + 1) r (by omega) q h
    · exact neighL_in (i + 1) r q h
theorem neighL_len : ∀ (i : Nat) (r : List Rg), (neighL i r).length ≤ r.length * r.length
  | _, [] => by simp [neighL]
  | i, a :: r => by
    have h1 := rowK_len a i (i + 1) r
    have h2 := neighL_len (i + 1) r
    rw [neighL, List.length_append, List.length_cons, Nat.add_mul, Nat.mul_add]
    omega
end Go.Proofs.Ytdeenfpcmaadcaa.M
namespace Go.Proofs.Ytdeenfpcmaadcaa.Pr
open Go.RowKit Go.Proofs.YtdeenfpcmaadcaaW.PrintWords Go.Proofs.YtdeenfpcmaadcaaW.PrintLast Go.Proofs.YtdeenfpcmaadcaaW.PrintMore
set_option linter.unusedVariables false
set_option linter.unusedSimpArgs false
def oneB (cs : List Int) (i : Int) : Bool := cs.getD i.toNat 0 == 1
def countsR (rs : List SR) : List Int := M.bumps (M.neighL 0 rs) (List.replicate rs.length 0)
def impl_EndRegions.f (k : Nat) (a0 : Int) (l1 : List CH) : Option (List Int × Bool) :=
  (impl_planeRegions.f k a0 l1).bind fun q => if q.2 = true then (if 1 ≤ q.1.length ∧ q.1.length ≤ 1000 then some (numsP (oneB (countsR q.1)) 0 q.1.length, true) else none) else some ([], false)
theorem impl_EndRegions.mono : ∀ a0 a1 k, LeO (impl_EndRegions.f k a0 a1) (impl_EndRegions.f (k + 1) a0 a1) := by
  intro a0 a1 k
  unfold impl_EndRegions.f
  exact LeO.bind (impl_planeRegions.mono _ _ _) (fun _ => LeO.refl _)
/-- What is held in the loop over the pairs. -/
structure EW (w W : World) (Bx g n cap : Nat) (cs : List Int) (vn : Value) (ps : List (List Int)) : Prop where
  bl : Below w.heap.size w W
  hg : w.heap.size ≤ g
  bx : kpB Bx 24 #[.slice (some ⟨g, 0, none⟩) n cap] W
  ct : KI.R 3 W w.heap.size (fun _ => True) (.slice (some ⟨g, 0, none⟩) n cap) cs
  pr : Kd.S KR 24 W w.heap.size (fun k => k ≠ g ∧ k ≠ Bx) vn ps
section
variable {w W W' : World} {Bx g n cap : Nat} {cs : List Int} {vn : Value} {ps : List (List Int)}
theorem EW.go (h : EW w W Bx g n cap cs vn ps) (hb : Below W.heap.size W W') : EW w W' Bx g n cap cs vn ps := ⟨below_step h.bl hb, h.hg, h.bx.go hb, Kd.R_below h.ct hb, Kd.S_below h.pr hb⟩
theorem EW.start {w w2 w3 w5 : World} {g n cap : Nat} {cs : List Int} {vn : Value} {ps : List (List Int)} (h1 : Below w.heap.size w w2) (h2 : Below w2.heap.size w2 w3) (hg : w2.heap.size ≤ g ∧ g < w3.heap.size) (hc : KI.R 3 w3 w2.heap.size (fun _ => True) (.slice (some ⟨g, 0, none⟩) n cap) cs)
    (h5 : Below (w3.alloc (.cells #[.slice (some ⟨g, 0, none⟩) n cap] 24)).heap.size (w3.alloc (.cells #[.slice (some ⟨g, 0, none⟩) n cap] 24)) w5) (hs : Kd.S KR 24 w5 (w3.alloc (.cells #[.slice (some ⟨g, 0, none⟩) n cap] 24)).heap.size (fun _ => True) vn ps) : EW w w5 w3.heap.size g n cap cs vn ps := by
  have h12 := below_step h1 h2
  have hz : (w3.alloc (.cells #[.slice (some ⟨g, 0, none⟩) n cap] 24)).heap.size = w3.heap.size + 1 := by simp
  have h3 : Below w3.heap.size w3 (w3.alloc (.cells #[.slice (some ⟨g, 0, none⟩) n cap] 24)) := below_alloc (Below.refl _ _) _
  refine ⟨below_step (below_step h12 h3) h5, Nat.le_trans h1.size hg.1, (kpB.new w3).go h5, Kd.R_below (Kd.R_below (Kd.R_lower hc h1.size) h3) h5, ?_⟩
  refine Kd.S_lower (Kd.S_mono (Kd.S_bound hs) (fun k hk => ?_)) (by have := h12.size; omega)
  have := hk.2.1
  exact ⟨by omega, by omega⟩
theorem EW.len (h : EW w W Bx g n cap cs vn ps) : n = cs.length := (Kd.R_reads' h.ct).1
theorem EW.cnt (h : EW w W Bx g n cap cs vn ps) {x : Nat} (hx : x < cs.length) : W.cell? ⟨g, x, none⟩ = some (.int .i64 (cs.getD x 0)) ∧ W.frozen? ⟨g, x, none⟩ = false := by
  have e := Kd.R_celln 0 h.ct (x : Int) (by omega) (by have := h.len; omega)
  rw [Int.toNat_natCast] at e
  exact ⟨e.1, e.2⟩
theorem EW.set (h : EW w W Bx g n cap cs vn ps) {x : Nat} (hx : x < cs.length) (z : Int) : EW w (W.setCell ⟨g, x, none⟩ (.int .i64 z)) Bx g n cap (cs.set x z) vn ps := by
  obtain ⟨h1, h2⟩ := Kd.R_putg h.ct (x : Int) z
  rw [Int.toNat_natCast] at h1 h2
  refine ⟨below_set h.bl h.hg, h.hg, h.bx.grown h2 ?_, h1, Kd.S_grown h.pr h2 (fun k hk e => hk.1 (Option.some.inj e))⟩
  exact Kd.R_ne h.ct h.bx (by decide)
theorem EW.pair (h : EW w W Bx g n cap cs vn ps) {j : Nat} (hj : j < ps.length) {x y : Nat} (hp : ps[j] = [(x : Int), (y : Int)]) :
    ∃ ad g2 c0 cn, vn = .slice (some ad) ps.length cn ∧ g2 ≠ g ∧ W.cell? (ad.add j) = some (.slice (some ⟨g2, 0, none⟩) 2 c0) ∧ W.cell? ⟨g2, 0, none⟩ = some (.int .i64 (x : Int)) ∧ W.cell? ⟨g2, 1, none⟩ = some (.int .i64 (y : Int)) := by
  obtain ⟨A, c, e, hl, hC⟩ := Kd.S_reads h.pr
  obtain ⟨ad, _, _, e2, _, _, _⟩ := at_L4 hC (j : Int) (by omega) (by omega)
  subst e2
  have hpr := h.pr
  rw [e] at hpr
  obtain ⟨c2, hc2, hM, hcell⟩ := Kd.S_get hpr [] (j : Int) (by omega) (by omega)
  rw [Int.toNat_natCast, show ps.getD j [] = [(x : Int), (y : Int)] by simp [List.getD_eq_getElem?_getD, List.getElem?_eq_getElem hj, hp]] at hM
  obtain ⟨v', rfl, hR⟩ := hM
  obtain ⟨g2, c0, e3, _, _, _⟩ := Kd.R_form hR (by simp)
  have hne := (hR.1 g2 (by rw [e3]; rfl)).1.1
  subst e3
  have z := hcell 0 _ rfl
  rw [Int.toNat_natCast, Nat.add_zero, show KR.sz = 1 from rfl, Nat.mul_one] at z
  have z0 := (Kd.R_celln 0 hR 0 (by omega) (by simp)).1
  have z1 := (Kd.R_celln 0 hR 1 (by omega) (by simp)).1
  exact ⟨ad, g2, c0, c, e, hne, z, z0, z1⟩
theorem cell_far {W : World} {g x b o : Nat} {u v : Value} (hne : b ≠ g) (h : W.cell? ⟨b, o, none⟩ = some v) : ((W.setCell ⟨g, x, none⟩ u).drew).cell? ⟨b, o, none⟩ = some v := by
  have e : (W.setCell ⟨g, x, none⟩ u).heap[b]? = W.heap[b]? := Below.heap_setCell W ⟨g, x, none⟩ u b hne
  show (W.setCell ⟨g, x, none⟩ u).cell? ⟨b, o, none⟩ = some v
  simpa [World.cell?, e] using h
end
set_option maxHeartbeats 1000000 in
theorem one_pred (Bx g n cap : Nat) (cs : List Int) (w : World) (hx : w.cell? ⟨Bx, 0, none⟩ = some (.slice (some ⟨g, 0, none⟩) n cap)) (hn : n = cs.length) (hcs : ∀ x : Nat, x < cs.length → w.cell? ⟨g, x, none⟩ = some (.int .i64 (cs.getD x 0)))
    (W : World) (i : Int) (h0 : 0 ≤ i) (h1 : i < n) (hb : Below w.heap.size w W) :
    Calls Try.prog 58 #[.int .i64 i, .pointer (some ⟨Bx, 0, none⟩)] W fun e w' => e = .returned (.bool (oneB cs i)) ∧ Below W.heap.size W w' := by
  obtain ⟨x, rfl⟩ : ∃ x : Nat, i = (x : Int) := ⟨i.toNat, by omega⟩
  have hxl : x < cs.length := by omega
  have y0 : W.cell? ⟨Bx, 0, none⟩ = some (.slice (some ⟨g, 0, none⟩) n cap) := (hb.cell (World.block_lt_of_cell? w _ hx)).trans hx
  have y1 : W.cell? ⟨g, x, none⟩ = some (.int .i64 (cs.getD x 0)) := (hb.cell (p := ⟨g, x, none⟩) (World.block_lt_of_cell? w _ (hcs x hxl))).trans (hcs x hxl)
  have e1 : decide ((x : Int) < (n : Int)) = true := decide_eq_true (by omega)
  have e2 : decide (x < n) = true := decide_eq_true (by omega)
  have HO := Aside0.mk (show oneB cs (x : Int) = (cs.getD x 0 == 1) by unfold oneB; rw [Int.toNat_natCast])
  generalize cs.getD x 0 = z at y1 HO
  clear hx hcs hb
  go_enter Try.func58, Try.ntmps58
  go_wp2_with fail
  go_ret
  exact ⟨by rw [HO.out]; rfl, Below.refl _ _⟩
set_option maxHeartbeats 4000000 in
set_option maxRecDepth 100000 in
theorem impl_EndRegions.calls (k : Nat) (a0 : Int) (A1 : Option Addr) (c1 : Nat) (l1 : List CH) (r1 : List Int) (r2 : Bool) (w : World) (hr1 : Kd.C k47 w A1 l1.length l1) (hc1 : l1.length ≤ c1) (h : impl_EndRegions.f k a0 l1 = some (r1, r2)) :
    Calls Try.prog 29 #[.int .i64 a0, .slice A1 l1.length c1] w fun e w' => ∃ v0_ : Value, e = .returned (.tuple #[v0_, .bool r2]) ∧ Kd.R (Kd.int .i64) 3 w' w.heap.size (fun _ => True) v0_ r1 ∧ Below w.heap.size w w' := by
  obtain ⟨⟨rs, ok⟩, hp, h⟩ := Option.bind_eq_some_iff.mp h
  dsimp only at h
  have HC := Aside0.mk (impl_planeRegions.calls k a0 A1 c1 l1 rs ok w hr1 hc1 hp)
  clear hr1 hc1 hp
  cases ok with
  | false =>
    rw [if_neg (by simp)] at h
    injection h with h
    injection h with h1 h2
    subst h1 h2
    go_enter Try.func29, Try.ntmps29
    go_wp2_with (go_at_call 35; refine HC.out.mono ?_; rintro e w' ⟨v0, rfl, hs, hb⟩)
    go_ret2
    exact ⟨_, rfl, Kd.R_nil _ _ _ _ _, hb⟩
  | true =>
    rw [if_pos rfl] at h
    by_cases hr : 1 ≤ rs.length ∧ rs.length ≤ 1000
    rotate_left
    · rw [if_neg hr] at h; cases h
    rw [if_pos hr] at h
    injection h with h
    injection h with h1 h2
    subst h1 h2
    have ew : IntKind.i64.wrap ((rs.length : Int) - 1) = (rs.length : Int) - 1 := by
      rw [i64_w]
      exact M.w64 (by omega) (by omega)
    have eg : ∀ args w, (callFunc 58 args).run Try.prog w = .ok (.enter 58 args) w := enters_of Try.func58 (by kernel_rfl) rfl
    have HEG := Aside0.mk eg
    have HNe := Aside0.mk (fun (Av : Option Addr) (cv : Nat) (W : World) (hC : Kd.C k54 W Av rs.length rs) (hc : rs.length ≤ cv) =>
      impl_neighbours.calls Av cv rs (M.neighL 0 rs) W hC hc (by unfold impl_neighbours.f; rw [if_pos hr.2]))
    have HPI := Aside0.mk (fun (q : List Int) (hq : q ∈ M.neighL 0 rs) => M.neighL_in 0 rs q hq)
    have HPL := Aside0.mk (M.neighL_len 0 rs)
    have HDone := Aside0.mk (show countsR rs = M.bumps (M.neighL 0 rs) (List.replicate rs.length 0) from rfl)
    generalize M.neighL 0 rs = ps at HNe HPI HPL HDone
    generalize countsR rs = done at HDone ⊢
    have hr0 : (0 : Int) ≤ (rs.length : Int) := by omega
    have HR := Aside0.mk hr
    clear hr eg
    go_enter Try.func29, Try.ntmps29
    go_upto_block 0 with (first | (go_at_call 35; refine HC.out.mono ?_; rintro e w2 ⟨v0, rfl, hs, hb⟩; obtain ⟨Av, cv, ev, hcv, hCv⟩ := Kd.S_reads hs; subst ev; have HCv := Aside0.mk hCv; have Hcv := Aside0.mk hcv; have HBa := Aside0.mk hb; clear hb hs hCv hcv) | ((with_reducible refine gate_dst (N := 21) rfl ?_); refine Kd.R_make KI (w0 := w2) w2.heap.size 3 rfl (N := 21) rfl 24 _ _ rfl (rs.length : Int) rfl rfl Try.underlying24 (.int .i64 0) 8 info3 rfl (by decide) (by omega) 0 (ok := fun _ => True) (okp := fun _ => True) rfl (fun _ hk => hk) trivial hr0 (by have := HR.out.2; omega) (Below.refl _ _) (Nat.le_refl _) ?_; intro v1 w3 ho hb hg hnew; rw [Int.toNat_natCast] at ho; obtain ⟨g, cap, ev1, hgl, hgs, _⟩ := Kd.R_form ho (by rw [List.length_replicate]; exact HR.out.1); rw [List.length_replicate] at ev1; subst ev1; have HO := Aside0.mk (show KI.R 3 w3 w2.heap.size (fun _ => True) (.slice (some ⟨g, 0, none⟩) rs.length cap) (List.replicate rs.length 0) from ho); have HBb := Aside0.mk hb; have HG := Aside0.mk (show w2.heap.size ≤ g ∧ g < w3.heap.size from ⟨hgl, hgs⟩); clear ho hb hg hnew hgl hgs) | (go_at_call 57; refine (HNe.out _ _ _ (Kd.C_below HCv.out (below_alloc HBb.out _)) Hcv.out).mono ?_; rintro e w5 ⟨vn, rfl, hs5, hb5⟩; obtain ⟨An, cn, en⟩ := Kd.S_slice hs5; subst en; have HS5 := Aside0.mk hs5; have HB5 := Aside0.mk hb5; clear hs5 hb5))
    have HE := Aside0.mk (EW.start HBa.out HBb.out HG.out HO.out HB5.out HS5.out)
    clear HBa HBb HG HO HB5 HS5 HCv Hcv
    generalize w3.heap.size = Bx at HE ⊢
    have HI0 := Aside0.mk (show ∀ x : Nat, 0 ≤ (List.replicate rs.length (0 : Int)).getD x 0 ∧ (List.replicate rs.length (0 : Int)).getD x 0 ≤ ((0 : Nat) : Int) from fun x => by
      rw [List.getD_eq_getElem?_getD, List.getElem?_replicate]
      split <;> simp)
    obtain ⟨M0, hM0⟩ : ∃ M0, M0 = ps.length := ⟨_, rfl⟩
    go_wp2_with fail
    go_loopg [25] M0 (fun gg v25 W => ∃ (j : Nat) (cs : List Int), v25 = .int .i64 j ∧ Aside0 (j + gg = M0) ∧ Aside0 (EW w W Bx g rs.length cap cs (.slice An ps.length cn) ps) ∧ Aside0 (cs.length = rs.length) ∧ Aside0 (∀ x : Nat, 0 ≤ cs.getD x 0 ∧ cs.getD x 0 ≤ ((2 * j : Nat) : Int)) ∧ Aside0 (M.bumps (ps.drop j) cs = done))
    case atStart => exact ⟨0, List.replicate rs.length 0, by first | rfl | (simp; done), ⟨by omega⟩, HE, ⟨by simp⟩, ⟨by simpa using HI0.out⟩, ⟨HDone.out.symm⟩⟩
    case round =>
      clear HE HI0 HDone
      obtain ⟨j, cs, rfl, HG, HE, HCL, HI, HD⟩ := hrel
      have hM1 : (M0 : Int) = (ps.length : Int) := by omega
      by_cases hj : j < M0
      · have hjl : j < ps.length := by omega
        have hbig : ps.length ≤ 1000000 := by
          have h1 := HPL.out
          have h2 : rs.length * rs.length ≤ 1000 * 1000 := Nat.mul_le_mul HR.out.2 HR.out.2
          omega
        have e1 : decide ((j : Int) < (ps.length : Int)) = true := decide_eq_true (by omega)
        have e2 : IntKind.i64.wrap ((j : Int) + 1) = ((j + 1 : Nat) : Int) := by
          rw [i64_w]
          exact M.w64 (by omega) (by omega)
        obtain ⟨gm, rfl⟩ : ∃ gm, gk = gm + 1 := ⟨gk - 1, by have := HG.out; omega⟩
        obtain ⟨x, y, hxy, hlt, hyn⟩ := HPI.out ps[j] (List.getElem_mem hjl)
        rw [Nat.zero_add] at hyn
        have hD := HD.out
        rw [List.drop_eq_getElem_cons hjl, M.bumps, hxy] at hD
        have HD2 := Aside0.mk (show M.bumps (ps.drop (j + 1)) (M.bump (M.bump cs (x : Int)) (y : Int)) = done from hD)
        obtain ⟨ad, g2, c0, cn', evn, hg2, z0, z1, z2⟩ := HE.out.pair hjl hxy
        injection evn with ea _ ec
        subst ea
        subst ec
        have hxl : x < cs.length := by have := HCL.out; omega
        have hyl : y < cs.length := by have := HCL.out; omega
        have HZ := Aside0.mk (HE.out.set hxl (cs.getD x 0 + 1) |>.go (below_drew (Below.refl _ _)))
        have HB1 := Aside0.mk (show M.bump cs (x : Int) = cs.set x (cs.getD x 0 + 1) by unfold M.bump; rw [Int.toNat_natCast])
        have b0 := HI.out x
        have z3 := (HE.out.cnt hxl).1
        have z3f := (HE.out.cnt hxl).2
        have z4 : wr.cell? ⟨Bx, 0, none⟩ = some (.slice (some ⟨g, 0, none⟩) rs.length cap) := HE.out.bx.cell 0
        have hx0 : (0 : Int) ≤ (x : Int) := by omega
        have hx1 : (x : Int) < (rs.length : Int) := by have := HCL.out; omega
        have e5 : decide ((x : Int) < (rs.length : Int)) = true := decide_eq_true (by omega)
        have e5' : decide (x < rs.length) = true := decide_eq_true (by omega)
        have HI2 := Aside0.mk (fun q : Nat => show 0 ≤ (cs.set x (cs.getD x 0 + 1)).getD q 0 ∧ (cs.set x (cs.getD x 0 + 1)).getD q 0 ≤ ((2 * j + 1 : Nat) : Int) from by
          have h1 := HI.out q
          have h2 := HI.out x
          by_cases e : x = q
          · subst e
            rw [List.getD_eq_getElem?_getD, List.getElem?_set_self hxl, Option.getD_some]
            omega
          · rw [List.getD_eq_getElem?_getD, List.getElem?_set_ne e, ← List.getD_eq_getElem?_getD]
            omega)
        obtain ⟨zx, hzx⟩ : ∃ z, z = cs.getD x 0 := ⟨_, rfl⟩
        rw [← hzx] at HZ HB1 b0 z3 HI2
        have HZX := Aside0.mk hzx
        have e6 : IntKind.i64.wrap (zx + 1) = zx + 1 := by
          rw [i64_w]
          exact M.w64 (by omega) (by omega)
        have HZ2 := Aside0.mk (cell_far (g := g) (x := x) (u := .int .i64 (zx + 1)) hg2 z2)
        have HBD := Aside0.mk (show 0 ≤ zx ∧ zx ≤ 2000000 by omega)
        clear hD HD hxy hzx b0 HE HI
        go_upto_region 8 with fail
        go_region
        clear z0 z1 z2 z3 z3f z4 e6
        obtain ⟨W2, hW2⟩ : ∃ W2, W2 = (wr.setCell ⟨g, x, none⟩ (.int .i64 (zx + 1))).drew := ⟨_, rfl⟩
        obtain ⟨cs2, hcs2⟩ : ∃ cs2, cs2 = cs.set x (zx + 1) := ⟨_, rfl⟩
        rw [← hcs2, ← hW2] at HZ
        rw [← hW2] at HZ2
        rw [← hcs2] at HB1 HI2
        rw [← hW2]
        have HCL2 := Aside0.mk (show cs2.length = rs.length by rw [hcs2, List.length_set]; exact HCL.out)
        clear hcs2 hW2
        have hyl2 : y < cs2.length := by have := HCL2.out; omega
        have HY := Aside0.mk (HZ.out.set hyl2 (cs2.getD y 0 + 1) |>.go (below_drew (Below.refl _ _)))
        have HB2 := Aside0.mk (show M.bump cs2 (y : Int) = cs2.set y (cs2.getD y 0 + 1) by unfold M.bump; rw [Int.toNat_natCast])
        have b0 := HI2.out y
        have z2 := HZ2.out
        have z3 := (HZ.out.cnt hyl2).1
        have z3f := (HZ.out.cnt hyl2).2
        have z4 : W2.cell? ⟨Bx, 0, none⟩ = some (.slice (some ⟨g, 0, none⟩) rs.length cap) := HZ.out.bx.cell 0
        have hx0 : (0 : Int) ≤ (y : Int) := by omega
        have hx1 : (y : Int) < (rs.length : Int) := by have := HCL2.out; omega
        have e7 : decide ((y : Int) < (rs.length : Int)) = true := decide_eq_true (by omega)
        have e7' : decide (y < rs.length) = true := decide_eq_true (by omega)
        have HI3 := Aside0.mk (fun q : Nat => show 0 ≤ (cs2.set y (cs2.getD y 0 + 1)).getD q 0 ∧ (cs2.set y (cs2.getD y 0 + 1)).getD q 0 ≤ ((2 * (j + 1) : Nat) : Int) from by
          have h1 := HI2.out q
          have h2 := HI2.out y
          by_cases e : y = q
          · subst e
            rw [List.getD_eq_getElem?_getD, List.getElem?_set_self hyl2, Option.getD_some]
            omega
          · rw [List.getD_eq_getElem?_getD, List.getElem?_set_ne e, ← List.getD_eq_getElem?_getD]
            omega)
        have HCL3 := Aside0.mk (show (cs2.set y (cs2.getD y 0 + 1)).length = rs.length by rw [List.length_set]; exact HCL2.out)
        obtain ⟨zy, hzy⟩ : ∃ z, z = cs2.getD y 0 := ⟨_, rfl⟩
        rw [← hzy] at HY HB2 b0 z3 HI3 HCL3
        have e6 : IntKind.i64.wrap (zy + 1) = zy + 1 := by
          rw [i64_w]
          exact M.w64 (by omega) (by omega)
        have HD3 := Aside0.mk (show M.bumps (ps.drop (j + 1)) (cs2.set y (zy + 1)) = done by rw [← HB2.out, ← HB1.out]; exact HD2.out)
        clear hzy b0 HZ HI2 HB1 HB2 HD2
        go_upto_region 9 with fail
        go_region
        clear z2 z3 z3f z4 e6
        go_wp2_with fail
        go_roundg gm
        case measure => omega
        case rel => exact ⟨j + 1, cs2.set y (zy + 1), by first | rfl | (simp; done), ⟨by have := HG.out; omega⟩, HY, HCL3, HI3, HD3⟩
      · have hje : j = ps.length := by have := HG.out; omega
        have e1 : decide ((j : Int) < (ps.length : Int)) = false := decide_eq_false (by omega)
        have e1' : decide (j < ps.length) = false := decide_eq_false (by omega)
        have hD := HD.out
        rw [hje, List.drop_length, M.bumps] at hD
        have HD2 := Aside0.mk hD
        have HNW := Aside0.mk (numbersWith_calls 0 ((rs.length : Int) - 1) rs.length (by omega) (by omega) (by have := HR.out; omega) (oneB cs) 58 #[.pointer (some ⟨Bx, 0, none⟩)] HEG.out wr
          (fun W i h0 h1 hb => one_pred Bx g rs.length cap cs wr (HE.out.bx.cell 0) HCL.out.symm (fun x hx => (HE.out.cnt hx).1) W i h0 (by omega) hb))
        have HBL := Aside0.mk HE.out.bl
        clear hD HD hje HE HI
        go_wp2_with (go_at_call 52; refine HNW.out.mono ?_; rintro e w6 ⟨v0, rfl, ho, hb⟩; have HO6 := Aside0.mk ho; have HB6 := Aside0.mk hb; clear ho hb)
        go_ret2
        exact ⟨_, rfl, by rw [← HD2.out]; exact Kd.R_lower HO6.out HBL.out.size, below_step HBL.out HB6.out⟩
end Go.Proofs.Ytdeenfpcmaadcaa.Pr
