/- The program's FlipDiagonal returns what the reference's returns, for all arguments. (Part 5 of 6.) -/
import Derived.Lib.SliceRun
import Derived.Shelf.GgSortFunc.RowK
import Derived.Shelf.SlSortFuncK.RowK2
import Derived.Sort.Grow
import Derived.Shelf.SlSortCmp.InsertionK
import Derived.RegionTactic
import Derived.Lib.SlicesCompact
import Derived.Sort.WalkB12
import Derived.Shelf.SlGeneric
import Derived.Shelf.SlSortCmp.WholeK
import Derived.Ground.SlsfProg
import Derived.Test.YtdeenfpcmaadcaaProg
import Derived.Shelf.SlSortCmp.NoneTotal
import Derived.Test.YtdeenfpcmaadcaaKFnExactFlipDiagonal0
import Derived.Test.YtdeenfpcmaadcaaKFnExactFlipDiagonal1
import Derived.Test.YtdeenfpcmaadcaaKFnExactFlipDiagonal2
import Derived.Test.YtdeenfpcmaadcaaKFnExactFlipDiagonal3
set_option linter.unusedVariables false
set_option linter.unusedSimpArgs false
namespace Go.Proofs.Ytdeenfpcmaadcaa.Pr
open Go.RowKit Go.Proofs.YtdeenfpcmaadcaaW.PrintWords Go.Proofs.YtdeenfpcmaadcaaW.PrintLast Go.Proofs.YtdeenfpcmaadcaaW.PrintMore
attribute [local go_sem] max2_int min2_int max_two min_two max_three min_three max_four min_four
def impl_isSet.f (k : Nat) (a0 : Int) (l1 : List (S47)) : Option (Bool) := (impl_isCircle.f a0).bind fun t225 => (if t225 = true then ((impl_AreChords.f k a0 l1).bind fun t226 => (some t226)) else (some false))
theorem impl_isSet.mono : ∀ a0 a1 k, LeO (impl_isSet.f k a0 a1) (impl_isSet.f (k + 1) a0 a1) := by
 intro a0 a1 k
 unfold impl_isSet.f
 repeat' first
   | (with_reducible exact impl_AreChords.mono _ _ _)
   | (with_reducible exact LeO.refl _)
   | (with_reducible exact LeO.none _)
   | (with_reducible refine LeO.ite ?_ ?_)
   | (with_reducible refine LeO.bind ?_ (fun _ => ?_))
   | exact impl_AreChords.mono _ _ _
   | exact LeO.none _
   | refine LeO.ite ?_ ?_
   | refine LeO.bind ?_ (fun _ => ?_)
set_option maxHeartbeats 8000000 in
set_option maxRecDepth 100000 in
theorem impl_isSet.calls (k : Nat) (a0 : Int) (A1 : Option Addr) (c1 : Nat) (l1 : List (S47)) (r : Bool) (w : World) (hr1 : Kd.C k47 w A1 l1.length l1) (hc1 : l1.length ≤ c1) (h : impl_isSet.f k a0 l1 = some r) :
  Calls Try.prog 61 #[.int .i64 a0, .slice A1 l1.length c1] w fun e w' => e = .returned (.bool r) ∧ Below w.heap.size w w' := by
 have HR1 := Aside0.mk hr1
 have HC1 := Aside0.mk hc1
 clear hr1 hc1
 have HB := Aside0.mk (Below.refl w.heap.size w)
 have H : ((impl_isCircle.f a0).bind fun t225 => (if t225 = true then ((impl_AreChords.f k a0 l1).bind fun t226 => (some t226)) else (some false))) = some r := h
 clear h
 replace H := bI H
 obtain ⟨t225, A30, H⟩ := H
 replace H : (if t225 = true then ((impl_AreChords.f k a0 l1).bind fun t226 => (some t226)) else (some false)) = some r := H
 have A3 := Aside0.mk A30
 clear A30
 by_cases c4 : t225 = true
 ·subst c4
  have H1 : ((impl_AreChords.f k a0 l1).bind fun t226 => (some t226)) = some r := by rw [if_pos rfl] at H; exact H
  clear H
  have H := H1
  clear H1
  replace H := bI H
  obtain ⟨t226, A50, H⟩ := H
  replace H : (some t226) = some r := H
  have A5 := Aside0.mk A50
  clear A50
  obtain rfl := oI H
  go_enter Try.func61, Try.ntmps61
  go_wp2_with (first | ((with_reducible refine gate_callee (f := 81) rfl ?_); refine goesL_ (some 6) rfl rfl Try.func81 (by kernel_rfl) rfl #[.int .i64 a0] rfl ar_ ?_; (with_reducible refine (impl_isCircle.calls a0 true _ A3.out).mono ?_); rintro e w' ⟨rfl, ⟨nd, rfl⟩⟩; refine ⟨_, rfl, ?_⟩) | (go_at_call 82; (with_reducible refine (impl_AreChords.calls k a0 _ _ l1 t226 _ ?side1 ?side2 A5.out).mono ?_); (case side1 => repeat (first | exact HR1.out | (with_reducible refine Kd.C_alloc ?_ _) | (with_reducible refine Kd.C_drewN ?_ _) | (with_reducible refine Kd.C_drew ?_))); (case side2 => exact HC1.out); rintro e w6 ⟨rfl, hb⟩; have n0_ := Aside0.mk (below_step hb_ hb); clear HB; have HB := n0_; clear n0_; (try clear hb); (try clear hb2); (try clear hk); (try clear hi)))
  go_ret
  exact ⟨by first | rfl | (simp [errW_none, errW_some] <;> rfl) | (simp [*, errW_none, errW_some] <;> rfl), hb_⟩
 ·replace c4 := Bool.eq_false_iff.mpr c4
  subst c4
  have H1 : (some false) = some r := by rw [if_neg (show ¬ (false = true) by decide)] at H; exact H
  clear H
  have H := H1
  clear H1
  obtain rfl := oI H
  go_enter Try.func61, Try.ntmps61
  go_wp2_with (first | ((with_reducible refine gate_callee (f := 81) rfl ?_); refine goesL_ (some 6) rfl rfl Try.func81 (by kernel_rfl) rfl #[.int .i64 a0] rfl ar_ ?_; (with_reducible refine (impl_isCircle.calls a0 false _ A3.out).mono ?_); rintro e w' ⟨rfl, ⟨nd, rfl⟩⟩; refine ⟨_, rfl, ?_⟩))
  go_ret
  exact ⟨by first | rfl | (simp [errW_none, errW_some] <;> rfl) | (simp [*, errW_none, errW_some] <;> rfl), hb_⟩
def impl_crossed.l0 : Nat → Int → List (S47) → Int → Int → Int → Int → Option (Int)
 | 0, _, _, _, _, _, _ => none
 | k + 1, x5, x8, x9, x10, x228000, x228001 => if x10 < x9 then (if 0 ≤ x10 then (if x10 < (x8.length : Int) then ((impl_crossing.f x228000 x228001 ((rd_T47 x8 x10).f0) ((rd_T47 x8 x10).f1)).bind fun t230 => (if t230 = true then (impl_crossed.l0 k (wrap64 (x5 + 1)) x8 x9 (wrap64 (x10 + 1)) x228000 x228001) else (impl_crossed.l0 k x5 x8 x9 (wrap64 (x10 + 1)) x228000 x228001))) else (none)) else (none)) else (some x5)
def impl_crossed.f (k : Nat) (l0 : List (S47)) (a1_0 : Int) (a1_1 : Int) : Option (Int) := impl_crossed.l0 k 0 l0 (l0.length : Int) 0 a1_0 a1_1
theorem impl_crossed.mono_l : ∀ k, (∀ y0 y1 y2 y3 y4 y5, LeO (impl_crossed.l0 k y0 y1 y2 y3 y4 y5) (impl_crossed.l0 (k + 1) y0 y1 y2 y3 y4 y5))
 | 0 => fun _ _ _ _ _ _ r h => by simp [impl_crossed.l0] at h
 | k + 1 => by
  have ih0 := impl_crossed.mono_l k
  ·intro y0 y1 y2 y3 y4 y5
   unfold impl_crossed.l0
   repeat' first
   | (with_reducible exact ih0 _ _ _ _ _ _)
   | (with_reducible exact LeO.refl _)
   | (with_reducible exact LeO.none _)
   | (with_reducible refine LeO.ite ?_ ?_)
   | (with_reducible refine LeO.bind ?_ (fun _ => ?_))
   | exact ih0 _ _ _ _ _ _
   | exact LeO.none _
   | refine LeO.ite ?_ ?_
   | refine LeO.bind ?_ (fun _ => ?_)
theorem impl_crossed.mono : ∀ a0 a1 a2 k, LeO (impl_crossed.f k a0 a1 a2) (impl_crossed.f (k + 1) a0 a1 a2) := by
 intro a0 a1 a2 k
 have ih0 := impl_crossed.mono_l k
 unfold impl_crossed.f
 repeat' first
   | (with_reducible exact ih0 _ _ _ _ _ _)
   | (with_reducible exact LeO.refl _)
   | (with_reducible exact LeO.none _)
   | (with_reducible refine LeO.ite ?_ ?_)
   | (with_reducible refine LeO.bind ?_ (fun _ => ?_))
   | exact ih0 _ _ _ _ _ _
   | exact LeO.none _
   | refine LeO.ite ?_ ?_
   | refine LeO.bind ?_ (fun _ => ?_)
set_option maxHeartbeats 8000000 in
set_option maxRecDepth 100000 in
theorem impl_crossed.calls (k : Nat) (A0 : Option Addr) (c0 : Nat) (l0 : List (S47)) (a1_0 : Int) (a1_1 : Int) (r : Int) (w : World) (hr0 : Kd.C k47 w A0 l0.length l0) (hc0 : l0.length ≤ c0) (h : impl_crossed.f k l0 a1_0 a1_1 = some r) :
  Calls Try.prog 83 #[.slice A0 l0.length c0, .agg #[.int .i64 a1_0, .int .i64 a1_1]] w fun e w' => e = .returned (.int .i64 r) ∧ Below w.heap.size w w' := by
 have hu47 := Try.underlying47
 have HR0 := Aside0.mk hr0
 have HC0 := Aside0.mk hc0
 clear hr0 hc0
 have HB := Aside0.mk (Below.refl w.heap.size w)
 have H : (impl_crossed.l0 k 0 l0 (l0.length : Int) 0 a1_0 a1_1) = some r := h
 clear h
 have H' := Aside0.mk H
 clear H
 go_enter Try.func83, Try.ntmps83
 go_wp2_with (first | ((with_reducible refine gate_dst (N := 3) rfl ?_); refine box_event ?hg (N := 3) ?hd (cs := #[.int .i64 a1_0, .int .i64 a1_1]) (t := 47) ?hr ?_; (case hd => rfl); (case hg => rfl); (case hr => first | (go_simp; done) | (go_simp; rfl)); intro gb227 hg w3 hbox hb; have n0_ := Aside0.mk (below_step hb_ hb); have n1_ := Aside0.mk (hbox); have n2_ := Aside0.mk ((by rw [hg]; exact (below_size hb_) : w.heap.size ≤ gb227)); have n3_ := Aside0.mk ((by rw [hg]; exact (below_size hb_) : w.heap.size ≤ gb227)); clear HB; have HB := n0_; have BK227 := n1_; have GW227 := n2_; have GE227 := n3_; clear n0_ n1_ n2_ n3_; clear hb hbox hg))
 go_loopg [5, 10] k (fun kq v5 v10 w' => ∃ (x5_1 : Int) (x10_1 : Int), v5 = .int .i64 x5_1 ∧ v10 = .int .i64 x10_1 ∧ Aside0 (impl_crossed.l0 kq x5_1 l0 (l0.length : Int) x10_1 a1_0 a1_1 = some r) ∧ Aside0 (kq ≤ k) ∧ Aside0 (w'.heap[gb227]? = some (.cells #[.int .i64 a1_0, .int .i64 a1_1] 47 (0, 0))) ∧ Aside0 (Below w.heap.size w w'))
 case atStart => exact ⟨(0), (0), (by first | rfl | (simp; done) | (simp [*]; done)), (by first | rfl | (simp; done) | (simp [*]; done)), H', ⟨Nat.le_refl _⟩, ⟨by (with_reducible repeat (first | refine kN ?_ _ | refine kD ?_ | refine kA ?_ _)); exact BK227.out⟩, ⟨hs_ GE227.out⟩⟩
 case round =>
  clear H'
  try clear p2
  obtain ⟨x5_1, x10_1, rfl, rfl, HA, HK1, BK227, HB⟩ := hrel
  cases gk with
  | zero => exact absurd HA.out (by simp [impl_crossed.l0])
  | succ k1 =>
   have H := HA.out
   clear HA
   simp only [impl_crossed.l0] at H
   by_cases c4 : x10_1 < (l0.length : Int)
   ·rw [if_pos c4] at H
    have c4b0 : decide (x10_1 < (l0.length : Int)) = true := decide_eq_true c4
    clear c4
    by_cases c5 : 0 ≤ x10_1
    ·rw [if_pos c5] at H
     have c5b0 : decide (0 ≤ x10_1) = true := decide_eq_true c5
     clear c5
     by_cases c6 : x10_1 < (l0.length : Int)
     ·rw [if_pos c6] at H
      have c6b0 : decide (x10_1 < (l0.length : Int)) = true := decide_eq_true c6
      clear c6
      replace H := bI H
      obtain ⟨t230, A70, H⟩ := H
      replace H : (if t230 = true then (impl_crossed.l0 k1 (wrap64 (x5_1 + 1)) l0 (l0.length : Int) (wrap64 (x10_1 + 1)) a1_0 a1_1) else (impl_crossed.l0 k1 x5_1 l0 (l0.length : Int) (wrap64 (x10_1 + 1)) a1_0 a1_1)) = some r := H
      have A7 := Aside0.mk A70
      clear A70
      by_cases c8 : t230 = true
      ·subst c8
       have H1 : (impl_crossed.l0 k1 (wrap64 (x5_1 + 1)) l0 (l0.length : Int) (wrap64 (x10_1 + 1)) a1_0 a1_1) = some r := by rw [if_pos rfl] at H; exact H
       clear H
       have H := H1
       clear H1
       have H' := Aside0.mk H
       clear H
       have p228 : 0 ≤ (x10_1 : Int) := of_decide_eq_true (by assumption)
       have q228 : x10_1 < (l0.length : Int) := of_decide_eq_true (by assumption)
       obtain ⟨ad228, e228, hx228_0, hx228_1⟩ := at_T47 HR0.out x10_1 p228 q228
       cases e228
       replace hx228_0 := (HB.out.cell (World.block_lt_of_cell? w _ hx228_0)).trans hx228_0
       replace hx228_1 := (HB.out.cell (World.block_lt_of_cell? w _ hx228_1)).trans hx228_1
       replace p228 := eq_true p228
       replace q228 := eq_true q228
       go_wp2_with (first | ((with_reducible refine gate_dst (N := 7) rfl ?_); refine box_event ?hg (N := 7) ?hd (cs := #[.int .i64 0, .int .i64 0]) (t := 47) ?hr ?_; (case hd => rfl); (case hg => rfl); (case hr => first | (go_simp; done) | (go_simp; rfl)); intro gb229 hg w9 hbox hb; have n0_ := Aside0.mk (blk_below (g := gb227) (o := .cells #[.int .i64 a1_0, .int .i64 a1_1] 47 (0, 0)) (kx_ BK227.out) hb); have n1_ := Aside0.mk (below_step (hs_ GE227.out) hb); have n2_ := Aside0.mk (hbox); have n3_ := Aside0.mk ((by rw [hg]; exact (below_size (hs_ GE227.out)) : w.heap.size ≤ gb229)); have n4_ := Aside0.mk ((by rw [hg]; exact (below_size (hs_ GE227.out)) : w.heap.size ≤ gb229)); have n5_ := Aside0.mk ((by rw [hg]; exact Nat.ne_of_lt (blk_lt (g := gb227) (o := .cells #[.int .i64 a1_0, .int .i64 a1_1] 47 (0, 0)) (kx_ BK227.out)) : gb227 ≠ gb229)); have n6_ := Aside0.mk ((by rw [hg]; exact Nat.ne_of_gt (blk_lt (g := gb227) (o := .cells #[.int .i64 a1_0, .int .i64 a1_1] 47 (0, 0)) (kx_ BK227.out)) : gb229 ≠ gb227)); clear BK227; clear HB; have BK227 := n0_; have HB := n1_; have BK229 := n2_; have GW229 := n3_; have GE229 := n4_; have NB227_229 := n5_; have NB229_227 := n6_; clear n0_ n1_ n2_ n3_ n4_ n5_ n6_; clear hb hbox hg; have hnb10 := NB229_227.out; have hnc10 := NB227_229.out; have hcz11_0 : w9.cell? ⟨gb229, 0, none⟩ = some (.int .i64 0) := bc_ BK229 0; have hcz11_1 : w9.cell? ⟨gb229, 1, none⟩ = some (.int .i64 0) := bc_ BK229 1; have hfz11_0 := blk_frozen BK229.out 0; have hfz11_1 := blk_frozen BK229.out 1; have hcz12_0 : w9.cell? ⟨gb227, 0, none⟩ = some (.int .i64 a1_0) := bc_ BK227 0; have hcz12_1 : w9.cell? ⟨gb227, 1, none⟩ = some (.int .i64 a1_1) := bc_ BK227 1; have hfz12_0 := blk_frozen BK227.out 0; have hfz12_1 := blk_frozen BK227.out 1) | ((with_reducible refine gate_callee (f := 94) rfl ?_); refine goesL_ (some 16) rfl rfl Try.func94 (by kernel_rfl) rfl #[.agg #[.int .i64 a1_0, .int .i64 a1_1], .agg #[.int .i64 ((rd_T47 l0 x10_1).f0), .int .i64 ((rd_T47 l0 x10_1).f1)]] rfl ar_ ?_; (with_reducible refine (impl_crossing.calls a1_0 a1_1 ((rd_T47 l0 x10_1).f0) ((rd_T47 l0 x10_1).f1) true _ A7.out).mono ?_); rintro e w13 ⟨rfl, hb⟩; refine ⟨_, rfl, ?_⟩; have n0_ := Aside0.mk (blk_below (g := gb227) (o := .cells #[.int .i64 a1_0, .int .i64 a1_1] 47 (0, 0)) (by (with_reducible repeat (first | refine kN ?_ _ | refine kD ?_ | refine kA ?_ _)); refine blk_far ?_ NB227_229.out _; (with_reducible repeat (first | refine kN ?_ _ | refine kD ?_ | refine kA ?_ _)); refine blk_far ?_ NB227_229.out _; (with_reducible repeat (first | refine kN ?_ _ | refine kD ?_ | refine kA ?_ _)); exact BK227.out) hb); have n1_ := Aside0.mk (blk_below (g := gb229) (o := .cells #[.int .i64 ((rd_T47 l0 x10_1).f0), .int .i64 ((rd_T47 l0 x10_1).f1)] 47 (0, 0)) (by (with_reducible repeat (first | refine kN ?_ _ | refine kD ?_ | refine kA ?_ _)); refine blk_put (cs := #[.int .i64 ((rd_T47 l0 x10_1).f0), .int .i64 0]) ?_ 1 _ rfl; (with_reducible repeat (first | refine kN ?_ _ | refine kD ?_ | refine kA ?_ _)); refine blk_put (cs := #[.int .i64 0, .int .i64 0]) ?_ 0 _ rfl; (with_reducible repeat (first | refine kN ?_ _ | refine kD ?_ | refine kA ?_ _)); exact BK229.out) hb); have n2_ := Aside0.mk (below_step (hm_) hb); clear BK227; clear BK229; clear HB; have BK227 := n0_; have BK229 := n1_; have HB := n2_; clear n0_ n1_ n2_; (try clear hb); (try clear hb2); (try clear hk); (try clear hi)))
       go_roundg k1
       case measure => have := HK1.out; omega
       case rel => exact ⟨(wrap64 (x5_1 + 1)), (wrap64 (x10_1 + 1)), (by first | rfl | (simp; done) | (simp [*]; done)), (by first | rfl | (simp; done) | (simp [*]; done)), H', ⟨by have := HK1.out; omega⟩, ⟨by (with_reducible repeat (first | refine kN ?_ _ | refine kD ?_ | refine kA ?_ _)); exact BK227.out⟩, ⟨hm_⟩⟩
      ·replace c8 := Bool.eq_false_iff.mpr c8
       subst c8
       have H1 : (impl_crossed.l0 k1 x5_1 l0 (l0.length : Int) (wrap64 (x10_1 + 1)) a1_0 a1_1) = some r := by rw [if_neg (show ¬ (false = true) by decide)] at H; exact H
       clear H
       have H := H1
       clear H1
       have H' := Aside0.mk H
       clear H
       have p228 : 0 ≤ (x10_1 : Int) := of_decide_eq_true (by assumption)
       have q228 : x10_1 < (l0.length : Int) := of_decide_eq_true (by assumption)
       obtain ⟨ad228, e228, hx228_0, hx228_1⟩ := at_T47 HR0.out x10_1 p228 q228
       cases e228
       replace hx228_0 := (HB.out.cell (World.block_lt_of_cell? w _ hx228_0)).trans hx228_0
       replace hx228_1 := (HB.out.cell (World.block_lt_of_cell? w _ hx228_1)).trans hx228_1
       replace p228 := eq_true p228
       replace q228 := eq_true q228
       go_wp2_with (first | ((with_reducible refine gate_dst (N := 7) rfl ?_); refine box_event ?hg (N := 7) ?hd (cs := #[.int .i64 0, .int .i64 0]) (t := 47) ?hr ?_; (case hd => rfl); (case hg => rfl); (case hr => first | (go_simp; done) | (go_simp; rfl)); intro gb229 hg w14 hbox hb; have n0_ := Aside0.mk (blk_below (g := gb227) (o := .cells #[.int .i64 a1_0, .int .i64 a1_1] 47 (0, 0)) (kx_ BK227.out) hb); have n1_ := Aside0.mk (below_step (hs_ GE227.out) hb); have n2_ := Aside0.mk (hbox); have n3_ := Aside0.mk ((by rw [hg]; exact (below_size (hs_ GE227.out)) : w.heap.size ≤ gb229)); have n4_ := Aside0.mk ((by rw [hg]; exact (below_size (hs_ GE227.out)) : w.heap.size ≤ gb229)); have n5_ := Aside0.mk ((by rw [hg]; exact Nat.ne_of_lt (blk_lt (g := gb227) (o := .cells #[.int .i64 a1_0, .int .i64 a1_1] 47 (0, 0)) (kx_ BK227.out)) : gb227 ≠ gb229)); have n6_ := Aside0.mk ((by rw [hg]; exact Nat.ne_of_gt (blk_lt (g := gb227) (o := .cells #[.int .i64 a1_0, .int .i64 a1_1] 47 (0, 0)) (kx_ BK227.out)) : gb229 ≠ gb227)); clear BK227; clear HB; have BK227 := n0_; have HB := n1_; have BK229 := n2_; have GW229 := n3_; have GE229 := n4_; have NB227_229 := n5_; have NB229_227 := n6_; clear n0_ n1_ n2_ n3_ n4_ n5_ n6_; clear hb hbox hg; have hnb15 := NB229_227.out; have hnc15 := NB227_229.out; have hcz16_0 : w14.cell? ⟨gb229, 0, none⟩ = some (.int .i64 0) := bc_ BK229 0; have hcz16_1 : w14.cell? ⟨gb229, 1, none⟩ = some (.int .i64 0) := bc_ BK229 1; have hfz16_0 := blk_frozen BK229.out 0; have hfz16_1 := blk_frozen BK229.out 1; have hcz17_0 : w14.cell? ⟨gb227, 0, none⟩ = some (.int .i64 a1_0) := bc_ BK227 0; have hcz17_1 : w14.cell? ⟨gb227, 1, none⟩ = some (.int .i64 a1_1) := bc_ BK227 1; have hfz17_0 := blk_frozen BK227.out 0; have hfz17_1 := blk_frozen BK227.out 1) | ((with_reducible refine gate_callee (f := 94) rfl ?_); refine goesL_ (some 16) rfl rfl Try.func94 (by kernel_rfl) rfl #[.agg #[.int .i64 a1_0, .int .i64 a1_1], .agg #[.int .i64 ((rd_T47 l0 x10_1).f0), .int .i64 ((rd_T47 l0 x10_1).f1)]] rfl ar_ ?_; (with_reducible refine (impl_crossing.calls a1_0 a1_1 ((rd_T47 l0 x10_1).f0) ((rd_T47 l0 x10_1).f1) false _ A7.out).mono ?_); rintro e w18 ⟨rfl, hb⟩; refine ⟨_, rfl, ?_⟩; have n0_ := Aside0.mk (blk_below (g := gb227) (o := .cells #[.int .i64 a1_0, .int .i64 a1_1] 47 (0, 0)) (by (with_reducible repeat (first | refine kN ?_ _ | refine kD ?_ | refine kA ?_ _)); refine blk_far ?_ NB227_229.out _; (with_reducible repeat (first | refine kN ?_ _ | refine kD ?_ | refine kA ?_ _)); refine blk_far ?_ NB227_229.out _; (with_reducible repeat (first | refine kN ?_ _ | refine kD ?_ | refine kA ?_ _)); exact BK227.out) hb); have n1_ := Aside0.mk (blk_below (g := gb229) (o := .cells #[.int .i64 ((rd_T47 l0 x10_1).f0), .int .i64 ((rd_T47 l0 x10_1).f1)] 47 (0, 0)) (by (with_reducible repeat (first | refine kN ?_ _ | refine kD ?_ | refine kA ?_ _)); refine blk_put (cs := #[.int .i64 ((rd_T47 l0 x10_1).f0), .int .i64 0]) ?_ 1 _ rfl; (with_reducible repeat (first | refine kN ?_ _ | refine kD ?_ | refine kA ?_ _)); refine blk_put (cs := #[.int .i64 0, .int .i64 0]) ?_ 0 _ rfl; (with_reducible repeat (first | refine kN ?_ _ | refine kD ?_ | refine kA ?_ _)); exact BK229.out) hb); have n2_ := Aside0.mk (below_step (hm_) hb); clear BK227; clear BK229; clear HB; have BK227 := n0_; have BK229 := n1_; have HB := n2_; clear n0_ n1_ n2_; (try clear hb); (try clear hb2); (try clear hk); (try clear hi)))
       go_roundg k1
       case measure => have := HK1.out; omega
       case rel => exact ⟨(x5_1), (wrap64 (x10_1 + 1)), (by first | rfl | (simp; done) | (simp [*]; done)), (by first | rfl | (simp; done) | (simp [*]; done)), H', ⟨by have := HK1.out; omega⟩, ⟨by (with_reducible repeat (first | refine kN ?_ _ | refine kD ?_ | refine kA ?_ _)); exact BK227.out⟩, ⟨hm_⟩⟩
     ·rw [if_neg c6] at H
      exact absurd H (by simp)
    ·rw [if_neg c5] at H
     exact absurd H (by simp)
   ·rw [if_neg c4] at H
    have c4b0 : decide (x10_1 < (l0.length : Int)) = false := decide_eq_false c4
    clear c4
    obtain rfl := oI H
    go_wp2
    go_ret
    exact ⟨by first | rfl | (simp [errW_none, errW_some] <;> rfl) | (simp [*, errW_none, errW_some] <;> rfl), hs_ GE227.out⟩
def impl_crossings.l0 : Nat → List (S47) → Int → List (S47) → Int → Int → Option (Int)
 | 0, _, _, _, _, _ => none
 | k + 1, x0, x3, x6, x7, x8 => if x8 < x7 then (if 0 ≤ x8 then (if x8 < (x6.length : Int) then (if x8 ≤ (x0.length : Int) then ((impl_crossed.f k (x0.take (x8 : Int).toNat) ((rd_T47 x6 x8).f0) ((rd_T47 x6 x8).f1)).bind fun t237 => (impl_crossings.l0 k x0 (wrap64 (x3 + t237)) x6 x7 (wrap64 (x8 + 1)))) else (none)) else (none)) else (none)) else (some x3)
def impl_crossings.f (k : Nat) (l0 : List (S47)) : Option (Int) := impl_crossings.l0 k l0 0 l0 (l0.length : Int) 0
theorem impl_crossings.mono_l : ∀ k, (∀ y0 y1 y2 y3 y4, LeO (impl_crossings.l0 k y0 y1 y2 y3 y4) (impl_crossings.l0 (k + 1) y0 y1 y2 y3 y4))
 | 0 => fun _ _ _ _ _ r h => by simp [impl_crossings.l0] at h
 | k + 1 => by
  have ih0 := impl_crossings.mono_l k
  ·intro y0 y1 y2 y3 y4
   unfold impl_crossings.l0
   repeat' first
   | (with_reducible exact ih0 _ _ _ _ _)
   | (with_reducible exact impl_crossed.mono _ _ _ _)
   | (with_reducible exact LeO.refl _)
   | (with_reducible exact LeO.none _)
   | (with_reducible refine LeO.ite ?_ ?_)
   | (with_reducible refine LeO.bind ?_ (fun _ => ?_))
   | exact ih0 _ _ _ _ _
   | exact impl_crossed.mono _ _ _ _
   | exact LeO.none _
   | refine LeO.ite ?_ ?_
   | refine LeO.bind ?_ (fun _ => ?_)
theorem impl_crossings.mono : ∀ a0 k, LeO (impl_crossings.f k a0) (impl_crossings.f (k + 1) a0) := by
 intro a0 k
 have ih0 := impl_crossings.mono_l k
 unfold impl_crossings.f
 repeat' first
   | (with_reducible exact ih0 _ _ _ _ _)
   | (with_reducible exact impl_crossed.mono _ _ _ _)
   | (with_reducible exact LeO.refl _)
   | (with_reducible exact LeO.none _)
   | (with_reducible refine LeO.ite ?_ ?_)
   | (with_reducible refine LeO.bind ?_ (fun _ => ?_))
   | exact ih0 _ _ _ _ _
   | exact impl_crossed.mono _ _ _ _
   | exact LeO.none _
   | refine LeO.ite ?_ ?_
   | refine LeO.bind ?_ (fun _ => ?_)
def impl_crossings.T5 : Bool × List (List Nat × List Nat) := (true, [([], []), ([], []), ([], []), ([1, 2], [1, 2]), ([], []), ([3, 4], [3, 4]), ([0, 5], [0, 5]), ([6, 5, 0, 1, 2, 3, 4, 5, 6], [0, 6])])
def impl_crossings.B5 : List Nat := [0, 0, 0, 6, 0, 30, 63, 127]
theorem impl_crossings.tab5 : rtab .any (opsOf Try.f62 5) = impl_crossings.T5 := by kernel_rfl
theorem impl_crossings.bits5 : waitsOk impl_crossings.T5.2 impl_crossings.B5 = true := by kernel_rfl
set_option maxHeartbeats 8000000 in
set_option maxRecDepth 100000 in
theorem impl_crossings.calls (k : Nat) (A0 : Option Addr) (c0 : Nat) (l0 : List (S47)) (r : Int) (w : World) (hr0 : Kd.C k47 w A0 l0.length l0) (hc0 : l0.length ≤ c0) (h : impl_crossings.f k l0 = some r) :
  Calls Try.prog 62 #[.slice A0 l0.length c0] w fun e w' => e = .returned (.int .i64 r) ∧ Below w.heap.size w w' := by
 have hu47 := Try.underlying47
 have HR0 := Aside0.mk hr0
 have HC0 := Aside0.mk hc0
 clear hr0 hc0
 have HB := Aside0.mk (Below.refl w.heap.size w)
 have H : (impl_crossings.l0 k l0 0 l0 (l0.length : Int) 0) = some r := h
 clear h
 have H' := Aside0.mk H
 clear H
 go_enter Try.func62, Try.ntmps62
 go_wp2
 go_loopg [3, 8] k (fun kq v3 v8 w' => ∃ (x3_1 : Int) (x8_1 : Int), v3 = .int .i64 x3_1 ∧ v8 = .int .i64 x8_1 ∧ Aside0 (impl_crossings.l0 kq l0 x3_1 l0 (l0.length : Int) x8_1 = some r) ∧ Aside0 (kq ≤ k) ∧ Aside0 (Below w.heap.size w w'))
 case atStart => exact ⟨(0), (0), (by first | rfl | (simp; done) | (simp [*]; done)), (by first | rfl | (simp; done) | (simp [*]; done)), H', ⟨Nat.le_refl _⟩, ⟨hb_⟩⟩
 case round =>
  clear H'
  obtain ⟨x3_1, x8_1, rfl, rfl, HA, HK1, HB⟩ := hrel
  cases gk with
  | zero => exact absurd HA.out (by simp [impl_crossings.l0])
  | succ k1 =>
   have H := HA.out
   clear HA
   simp only [impl_crossings.l0] at H
   by_cases c2 : x8_1 < (l0.length : Int)
   ·rw [if_pos c2] at H
    have c2b0 : decide (x8_1 < (l0.length : Int)) = true := decide_eq_true c2
    clear c2
    by_cases c3 : 0 ≤ x8_1
    ·rw [if_pos c3] at H
     have c3b0 : decide (0 ≤ x8_1) = true := decide_eq_true c3
     clear c3
     by_cases c4 : x8_1 < (l0.length : Int)
     ·rw [if_pos c4] at H
      have c4b0 : decide (x8_1 < (l0.length : Int)) = true := decide_eq_true c4
      clear c4
      have c5b0 := eq_true (of_decide_eq_true (by assumption) : 0 ≤ x8_1)
      by_cases c6 : x8_1 ≤ (l0.length : Int)
      ·rw [if_pos c6] at H
       have c6b0 := eq_true c6
       have c6b1 : decide (x8_1 ≤ (l0.length : Int)) = true := decide_eq_true c6
       clear c6
       obtain ⟨y233, hy233⟩ : ∃ y_ : List (S47), y_ = (l0.take (x8_1 : Int).toNat) := ⟨_, rfl⟩
       replace H : ((impl_crossed.f k1 y233 ((rd_T47 l0 x8_1).f0) ((rd_T47 l0 x8_1).f1)).bind fun t237 => (impl_crossings.l0 k1 l0 (wrap64 (x3_1 + t237)) l0 (l0.length : Int) (wrap64 (x8_1 + 1)))) = some r := by first | (rw [hy233]; with_reducible exact H) | (have H2_ := (Option.bind_some _ _).symm.trans H; rw [hy233]; with_reducible exact H2_) | (have H2_ := (Option.bind_some _ _).symm.trans H; with_reducible exact H2_) | with_reducible exact H | (rw [hy233]; exact H) | exact H
       have Ny233 := Aside0.mk hy233
       clear hy233
       replace H := bI H
       obtain ⟨t237, A70, H⟩ := H
       replace H : (impl_crossings.l0 k1 l0 (wrap64 (x3_1 + t237)) l0 (l0.length : Int) (wrap64 (x8_1 + 1))) = some r := H
       have A7 := Aside0.mk A70
       clear A70
       have H' := Aside0.mk H
       clear H
       have p231 : 0 ≤ (x8_1 : Int) := of_decide_eq_true (by assumption)
       have q231 : x8_1 < (l0.length : Int) := of_decide_eq_true (by assumption)
       obtain ⟨ad231, e231, hx231_0, hx231_1⟩ := at_T47 HR0.out x8_1 p231 q231
       cases e231
       replace hx231_0 := (HB.out.cell (World.block_lt_of_cell? w _ hx231_0)).trans hx231_0
       replace hx231_1 := (HB.out.cell (World.block_lt_of_cell? w _ hx231_1)).trans hx231_1
       replace p231 := eq_true p231
       replace q231 := eq_true q231
       try go_wp2_with (first | ((with_reducible refine gate_dst (N := 5) rfl ?_); refine box_event ?hg (N := 5) ?hd (cs := #[.int .i64 0, .int .i64 0]) (t := 47) ?hr ?_; (case hd => rfl); (case hg => rfl); (case hr => first | (go_simp; done) | (go_simp; rfl)); intro gb232 hg w8 hbox hb; have n0_ := Aside0.mk (below_step hb_ hb); have n1_ := Aside0.mk (hbox); have n2_ := Aside0.mk ((by rw [hg]; exact (below_size hb_) : w.heap.size ≤ gb232)); have n3_ := Aside0.mk ((by rw [hg]; exact (below_size hb_) : w.heap.size ≤ gb232)); clear HB; have HB := n0_; have BK232 := n1_; have GW232 := n2_; have GE232 := n3_; clear n0_ n1_ n2_ n3_; clear hb hbox hg; have hcz9_0 : w8.cell? ⟨gb232, 0, none⟩ = some (.int .i64 0) := bc_ BK232 0; have hcz9_1 : w8.cell? ⟨gb232, 1, none⟩ = some (.int .i64 0) := bc_ BK232 1; have hfz9_0 := blk_frozen BK232.out 0; have hfz9_1 := blk_frozen BK232.out 1))
       have n0_ : Aside0 (((w8.setCell ⟨gb232, 0, none⟩ (.int .i64 ((rd_T47 l0 x8_1).f0))).setCell ⟨gb232, 1, none⟩ (.int .i64 ((rd_T47 l0 x8_1).f1))).heap[gb232]? = some (.cells #[.int .i64 ((rd_T47 l0 x8_1).f0), .int .i64 ((rd_T47 l0 x8_1).f1)] 47 (0, 0))) := ⟨by (with_reducible repeat (first | refine kN ?_ _ | refine kD ?_ | refine kA ?_ _)); refine blk_put (cs := #[.int .i64 ((rd_T47 l0 x8_1).f0), .int .i64 0]) ?_ 1 _ rfl; (with_reducible repeat (first | refine kN ?_ _ | refine kD ?_ | refine kA ?_ _)); refine blk_put (cs := #[.int .i64 0, .int .i64 0]) ?_ 0 _ rfl; (with_reducible repeat (first | refine kN ?_ _ | refine kD ?_ | refine kA ?_ _)); exact BK232.out⟩
       have n1_ : Aside0 (Below w.heap.size w ((w8.setCell ⟨gb232, 0, none⟩ (.int .i64 ((rd_T47 l0 x8_1).f0))).setCell ⟨gb232, 1, none⟩ (.int .i64 ((rd_T47 l0 x8_1).f1)))) := ⟨hs_ GE232.out⟩
       (try clear BK232)
       (try clear HB)
       generalize ((w8.setCell ⟨gb232, 0, none⟩ (.int .i64 ((rd_T47 l0 x8_1).f0))).setCell ⟨gb232, 1, none⟩ (.int .i64 ((rd_T47 l0 x8_1).f1))) = w10 at n0_ n1_ ⊢
       have BK232 := n0_
       have HB := n1_
       clear n0_ n1_
       have n0_ := Aside0.mk (blk_drew BK232.out)
       have n1_ := Aside0.mk (below_drew1 HB.out)
       clear BK232
       clear HB
       have BK232 := n0_
       have HB := n1_
       clear n0_ n1_
       have q12 : (x8_1 : Int) ≤ ((l0.length : Int) : Int) := of_decide_eq_true (by assumption)
       obtain ⟨i012, hi012, _, hsz12, _⟩ := info_parts info47
       have hroom12 : l0.length ≤ c0 := HC0.out
       have hC12 : Kd.C k47 _ (some ad231) l0.length l0 := HR0.out
       have hcut12 := cut_to (P := Try.prog) 27 47 .i64 Try.underlying27 hi012 (some ad231) l0.length c0 x8_1 (of_decide_eq_true (by assumption)) q12 hroom12
       have hr12 := Kd.C_take (m := (x8_1 : Int).toNat) hC12 (by omega)
       have hy12 : y233.length = (x8_1 : Int).toNat := (by rw [Ny233.out, List.length_take]; omega)
       rw [← Ny233.out] at hr12
       rw [← hy12] at hcut12
       have HR236 := Aside0.mk hr12
       have HC236 := Aside0.mk (show y233.length ≤ c0 from by omega)
       clear hr12 hC12 hroom12 hi012 hsz12
       have KY12 := Aside0.mk hy12
       clear hy12
       replace q12 := eq_true q12
       refine start_ (n := 8) (S := fun w' => w'.cell? ⟨gb232, 0, none⟩ = some (.int .i64 ((rd_T47 l0 x8_1).f0)) ∧ w'.cell? ⟨gb232, 1, none⟩ = some (.int .i64 ((rd_T47 l0 x8_1).f1))) (ds := []) #[false, false, false, false, false, false, false, false] (by kernel_rfl) rfl rfl ⟨bc_ BK232 0, bc_ BK232 1⟩ (fun hHeld => ?_); refine with_tabW impl_crossings.tab5 impl_crossings.bits5 (fun HT_ HW_ => ?_)
       generalize w10.drew = w11 at BK232 HB HR236 hHeld ⊢
       refine pure_ (i := 0) (N := some 13) (v := ?_) (a' := ?_) #[true, false, false, false, false, false, false, false] rfl rfl (any_of HT_.out (by kernel_rfl)) (fun _ _ _ h => h) (Or.inl ⟨by rfl, ?_⟩) ?_ ?_
       rotate_left
       ·intro w'
        go_simp
        with_reducible rfl
       rotate_left
       ·simp only [Act.put, sT, sZ, sS, i64_w, i32_w]
        rfl
       refine pure_ (i := 1) (N := some 14) (v := ?_) (a' := ?_) #[true, true, false, false, false, false, false, false] rfl rfl (any_of HT_.out (by kernel_rfl)) (fun _ _ _ h => h) (Or.inl ⟨by rfl, ?_⟩) ?_ ?_
       rotate_left
       ·intro w'
        go_simp
        with_reducible rfl
       rotate_left
       ·simp only [Act.put, sT, sZ, sS, i64_w, i32_w]
        rfl
       refine pure_ (i := 2) (N := some 15) (v := ?_) (a' := ?_) #[true, true, true, false, false, false, false, false] rfl rfl (any_of HT_.out (by kernel_rfl)) (fun _ _ _ h => h) (Or.inl ⟨by rfl, ?_⟩) ?_ ?_
       rotate_left
       ·intro w'
        go_simp
        with_reducible rfl
       rotate_left
       ·simp only [Act.put, sT, sZ, sS, i64_w, i32_w]
        rfl
       refine pure_ (i := 3) (N := some 16) (v := ?_) (a' := ?_) #[true, true, true, true, false, false, false, false] rfl rfl (any_of HT_.out (by kernel_rfl)) (fun _ _ _ h => h) (Or.inl ⟨by rfl, ?_⟩) ?_ ?_
       rotate_left
       ·intro w'
        go_simp
        with_reducible rfl
       rotate_left
       ·simp only [Act.put, sT, sZ, sS, i64_w, i32_w]
        rfl
       refine take_ (i := 4) (N := some 17) (v := ?_) (a' := ?_) #[true, true, true, true, true, false, false, false] rfl rfl (take_ofW HT_.out HW_.out (by kernel_rfl)) (fun _ _ _ h => h) (Or.inl ⟨by rfl, ?_⟩) hHeld ?_ ?_
       rotate_left
       ·rintro w' ⟨s0, s1⟩
        go_simp
        with_reducible rfl
       rotate_left
       ·simp only [Act.put, sT, sZ, sS, i64_w, i32_w]
        rfl
       refine one_ (i := 5) (N := some 18) #[true, true, true, true, true, true, false, false] rfl rfl (one_of HT_.out (by kernel_rfl)) (by decide) (fun K hK => ?_)
       refine goes_ Try.func83 (by kernel_rfl) rfl #[.slice (some ad231) y233.length c0, .agg #[.int .i64 ((rd_T47 l0 x8_1).f0), .int .i64 ((rd_T47 l0 x8_1).f1)]] (by rfl) rfl rfl ar_ ?_
       with_reducible refine (impl_crossed.calls k1 _ _ y233 ((rd_T47 l0 x8_1).f0) ((rd_T47 l0 x8_1).f1) t237 _ ?side1 ?side2 A7.out).mono ?_
       (case side1 => repeat (first | exact (Kd.C_below HR236.out HB.out) | (with_reducible refine Kd.C_alloc ?_ _) | (with_reducible refine Kd.C_drewN ?_ _) | (with_reducible refine Kd.C_drew ?_)))
       (case side2 => exact HC236.out)
       rintro e w13 ⟨rfl, hb⟩
       refine ⟨_, rfl, ?_⟩
       have n0_ := Aside0.mk (blk_below (g := gb232) (o := .cells #[.int .i64 ((rd_T47 l0 x8_1).f0), .int .i64 ((rd_T47 l0 x8_1).f1)] 47 (0, 0)) (kx_ BK232.out) hb)
       have n1_ := Aside0.mk (below_step (hs_ GE232.out) hb)
       clear BK232
       clear HB
       have BK232 := n0_
       have HB := n1_
       clear n0_ n1_
       (try clear hb)
       (try clear hb2)
       (try clear hk)
       (try clear hi)
       refine hK.out _ _ ⟨bc_ BK232 0, bc_ BK232 1⟩ (fun hHeld => ?_)
       clear hK K
       refine norm_ (a' := ?_) ?_ ?_
       rotate_left
       ·show Act.put _ (some 18) _ = _
        simp only [Act.put, sT, sZ, sS, i64_w, i32_w]
        rfl
       refine pure_ (i := 6) (N := some 19) (v := ?_) (a' := ?_) #[true, true, true, true, true, true, true, false] rfl rfl (any_of HT_.out (by kernel_rfl)) (fun _ _ _ h => h) (Or.inl ⟨by rfl, ?_⟩) ?_ ?_
       rotate_left
       ·intro w'
        go_simp
        with_reducible rfl
       rotate_left
       ·simp only [Act.put, sT, sZ, sS, i64_w, i32_w]
        rfl
       refine pure_ (i := 7) (N := some 3) (v := ?_) (a' := ?_) #[true, true, true, true, true, true, true, true] rfl rfl (any_of HT_.out (by kernel_rfl)) (fun _ _ _ h => h) (Or.inl ⟨by rfl, ?_⟩) ?_ ?_
       rotate_left
       ·intro w'
        go_simp
        with_reducible rfl
       rotate_left
       ·simp only [Act.put, sT, sZ, sS, i64_w, i32_w]
        rfl
       refine done_ (done_of HT_.out (by kernel_rfl)) ?_
       try go_wp2
       go_roundg k1
       case measure => have := HK1.out; omega
       case rel => exact ⟨(wrap64 (x3_1 + t237)), (wrap64 (x8_1 + 1)), (by first | rfl | (simp; done) | (simp [*]; done)), (by first | rfl | (simp; done) | (simp [*]; done)), H', ⟨by have := HK1.out; omega⟩, ⟨hs_ GE232.out⟩⟩
      ·rw [if_neg c6] at H
       exact absurd H (by simp)
     ·rw [if_neg c4] at H
      exact absurd H (by simp)
    ·rw [if_neg c3] at H
     exact absurd H (by simp)
   ·rw [if_neg c2] at H
    have c2b0 : decide (x8_1 < (l0.length : Int)) = false := decide_eq_false c2
    clear c2
    obtain rfl := oI H
    go_wp2
    go_ret
    exact ⟨by first | rfl | (simp [errW_none, errW_some] <;> rfl) | (simp [*, errW_none, errW_some] <;> rfl), hb_⟩
def impl_isDiagonal.f (a0 : Int) (a1_0 : Int) (a1_1 : Int) : Option (Bool) := if (wrap64 (a1_1 - a1_0)) > 1 then (some (decide ((wrap64 (a1_1 - a1_0)) < (wrap64 (a0 - 1))))) else (some false)
set_option maxHeartbeats 8000000 in
set_option maxRecDepth 100000 in
theorem impl_isDiagonal.calls (a0 : Int) (a1_0 : Int) (a1_1 : Int) (r : Bool) (w : World) (h : impl_isDiagonal.f a0 a1_0 a1_1 = some r) :
  Calls Try.prog 50 #[.int .i64 a0, .agg #[.int .i64 a1_0, .int .i64 a1_1]] w fun e w' => e = .returned (.bool r) ∧ Below w.heap.size w w' := by
 have hu47 := Try.underlying47
 have HB := Aside0.mk (Below.refl w.heap.size w)
 have H : (if (wrap64 (a1_1 - a1_0)) > 1 then (some (decide ((wrap64 (a1_1 - a1_0)) < (wrap64 (a0 - 1))))) else (some false)) = some r := h
 clear h
 by_cases c3 : (wrap64 (a1_1 - a1_0)) > 1
 ·rw [if_pos c3] at H
  have c3b0 : decide (1 < (wrap64 (a1_1 - a1_0))) = true := decide_eq_true c3
  clear c3
  obtain rfl := oI H
  go_enter Try.func50, Try.ntmps50
  go_wp2_with (first | ((with_reducible refine gate_dst (N := 3) rfl ?_); refine box_event ?hg (N := 3) ?hd (cs := #[.int .i64 a1_0, .int .i64 a1_1]) (t := 47) ?hr ?_; (case hd => rfl); (case hg => rfl); (case hr => first | (go_simp; done) | (go_simp; rfl)); intro gb158 hg w4 hbox hb; have n0_ := Aside0.mk (below_step hb_ hb); have n1_ := Aside0.mk (hbox); have n2_ := Aside0.mk ((by rw [hg]; exact (below_size hb_) : w.heap.size ≤ gb158)); have n3_ := Aside0.mk ((by rw [hg]; exact (below_size hb_) : w.heap.size ≤ gb158)); clear HB; have HB := n0_; have BK158 := n1_; have GW158 := n2_; have GE158 := n3_; clear n0_ n1_ n2_ n3_; clear hb hbox hg; have hcz5_0 : w4.cell? ⟨gb158, 0, none⟩ = some (.int .i64 a1_0) := bc_ BK158 0; have hcz5_1 : w4.cell? ⟨gb158, 1, none⟩ = some (.int .i64 a1_1) := bc_ BK158 1; have hfz5_0 := blk_frozen BK158.out 0; have hfz5_1 := blk_frozen BK158.out 1))
  go_ret
  exact ⟨by first | rfl | (simp [errW_none, errW_some] <;> rfl) | (simp [*, errW_none, errW_some] <;> rfl), hs_ GE158.out⟩
 ·rw [if_neg c3] at H
  have c3b0 : decide (1 < (wrap64 (a1_1 - a1_0))) = false := decide_eq_false c3
  clear c3
  obtain rfl := oI H
  go_enter Try.func50, Try.ntmps50
  go_wp2_with (first | ((with_reducible refine gate_dst (N := 3) rfl ?_); refine box_event ?hg (N := 3) ?hd (cs := #[.int .i64 a1_0, .int .i64 a1_1]) (t := 47) ?hr ?_; (case hd => rfl); (case hg => rfl); (case hr => first | (go_simp; done) | (go_simp; rfl)); intro gb158 hg w6 hbox hb; have n0_ := Aside0.mk (below_step hb_ hb); have n1_ := Aside0.mk (hbox); have n2_ := Aside0.mk ((by rw [hg]; exact (below_size hb_) : w.heap.size ≤ gb158)); have n3_ := Aside0.mk ((by rw [hg]; exact (below_size hb_) : w.heap.size ≤ gb158)); clear HB; have HB := n0_; have BK158 := n1_; have GW158 := n2_; have GE158 := n3_; clear n0_ n1_ n2_ n3_; clear hb hbox hg; have hcz7_0 : w6.cell? ⟨gb158, 0, none⟩ = some (.int .i64 a1_0) := bc_ BK158 0; have hcz7_1 : w6.cell? ⟨gb158, 1, none⟩ = some (.int .i64 a1_1) := bc_ BK158 1; have hfz7_0 := blk_frozen BK158.out 0; have hfz7_1 := blk_frozen BK158.out 1))
  go_ret
  exact ⟨by first | rfl | (simp [errW_none, errW_some] <;> rfl) | (simp [*, errW_none, errW_some] <;> rfl), hs_ GE158.out⟩
end Go.Proofs.Ytdeenfpcmaadcaa.Pr
/- Diagonals: the program's test and the reference's. -/
namespace Go.Proofs.Ytdeenfpcmaadcaa.Pr
open Go.RowKit Go.Proofs.YtdeenfpcmaadcaaW.PrintWords Go.Proofs.YtdeenfpcmaadcaaW.PrintLast Go.Proofs.YtdeenfpcmaadcaaW.PrintMore
def diagR (p : Int) (c : S47) : Bool := decide (wrap64 (c.f1 - c.f0) > 1 ∧ wrap64 (c.f1 - c.f0) < wrap64 (p - 1))
theorem isDiagonal_eq (p : Int) (c : S47) : impl_isDiagonal.f p c.f0 c.f1 = some (diagR p c) := by
  unfold impl_isDiagonal.f diagR
  by_cases h : wrap64 (c.f1 - c.f0) > 1
  · rw [if_pos h]; congr 1; rw [Bool.eq_iff_iff]; simp [h]
  · rw [if_neg h]; congr 1; rw [Bool.eq_iff_iff]; simp [h]
end Go.Proofs.Ytdeenfpcmaadcaa.Pr
namespace Go.Proofs.Ytdeenfpcmaadcaa.M
open Go.RowKit Go.Proofs.YtdeenfpcmaadcaaW.PrintWords Go.Proofs.Ytdeenfpcmaadcaa.Pr
def dgB (p : Int) (c : Ch) : Bool := decide (1 < c.f1 - c.f0 ∧ c.f1 - c.f0 < p - 1)
theorem diagR_eq (p : Int) (c : Ch) (h : 0 ≤ c.f0 ∧ c.f0 < c.f1 ∧ c.f1 < p) (hp : p ≤ 60) : diagR p c = dgB p c := by
  unfold diagR dgB
  rw [w64 (x := c.f1 - c.f0) (by omega) (by omega), w64 (x := p - 1) (by omega) (by omega)]
theorem reDiagonal_eq (p : Int) (c : Ch) (h : 0 ≤ c.f0 ∧ c.f0 < c.f1 ∧ c.f1 < p) (hp : p ≤ 60) : spec_reDiagonal.f p c.f0 c.f1 = some (dgB p c) := by
  unfold spec_reDiagonal.f spec_cdLength.f spec_l1Least.f dgB
  rw [w64 (x := c.f1 - c.f0) (by omega) (by omega), w64 (x := p - c.f1) (by omega) (by omega), w64 (x := p - c.f1 + c.f0) (by omega) (by omega)]
  by_cases h1 : c.f1 - c.f0 < p - c.f1 + c.f0
  · rw [if_pos h1]
    simp only [Option.bind_some]
    congr 1
    rw [decide_eq_decide]
    omega
  · rw [if_neg h1]
    simp only [Option.bind_some]
    congr 1
    rw [decide_eq_decide]
    omega
end Go.Proofs.Ytdeenfpcmaadcaa.M
/- What the program's leavesTriangles and EarsOf compute. -/
namespace Go.Proofs.Ytdeenfpcmaadcaa.Pr
open Go.RowKit Go.Proofs.YtdeenfpcmaadcaaW.PrintWords Go.Proofs.YtdeenfpcmaadcaaW.PrintLast Go.Proofs.YtdeenfpcmaadcaaW.PrintMore
def impl_leavesTriangles.f (k : Nat) (a0 : Int) (l1 : List S47) : Option Bool :=
  (impl_isSet.f k a0 l1).bind fun t => if t = true then (if (l1.length : Int) = wrap64 (a0 - 3) then ((impl_crossings.f k l1).bind fun n => if n = 0 then some (!(l1.any fun c => !(diagR a0 c))) else some false) else some false) else some false
theorem impl_leavesTriangles.mono : ∀ a0 a1 k, LeO (impl_leavesTriangles.f k a0 a1) (impl_leavesTriangles.f (k + 1) a0 a1) := by
  intro a0 a1 k
  unfold impl_leavesTriangles.f
  exact LeO.bind (impl_isSet.mono _ _ _) (fun _ => LeO.ite (LeO.ite (LeO.bind (impl_crossings.mono _ _) (fun _ => LeO.refl _)) (LeO.refl _)) (LeO.refl _))
set_option maxHeartbeats 2000000 in
theorem leaves_pred (a0 : Int) (B : Nat) (zs : List S47) (w : World) (hB : B < w.heap.size) (hcell : w.cell? ⟨B, 0, none⟩ = some (.int .i64 a0)) :
    PredB 74 #[.pointer (some ⟨B, 0, none⟩)] encCh (fun c => !(diagR a0 c)) zs w := fun W x _ hb => by
  have hc : W.cell? ⟨B, 0, none⟩ = some (.int .i64 a0) := (hb.cell (p := ⟨B, 0, none⟩) hB).trans hcell
  have hBW : B < W.heap.size := Nat.lt_of_lt_of_le hB hb.size
  have hne : B ≠ W.heap.size := by omega
  have hw := isDiagonal_eq a0 x
  show Calls Try.prog 74 #[.agg #[.int .i64 x.f0, .int .i64 x.f1], .pointer (some ⟨B, 0, none⟩)] W fun e w' => e = .returned (.bool (!(diagR a0 x))) ∧ Below W.heap.size W w'
  generalize diagR a0 x = r at hw ⊢
  have HW := Aside0.mk hw
  clear hw hcell hb
  go_enter Try.func74, Try.ntmps74
  go_wp2_with (go_at_call 50; refine (impl_isDiagonal.calls a0 x.f0 x.f1 r _ HW.out).mono ?_; rintro e w' ⟨rfl, hd⟩)
  go_ret
  exact ⟨by simp, by first | exact (below_alloc (Below.refl _ _) _).trans (hd.mono (by simp)) | exact (below_alloc (Below.refl _ _) _).trans (hd.below.mono (by simp))⟩
set_option maxHeartbeats 4000000 in
theorem impl_leavesTriangles.calls (k : Nat) (a0 : Int) (A1 : Option Addr) (c1 : Nat) (l1 : List S47) (r : Bool) (w : World) (hr1 : Kd.C k47 w A1 l1.length l1) (hc1 : l1.length ≤ c1) (h : impl_leavesTriangles.f k a0 l1 = some r) :
    Calls Try.prog 47 #[.int .i64 a0, .slice A1 l1.length c1] w fun e w' => e = .returned (.bool r) ∧ Below w.heap.size w w' := by
  obtain ⟨t, ht, h⟩ := bI h
  have hb0 : Below w.heap.size w (w.alloc (.cells #[.int .i64 a0] 3)) := below_alloc (Below.refl _ _) _
  have hs0 : w.heap.size < (w.alloc (.cells #[.int .i64 a0] 3)).heap.size := by simp
  have hx0 : (w.alloc (.cells #[.int .i64 a0] 3)).cell? ⟨w.heap.size, 0, none⟩ = some (.int .i64 a0) := by simp
  have hcall := Aside0.mk (impl_isSet.calls k a0 A1 c1 l1 t (w.alloc (.cells #[.int .i64 a0] 3)) (Kd.C_below hr1 hb0) hc1 ht)
  have eg : ∀ args w, (callFunc 74 args).run Try.prog w = .ok (.enter 74 args) w := enters_of Try.func74 (by kernel_rfl) rfl
  have HR := Aside0.mk (Kd.C_below hr1 hb0)
  have HC := Aside0.mk hc1
  have HX0 := Aside0.mk hx0
  have HB0 := Aside0.mk hb0
  have hlen : l1.length ≤ 9223372036854775807 := hr1.2.1
  have hC := Aside0.mk (fun (W : World) (hb : Below (w.alloc (.cells #[.int .i64 a0] 3)).heap.size (w.alloc (.cells #[.int .i64 a0] 3)) W) =>
    containsFunc_chord A1 c1 l1 (fun c => !(diagR a0 c)) 74 #[.pointer (some ⟨w.heap.size, 0, none⟩)] eg W (Kd.C_below HR.out hb) hc1
      (leaves_pred a0 w.heap.size l1 W (Nat.lt_of_lt_of_le hs0 hb.size) ((hb.cell (p := ⟨w.heap.size, 0, none⟩) hs0).trans HX0.out)))
  generalize (l1.any fun c => !(diagR a0 c)) = b at hC h
  clear hb0 hr1 hc1 ht eg hx0
  cases t with
  | false =>
    rw [if_neg (by simp)] at h
    obtain rfl := oI h
    clear h
    go_enter Try.func47, Try.ntmps47
    go_wp2_with (go_at_call 61; refine hcall.out.mono ?_; rintro e w' ⟨rfl, hb⟩)
    go_ret
    exact ⟨by simp, HB0.out.trans (hb.mono (by simp))⟩
  | true =>
    rw [if_pos rfl] at h
    by_cases hq : (l1.length : Int) = wrap64 (a0 - 3)
    · rw [if_pos hq] at h
      have hqb : ((l1.length : Int) == wrap64 (a0 - 3)) = true := beq_iff_eq.mpr hq
      clear hq
      obtain ⟨n, hn, h⟩ := bI h
      have hN := Aside0.mk (fun (W : World) (hb : Below (w.alloc (.cells #[.int .i64 a0] 3)).heap.size (w.alloc (.cells #[.int .i64 a0] 3)) W) => impl_crossings.calls k A1 c1 l1 n W (Kd.C_below HR.out hb) HC.out hn)
      clear hn
      by_cases h0 : n = 0
      · rw [if_pos h0] at h
        obtain rfl := oI h
        subst h0
        clear h
        go_enter Try.func47, Try.ntmps47
        go_wp2_with (first | (go_at_call 61; refine hcall.out.mono ?_; rintro e w' ⟨rfl, hb⟩; have hx1 := (hb.cell (p := ⟨w.heap.size, 0, none⟩) hs0).trans HX0.out; have HBa := Aside0.mk hb; clear hb) | (go_at_call 62; refine (hN.out _ HBa.out).mono ?_; rintro e w' ⟨rfl, hb⟩; have HBb := Aside0.mk (HBa.out.trans (hb.mono HBa.out.size)); clear hb) | (go_at_call 73; refine (hC.out _ HBb.out).mono ?_; rintro e w' ⟨rfl, hb⟩; have HBc := Aside0.mk (HBb.out.trans (hb.mono HBb.out.size)); clear hb))
        go_ret
        exact ⟨by simp, HB0.out.trans (HBc.out.mono (by simp))⟩
      · rw [if_neg h0] at h
        obtain rfl := oI h
        have h0b : (n == 0) = false := beq_eq_false_iff_ne.mpr h0
        clear h h0
        go_enter Try.func47, Try.ntmps47
        go_wp2_with (first | (go_at_call 61; refine hcall.out.mono ?_; rintro e w' ⟨rfl, hb⟩; have hx1 := (hb.cell (p := ⟨w.heap.size, 0, none⟩) hs0).trans HX0.out; have HBa := Aside0.mk hb; clear hb) | (go_at_call 62; refine (hN.out _ HBa.out).mono ?_; rintro e w' ⟨rfl, hb⟩; have HBb := Aside0.mk (HBa.out.trans (hb.mono HBa.out.size)); clear hb))
        go_ret
        exact ⟨by simp, HB0.out.trans (HBb.out.mono (by simp))⟩
    · rw [if_neg hq] at h
      obtain rfl := oI h
      have hqb : ((l1.length : Int) == wrap64 (a0 - 3)) = false := beq_eq_false_iff_ne.mpr hq
      clear hq h
      go_enter Try.func47, Try.ntmps47
      go_wp2_with (go_at_call 61; refine hcall.out.mono ?_; rintro e w' ⟨rfl, hb⟩; have hx1 := (hb.cell (p := ⟨w.heap.size, 0, none⟩) hs0).trans HX0.out; have HBa := Aside0.mk hb; clear hb)
      go_ret
      exact ⟨by simp, HB0.out.trans (HBa.out.mono (by simp))⟩
end Go.Proofs.Ytdeenfpcmaadcaa.Pr
namespace Go.Proofs.Ytdeenfpcmaadcaa.Pr
open Go.RowKit Go.Proofs.YtdeenfpcmaadcaaW.PrintWords Go.Proofs.YtdeenfpcmaadcaaW.PrintLast Go.Proofs.YtdeenfpcmaadcaaW.PrintMore
attribute [local go_sem] max2_int min2_int max_two min_two max_three min_three max_four min_four
attribute [local go_sem high] eqA47
def impl_Chord_75.l0 : Nat → List (S47) → Int → Int → Int → Int → Option (Int)
 | 0, _, _, _, _, _ => none
 | k + 1, x0, x7, x8, x154000, x154001 => if x8 < x7 then (if 0 ≤ x8 then (if x8 < (x0.length : Int) then (if (x154000 == ((rd_T47 x0 x8).f0) && (x154001 == ((rd_T47 x0 x8).f1))) = true then (some x8) else (impl_Chord_75.l0 k x0 x7 (wrap64 (x8 + 1)) x154000 x154001)) else (none)) else (none)) else (some (-1))
def impl_Chord_75.f (k : Nat) (l0 : List (S47)) (a1_0 : Int) (a1_1 : Int) : Option (Int) := impl_Chord_75.l0 k l0 (l0.length : Int) 0 a1_0 a1_1
theorem impl_Chord_75.mono_l : ∀ k, (∀ y0 y1 y2 y3 y4, LeO (impl_Chord_75.l0 k y0 y1 y2 y3 y4) (impl_Chord_75.l0 (k + 1) y0 y1 y2 y3 y4))
 | 0 => fun _ _ _ _ _ r h => by simp [impl_Chord_75.l0] at h
 | k + 1 => by
  have ih0 := impl_Chord_75.mono_l k
  ·intro y0 y1 y2 y3 y4
   unfold impl_Chord_75.l0
   repeat' first
   | (with_reducible exact ih0 _ _ _ _ _)
   | (with_reducible exact LeO.refl _)
   | (with_reducible exact LeO.none _)
   | (with_reducible refine LeO.ite ?_ ?_)
   | (with_reducible refine LeO.bind ?_ (fun _ => ?_))
   | exact ih0 _ _ _ _ _
   | exact LeO.none _
   | refine LeO.ite ?_ ?_
   | refine LeO.bind ?_ (fun _ => ?_)
theorem impl_Chord_75.mono : ∀ a0 a1 a2 k, LeO (impl_Chord_75.f k a0 a1 a2) (impl_Chord_75.f (k + 1) a0 a1 a2) := by
 intro a0 a1 a2 k
 have ih0 := impl_Chord_75.mono_l k
 unfold impl_Chord_75.f
 repeat' first
   | (with_reducible exact ih0 _ _ _ _ _)
   | (with_reducible exact LeO.refl _)
   | (with_reducible exact LeO.none _)
   | (with_reducible refine LeO.ite ?_ ?_)
   | (with_reducible refine LeO.bind ?_ (fun _ => ?_))
   | exact ih0 _ _ _ _ _
   | exact LeO.none _
   | refine LeO.ite ?_ ?_
   | refine LeO.bind ?_ (fun _ => ?_)
set_option maxHeartbeats 8000000 in
set_option maxRecDepth 100000 in
theorem impl_Chord_75.calls (k : Nat) (A0 : Option Addr) (c0 : Nat) (l0 : List (S47)) (a1_0 : Int) (a1_1 : Int) (r : Int) (w : World) (hr0 : Kd.C k47 w A0 l0.length l0) (hc0 : l0.length ≤ c0) (h : impl_Chord_75.f k l0 a1_0 a1_1 = some r) :
  Calls Try.prog 75 #[.slice A0 l0.length c0, .agg #[.int .i64 a1_0, .int .i64 a1_1]] w fun e w' => e = .returned (.int .i64 r) ∧ Below w.heap.size w w' := by
 have hu47 := Try.underlying47
 have HR0 := Aside0.mk hr0
 have HC0 := Aside0.mk hc0
 clear hr0 hc0
 have HB := Aside0.mk (Below.refl w.heap.size w)
 have H : (impl_Chord_75.l0 k l0 (l0.length : Int) 0 a1_0 a1_1) = some r := h
 clear h
 have H' := Aside0.mk H
 clear H
 go_enter Try.func75, Try.ntmps75
 go_wp2_with (first | ((with_reducible refine gate_dst (N := 3) rfl ?_); refine box_event ?hg (N := 3) ?hd (cs := #[.int .i64 a1_0, .int .i64 a1_1]) (t := 47) ?hr ?_; (case hd => rfl); (case hg => rfl); (case hr => first | (go_simp; done) | (go_simp; rfl)); intro gb153 hg w3 hbox hb; have n0_ := Aside0.mk (below_step hb_ hb); have n1_ := Aside0.mk (hbox); have n2_ := Aside0.mk ((by rw [hg]; exact (below_size hb_) : w.heap.size ≤ gb153)); have n3_ := Aside0.mk ((by rw [hg]; exact (below_size hb_) : w.heap.size ≤ gb153)); clear HB; have HB := n0_; have BK153 := n1_; have GW153 := n2_; have GE153 := n3_; clear n0_ n1_ n2_ n3_; clear hb hbox hg))
 repeat (go_quiet (first | ((with_reducible refine gate_dst (N := 3) rfl ?_); refine box_event ?hg (N := 3) ?hd (cs := #[.int .i64 a1_0, .int .i64 a1_1]) (t := 47) ?hr ?_; (case hd => rfl); (case hg => rfl); (case hr => first | (go_simp; done) | (go_simp; rfl)); intro gb153 hg w3 hbox hb; have n0_ := Aside0.mk (below_step hb_ hb); have n1_ := Aside0.mk (hbox); have n2_ := Aside0.mk ((by rw [hg]; exact (below_size hb_) : w.heap.size ≤ gb153)); have n3_ := Aside0.mk ((by rw [hg]; exact (below_size hb_) : w.heap.size ≤ gb153)); clear HB; have HB := n0_; have BK153 := n1_; have GW153 := n2_; have GE153 := n3_; clear n0_ n1_ n2_ n3_; clear hb hbox hg)); try go_wp2_with (first | ((with_reducible refine gate_dst (N := 3) rfl ?_); refine box_event ?hg (N := 3) ?hd (cs := #[.int .i64 a1_0, .int .i64 a1_1]) (t := 47) ?hr ?_; (case hd => rfl); (case hg => rfl); (case hr => first | (go_simp; done) | (go_simp; rfl)); intro gb153 hg w3 hbox hb; have n0_ := Aside0.mk (below_step hb_ hb); have n1_ := Aside0.mk (hbox); have n2_ := Aside0.mk ((by rw [hg]; exact (below_size hb_) : w.heap.size ≤ gb153)); have n3_ := Aside0.mk ((by rw [hg]; exact (below_size hb_) : w.heap.size ≤ gb153)); clear HB; have HB := n0_; have BK153 := n1_; have GW153 := n2_; have GE153 := n3_; clear n0_ n1_ n2_ n3_; clear hb hbox hg)))
 go_loopg [8] k (fun kq v8 w' => ∃ (x8_1 : Int), v8 = .int .i64 x8_1 ∧ Aside0 (impl_Chord_75.l0 kq l0 (l0.length : Int) x8_1 a1_0 a1_1 = some r) ∧ Aside0 (kq ≤ k) ∧ Aside0 (w'.heap[gb153]? = some (.cells #[.int .i64 a1_0, .int .i64 a1_1] 47 (0, 0))) ∧ Aside0 (Below w.heap.size w w'))
 case atStart => exact ⟨(0), (by first | rfl | (simp; done) | (simp [*]; done)), H', ⟨Nat.le_refl _⟩, ⟨by (with_reducible repeat (first | refine kN ?_ _ | refine kD ?_ | refine kA ?_ _)); exact BK153.out⟩, ⟨hs_ GE153.out⟩⟩
 case round =>
  clear H'
  try clear p2
  obtain ⟨x8_1, rfl, HA, HK1, BK153, HB⟩ := hrel
  cases gk with
  | zero => exact absurd HA.out (by simp [impl_Chord_75.l0])
  | succ k1 =>
   have H := HA.out
   clear HA
   simp only [impl_Chord_75.l0] at H
   by_cases c4 : x8_1 < (l0.length : Int)
   ·rw [if_pos c4] at H
    have c4b0 : decide (x8_1 < (l0.length : Int)) = true := decide_eq_true c4
    clear c4
    by_cases c5 : 0 ≤ x8_1
    ·rw [if_pos c5] at H
     have c5b0 : decide (0 ≤ x8_1) = true := decide_eq_true c5
     clear c5
     by_cases c6 : x8_1 < (l0.length : Int)
     ·rw [if_pos c6] at H
      have c6b0 : decide (x8_1 < (l0.length : Int)) = true := decide_eq_true c6
      clear c6
      by_cases c7 : (a1_0 == ((rd_T47 l0 x8_1).f0) && (a1_1 == ((rd_T47 l0 x8_1).f1))) = true
      ·rw [if_pos c7] at H
       have c7b0 : (a1_0 == ((rd_T47 l0 x8_1).f0) && (a1_1 == ((rd_T47 l0 x8_1).f1))) = true := c7
       (try (have c7b1 : decide (a1_0 = ((rd_T47 l0 x8_1).f0) && (a1_1 == ((rd_T47 l0 x8_1).f1))) = true := by simpa using c7))
       (try (have c7b2 : (a1_0 == ((rd_T47 l0 x8_1).f0) && (a1_1 == ((rd_T47 l0 x8_1).f1))) = true := by simpa using c7))
       clear c7
       obtain rfl := oI H
       have hcz8_0 : wr.cell? ⟨gb153, 0, none⟩ = some (.int .i64 a1_0) := bc_ BK153 0
       have hcz8_1 : wr.cell? ⟨gb153, 1, none⟩ = some (.int .i64 a1_1) := bc_ BK153 1
       have hfz8_0 := blk_frozen BK153.out 0
       have hfz8_1 := blk_frozen BK153.out 1
       have p154 : 0 ≤ (x8_1 : Int) := of_decide_eq_true (by assumption)
       have q154 : x8_1 < (l0.length : Int) := of_decide_eq_true (by assumption)
       obtain ⟨ad154, e154, hx154_0, hx154_1⟩ := at_T47 HR0.out x8_1 p154 q154
       cases e154
       replace hx154_0 := (HB.out.cell (World.block_lt_of_cell? w _ hx154_0)).trans hx154_0
       replace hx154_1 := (HB.out.cell (World.block_lt_of_cell? w _ hx154_1)).trans hx154_1
       replace p154 := eq_true p154
       replace q154 := eq_true q154
       go_wp2
       repeat (go_quiet (fail); try go_wp2)
       go_ret
       exact ⟨by first | rfl | (simp [errW_none, errW_some] <;> rfl) | (simp [*, errW_none, errW_some] <;> rfl), hs_ GE153.out⟩
      ·rw [if_neg c7] at H
       have c7b0 : (a1_0 == ((rd_T47 l0 x8_1).f0) && (a1_1 == ((rd_T47 l0 x8_1).f1))) = false := by simpa using c7
       (try (have c7b1 : decide (a1_0 = ((rd_T47 l0 x8_1).f0) && (a1_1 == ((rd_T47 l0 x8_1).f1))) = false := by simpa using c7))
       (try (have c7b2 : (a1_0 == ((rd_T47 l0 x8_1).f0) && (a1_1 == ((rd_T47 l0 x8_1).f1))) = false := by simpa using c7))
       (try (have c7b3 : ¬ (a1_0 = ((rd_T47 l0 x8_1).f0) && (a1_1 == ((rd_T47 l0 x8_1).f1))) := by simpa using c7))
       clear c7
       have H' := Aside0.mk H
       clear H
       have hcz9_0 : wr.cell? ⟨gb153, 0, none⟩ = some (.int .i64 a1_0) := bc_ BK153 0
       have hcz9_1 : wr.cell? ⟨gb153, 1, none⟩ = some (.int .i64 a1_1) := bc_ BK153 1
       have hfz9_0 := blk_frozen BK153.out 0
       have hfz9_1 := blk_frozen BK153.out 1
       have p154 : 0 ≤ (x8_1 : Int) := of_decide_eq_true (by assumption)
       have q154 : x8_1 < (l0.length : Int) := of_decide_eq_true (by assumption)
       obtain ⟨ad154, e154, hx154_0, hx154_1⟩ := at_T47 HR0.out x8_1 p154 q154
       cases e154
       replace hx154_0 := (HB.out.cell (World.block_lt_of_cell? w _ hx154_0)).trans hx154_0
       replace hx154_1 := (HB.out.cell (World.block_lt_of_cell? w _ hx154_1)).trans hx154_1
       replace p154 := eq_true p154
       replace q154 := eq_true q154
       go_wp2
       repeat (go_quiet (fail); try go_wp2)
       go_roundg k1
       case measure => have := HK1.out; omega
       case rel => exact ⟨(wrap64 (x8_1 + 1)), (by first | rfl | (simp; done) | (simp [*]; done)), H', ⟨by have := HK1.out; omega⟩, ⟨by (with_reducible repeat (first | refine kN ?_ _ | refine kD ?_ | refine kA ?_ _)); exact BK153.out⟩, ⟨hs_ GE153.out⟩⟩
     ·rw [if_neg c6] at H
      exact absurd H (by simp)
    ·rw [if_neg c5] at H
     exact absurd H (by simp)
   ·rw [if_neg c4] at H
    have c4b0 : decide (x8_1 < (l0.length : Int)) = false := decide_eq_false c4
    clear c4
    obtain rfl := oI H
    go_wp2
    repeat (go_quiet (fail); try go_wp2)
    go_ret
    exact ⟨by first | rfl | (simp [errW_none, errW_some] <;> rfl) | (simp [*, errW_none, errW_some] <;> rfl), hs_ GE153.out⟩
def impl_Chord_51.f (k : Nat) (l0 : List (S47)) (a1_0 : Int) (a1_1 : Int) : Option (Bool) := (impl_Chord_75.f k l0 a1_0 a1_1).bind fun t156 => (some (decide (t156 ≥ 0)))
theorem impl_Chord_51.mono : ∀ a0 a1 a2 k, LeO (impl_Chord_51.f k a0 a1 a2) (impl_Chord_51.f (k + 1) a0 a1 a2) := by
 intro a0 a1 a2 k
 unfold impl_Chord_51.f
 repeat' first
   | (with_reducible exact impl_Chord_75.mono _ _ _ _)
   | (with_reducible exact LeO.refl _)
   | (with_reducible exact LeO.none _)
   | (with_reducible refine LeO.ite ?_ ?_)
   | (with_reducible refine LeO.bind ?_ (fun _ => ?_))
   | exact impl_Chord_75.mono _ _ _ _
   | exact LeO.none _
   | refine LeO.ite ?_ ?_
   | refine LeO.bind ?_ (fun _ => ?_)
set_option maxHeartbeats 8000000 in
set_option maxRecDepth 100000 in
theorem impl_Chord_51.calls (k : Nat) (A0 : Option Addr) (c0 : Nat) (l0 : List (S47)) (a1_0 : Int) (a1_1 : Int) (r : Bool) (w : World) (hr0 : Kd.C k47 w A0 l0.length l0) (hc0 : l0.length ≤ c0) (h : impl_Chord_51.f k l0 a1_0 a1_1 = some r) :
  Calls Try.prog 51 #[.slice A0 l0.length c0, .agg #[.int .i64 a1_0, .int .i64 a1_1]] w fun e w' => e = .returned (.bool r) ∧ Below w.heap.size w w' := by
 have hu47 := Try.underlying47
 have HR0 := Aside0.mk hr0
 have HC0 := Aside0.mk hc0
 clear hr0 hc0
 have HB := Aside0.mk (Below.refl w.heap.size w)
 have H : ((impl_Chord_75.f k l0 a1_0 a1_1).bind fun t156 => (some (decide (t156 ≥ 0)))) = some r := h
 clear h
 replace H := bI H
 obtain ⟨t156, A30, H⟩ := H
 replace H : (some (decide (t156 ≥ 0))) = some r := H
 have A3 := Aside0.mk A30
 clear A30
 obtain rfl := oI H
 go_enter Try.func51, Try.ntmps51
 go_wp2_with (first | ((with_reducible refine gate_dst (N := 3) rfl ?_); refine box_event ?hg (N := 3) ?hd (cs := #[.int .i64 a1_0, .int .i64 a1_1]) (t := 47) ?hr ?_; (case hd => rfl); (case hg => rfl); (case hr => first | (go_simp; done) | (go_simp; rfl)); intro gb155 hg w4 hbox hb; have n0_ := Aside0.mk (below_step hb_ hb); have n1_ := Aside0.mk (hbox); have n2_ := Aside0.mk ((by rw [hg]; exact (below_size hb_) : w.heap.size ≤ gb155)); have n3_ := Aside0.mk ((by rw [hg]; exact (below_size hb_) : w.heap.size ≤ gb155)); clear HB; have HB := n0_; have BK155 := n1_; have GW155 := n2_; have GE155 := n3_; clear n0_ n1_ n2_ n3_; clear hb hbox hg; have hcz5_0 : w4.cell? ⟨gb155, 0, none⟩ = some (.int .i64 a1_0) := bc_ BK155 0; have hcz5_1 : w4.cell? ⟨gb155, 1, none⟩ = some (.int .i64 a1_1) := bc_ BK155 1; have hfz5_0 := blk_frozen BK155.out 0; have hfz5_1 := blk_frozen BK155.out 1) | ((with_reducible refine gate_callee (f := 75) rfl ?_); refine goesL_ (some 7) rfl rfl Try.func75 (by kernel_rfl) rfl #[.slice A0 l0.length c0, .agg #[.int .i64 a1_0, .int .i64 a1_1]] rfl ar_ ?_; (with_reducible refine (impl_Chord_75.calls k _ _ l0 a1_0 a1_1 t156 _ ?side1 ?side2 A3.out).mono ?_); (case side1 => repeat (first | exact (Kd.C_below HR0.out HB.out) | (with_reducible refine Kd.C_alloc ?_ _) | (with_reducible refine Kd.C_drewN ?_ _) | (with_reducible refine Kd.C_drew ?_))); (case side2 => exact HC0.out); rintro e w6 ⟨rfl, hb⟩; refine ⟨_, rfl, ?_⟩; have n0_ := Aside0.mk (blk_below (g := gb155) (o := .cells #[.int .i64 a1_0, .int .i64 a1_1] 47 (0, 0)) (kx_ BK155.out) hb); have n1_ := Aside0.mk (below_step (hs_ GE155.out) hb); clear BK155; clear HB; have BK155 := n0_; have HB := n1_; clear n0_ n1_; (try clear hb); (try clear hb2); (try clear hk); (try clear hi)))
 go_ret
 exact ⟨by first | rfl | (simp [errW_none, errW_some] <;> rfl) | (simp [*, errW_none, errW_some] <;> rfl), hs_ GE155.out⟩
end Go.Proofs.Ytdeenfpcmaadcaa.Pr
/- Whether a chord is one of a row of chords: the library's Contains, in plain words. -/
namespace Go.Proofs.Ytdeenfpcmaadcaa.M
open Go.RowKit Go.Proofs.YtdeenfpcmaadcaaW.PrintWords Go.Proofs.Ytdeenfpcmaadcaa.Pr
def hasC (l : List Ch) (c : Ch) : Bool := l.any fun d => c.f0 == d.f0 && (c.f1 == d.f1)
theorem hasC_iff (l : List Ch) (c : Ch) : hasC l c = true ↔ c ∈ l := by
  unfold hasC
  rw [List.any_eq_true]
  constructor
  · rintro ⟨d, hd, e⟩
    rw [Bool.and_eq_true, beq_iff_eq, beq_iff_eq] at e
    have : c = d := by cases c; cases d; simp only at e; rw [e.1, e.2]
    rw [this]; exact hd
  · exact fun h => ⟨c, h, by simp⟩
theorem indexC_ev (l : List Ch) (c : Ch) (hl : l.length ≤ 9223372036854775807) : Ev (fun k => impl_Chord_75.f k l c.f0 c.f1) (if hasC l c = true then ((l.findIdx fun d => c.f0 == d.f0 && (c.f1 == d.f1) : Nat) : Int) else -1) := by
  unfold impl_Chord_75.f
  have e := Ev.scan0 (fun k i (n : Nat) => impl_Chord_75.l0 k l (l.length : Int) i c.f0 c.f1) l (fun rest n => if hasC rest c = true then (((n + rest.findIdx fun d => c.f0 == d.f0 && (c.f1 == d.f1)) : Nat) : Int) else -1) (fun i n => n = i)
    (fun n hn => by
      refine Ev.step (fun k => by rw [impl_Chord_75.l0]) ?_
      exact Ev.neg (by omega) (Ev.val (by simp [hasC])))
    (fun i h n hn => by
      subst hn
      by_cases hx : (c.f0 == l[n].f0 && (c.f1 == l[n].f1)) = true
      · right
        refine Ev.step (fun k => by rw [impl_Chord_75.l0]) ?_
        refine Ev.pos (by omega) (Ev.pos (by omega) (Ev.pos (by omega) (Ev.pos (by rw [rd_ch l n h]; exact hx) (Ev.val ?_))))
        unfold hasC
        rw [List.any_cons, hx, Bool.true_or, if_pos rfl, List.findIdx_cons, hx]
        simp
      · refine .inl ⟨n + 1, rfl, ?_, fun r hr => ?_⟩
        · have hx2 : (c.f0 == l[n].f0 && (c.f1 == l[n].f1)) = false := by simpa using hx
          unfold hasC
          rw [List.any_cons, hx2, Bool.false_or, List.findIdx_cons, hx2]
          split
          · simp; omega
          · rfl
        · refine Ev.step (fun k => by rw [impl_Chord_75.l0]) ?_
          refine Ev.pos (by omega) (Ev.pos (by omega) (Ev.pos (by omega) (Ev.neg (by rw [rd_ch l n h]; exact hx) ?_)))
          rw [w64 (by omega) (by omega)]
          exact hr)
    0 rfl
  simpa using e
theorem hasC_ev (l : List Ch) (c : Ch) (hl : l.length ≤ 9223372036854775807) : Ev (fun k => impl_Chord_51.f k l c.f0 c.f1) (hasC l c) := by
  unfold impl_Chord_51.f
  refine Ev.bindk (indexC_ev l c hl) (Ev.val ?_)
  cases h : hasC l c with
  | true => rw [if_pos rfl]; simp
  | false => rw [if_neg (by simp)]; simp
end Go.Proofs.Ytdeenfpcmaadcaa.M
/- What slices.Clone makes of chords: the same chords, in memory of the call's own. -/
namespace Go.Proofs.Ytdeenfpcmaadcaa.Pr
open Go.RowKit Go.Proofs.YtdeenfpcmaadcaaW.PrintWords Go.Proofs.YtdeenfpcmaadcaaW.PrintLast Go.Proofs.YtdeenfpcmaadcaaW.PrintMore
def impl_Chord_54.f (l0 : List (S47)) : Option ((List (S47))) := if l0.length < 1000000000000 then some l0 else none
set_option maxHeartbeats 4000000 in
set_option maxRecDepth 100000 in
theorem impl_Chord_54.calls (A0 : Option Addr) (c0 : Nat) (l0 : List (S47)) (r : List (S47)) (w : World) (hr0 : Kd.C k47 w A0 l0.length l0) (hc0 : l0.length ≤ c0) (h : impl_Chord_54.f l0 = some r) :
    Calls Try.prog 54 #[.slice A0 l0.length c0] w fun e w' => ∃ v0_ : Value, e = .returned (v0_) ∧ Kd.R k47 47 w' w.heap.size (fun _ => True) v0_ r ∧ Below w.heap.size w w' := by
  unfold impl_Chord_54.f at h
  by_cases hl : l0.length < 1000000000000
  · rw [if_pos hl] at h
    obtain rfl := oI h
    have hu := Try.underlying47
    have q22 : ∀ (w : World) (a : Option Addr) (n c n' c' : Nat), (binOp .eql 27 (.slice a n c) (.slice none n' c')).run Try.prog w = .ok (.bool a.isNone) w := fun w a n c n' c' => Lib.run_eql_slice_nil w _ _ a n c n' c' Try.underlying27
    cases A0 with
    | none =>
      have h0 : l0 = [] := by
        cases hll : l0 with
        | nil => rfl
        | cons x t =>
          obtain ⟨ad, e, _⟩ := hr0.2.2 (by rw [hll]; simp)
          cases e
      subst h0
      have HR := Aside0.mk (show Kd.R k47 47 w w.heap.size (fun _ => True) (.slice none 0 0) [] from Kd.R_nil _ _ _ _ _)
      clear hr0 h hl
      go_enter Try.func54, Try.ntmps54
      go_wp2
      go_ret
      exact ⟨_, rfl, HR.out, Below.refl _ _⟩
    | some ad =>
      have HR0 := Aside0.mk hr0
      have HB := Aside0.mk (Below.refl w.heap.size w)
      clear hr0 h
      go_enter Try.func54, Try.ntmps54
      go_wp2_with (first | ((with_reducible refine gate_dst (N := 5) rfl ?_); refine Kd.R_lit k47 _ 47 ?hg (N := 5) ?hd (xs := ([] : List (S47))) (inner := []) (ok := fun _ => True) (okp := fun _ => True) ?hr ?hp (fun _ hk => hk) trivial (Below.refl _ _) (Nat.le_refl _) (by simp) ?_; (case hd => rfl); (case hg => rfl); (case hr => first | (go_simp; done) | (go_simp; rfl)); (case hp => exact (Reps.none _ _)); intro v244 w6 ho7 hb hg_ hnew_; clear hg_ hnew_; have n0_ := Aside0.mk (Kd.R_lower ho7 (below_size hb_)); have n1_ := Aside0.mk (below_step hb_ hb); clear HB; have HO0 := n0_; have HB := n1_; clear n0_ n1_; clear hb ho7) | ((with_reducible refine gate_builtin (b := .append) (xs := #[.tmp 5, .tmp 6]) rfl ?_); at_builtin; refine Kd.R_append_rows k47 (w0 := w) w.heap.size rfl (.tmp 5) (.tmp 6) 27 47 (.agg #[(.int .i64 0), (.int .i64 0)]) 16 rfl Try.underlying27 info47 rfl (by decide) (by omega) v244 [] l0 _ _ _ (fun _ => True) (fun _ => False) rfl rfl ?aO ?aR (fun _ _ h => h) (fun _ h => h.elim) ?aF ?aB ?aS ?aL ?_; (case aR => repeat (first | exact (Kd.C_below HR0.out HB.out) | (with_reducible refine Kd.C_alloc ?_ _) | (with_reducible refine Kd.C_drewN ?_ _) | (with_reducible refine Kd.C_drew ?_))); (case aB => exact hb_); (case aF => exact (fun _ _ => trivial)); (case aO => exact (ra_ HO0.out)); (case aS => exact (below_size hb_)); (case aL => simp; omega); intro v361 w25 ho hb hg hat; have n0_ := Aside0.mk hb; have n1_ := Aside0.mk ho; clear HB; clear HO0; have HB := n0_; have HO := n1_; clear n0_ n1_; clear ho hb hg hat))
      go_ret
      exact ⟨v361, rfl, HO.out, HB.out⟩
  · rw [if_neg hl] at h
    cases h
end Go.Proofs.Ytdeenfpcmaadcaa.Pr
/- What a world is behind a row that is laid anew, and behind blocks that are made. -/
namespace Go.Proofs.Ytdeenfpcmaadcaa.Pr
open Go.RowKit Go.Sort Go.Proofs.YtdeenfpcmaadcaaW.PrintWords Go.Proofs.YtdeenfpcmaadcaaW.PrintLast Go.Proofs.YtdeenfpcmaadcaaW.PrintMore
theorem blk_putRow {w : World} {g : Nat} {cur : Array Value} {ty : TypeId} {fr : Nat × Nat} (F : Array Value) (hb : w.heap[g]? = some (.cells cur ty fr)) : (putRow id w g 0 F).heap[g]? = some (.cells (putCells id 0 F cur) ty fr) := by
  show (w.heap.modify g (onCells (putCells id 0 F)))[g]? = _
  rw [Array.getElem?_modify, if_pos rfl, hb]
  rfl
theorem below_putRow {w : World} {g base : Nat} (F : Array Value) (hg : base ≤ g) : Below base w (putRow id w g 0 F) :=
  ⟨rfl, rfl, rfl, by rw [show (putRow id w g 0 F).heap.size = w.heap.size from by simp [putRow, mapBlock]]; exact Nat.le_refl _, fun k hk => by
    show (w.heap.modify g (onCells (putCells id 0 F)))[k]? = _
    rw [Array.getElem?_modify, if_neg (by omega)]⟩
theorem below_grow {w : World} {base : Nat} (os : Array Obj) (hb : base ≤ w.heap.size) : Below base w (grow w os) :=
  ⟨rfl, rfl, rfl, by show _ ≤ (w.heap ++ os).size; simp, fun k hk => by
    show (w.heap ++ os)[k]? = _
    rw [Array.getElem?_append_left (by omega)]⟩
theorem kept_putRow {w : World} {g : Nat} {S : Nat → Prop} (F : Array Value) (hg : S g) : Kept w (putRow id w g 0 F) S :=
  ⟨by rw [show (putRow id w g 0 F).heap.size = w.heap.size from by simp [putRow, mapBlock]]; exact Nat.le_refl _, fun k hk hn => by
    show (w.heap.modify g (onCells (putCells id 0 F)))[k]? = _
    rw [Array.getElem?_modify, if_neg (fun e : g = k => hn (e ▸ hg))]⟩
theorem kept_grow {w : World} {S : Nat → Prop} (os : Array Obj) : Kept w (grow w os) S :=
  ⟨by show _ ≤ (w.heap ++ os).size; simp, fun k hk hn => by
    show (w.heap ++ os)[k]? = _
    rw [Array.getElem?_append_left hk]⟩
theorem kept_ahead {w : World} {S : Nat → Prop} (n : Nat) : Kept w (Sort.ahead w n) S := ⟨Nat.le_refl _, fun _ _ _ => rfl⟩
theorem below_ahead {w : World} {base : Nat} (n : Nat) : Below base w (Sort.ahead w n) := ⟨rfl, rfl, rfl, Nat.le_refl _, fun _ _ => rfl⟩
theorem unfrozen {w : World} {g : Nat} {cur : Array Value} {ty : TypeId} (hb : w.heap[g]? = some (.cells cur ty (0, 0))) (j : Nat) : w.frozen? ⟨g, j, none⟩ = false := by
  unfold World.frozen?
  simp [hb]
theorem size_putCells_id (off : Nat) (F c : Array Value) : (putCells id off F c).size = c.size := by simp [putCells]
end Go.Proofs.Ytdeenfpcmaadcaa.Pr
/- What the comparison of two chords does to the world: it draws, and lays blocks of its own, nothing else. -/
namespace Go.Proofs.Ytdeenfpcmaadcaa.Pr
open Go.RowKit Go.Proofs.YtdeenfpcmaadcaaW.PrintWords Go.Proofs.YtdeenfpcmaadcaaW.PrintLast Go.Proofs.YtdeenfpcmaadcaaW.PrintMore
def Gr (w w' : World) : Prop := ∃ q os', w' = Sort.grow (w.drewN q) os'
theorem Gr.refl (w : World) : Gr w w := ⟨0, #[], by simp [Sort.grow, World.drewN]⟩
theorem Gr.drewN {w w' : World} (h : Gr w w') (n : Nat) : Gr w (w'.drewN n) := by
  obtain ⟨q, os, rfl⟩ := h
  exact ⟨q + n, os, by simp [Sort.grow, World.drewN, Nat.add_assoc]⟩
theorem Gr.drew {w w' : World} (h : Gr w w') : Gr w w'.drew := h.drewN 1
theorem Gr.alloc {w w' : World} (h : Gr w w') (o : Obj) : Gr w (w'.alloc o) := by
  obtain ⟨q, os, rfl⟩ := h
  exact ⟨q, os ++ #[o], by rw [Sort.alloc_eq_grow, Sort.grow_grow]⟩
theorem two_reads (X : World) (a b : Int) : Kd.C (Kd.int .i64) (X.alloc (.cells #[.int .i64 a, .int .i64 b] 3)) (some ⟨X.heap.size, 0, none⟩) 2 [a, b] := by
  refine ⟨rfl, by simp, fun _ => ⟨_, rfl, fun j p hj => ⟨[.int .i64 p], rfl, rfl, fun i u hu => ?_⟩⟩⟩
  have hi : i = 0 := by
    have := (List.getElem?_eq_some_iff.1 hu).1
    simp at this
    exact this
  subst hi
  obtain rfl := oI hu
  have h0 : (X.alloc (.cells #[.int .i64 a, .int .i64 b] 3)).cell? ⟨X.heap.size, 0, none⟩ = some (.int .i64 a) := by simp
  have h1 : (X.alloc (.cells #[.int .i64 a, .int .i64 b] 3)).cell? ⟨X.heap.size, 1, none⟩ = some (.int .i64 b) := by simp
  match j, hj with
  | 0, hj => (obtain rfl := oI hj; exact h0)
  | 1, hj => (obtain rfl := oI hj; exact h1)
  | j + 2, hj => simp at hj
set_option maxHeartbeats 8000000 in
set_option maxRecDepth 100000 in
theorem compareChords_grow (k : Nat) (x y : S47) (t163 t164 t168 : Int) (w : World) (h1 : cmp_Compare_int.f x.f0 y.f0 = some t163) (h2 : cmp_Compare_int.f x.f1 y.f1 = some t164) (h3 : cmp_Or_int.f k [t163, t164] = some t168) :
    Calls Try.prog 77 #[.agg #[.int .i64 x.f0, .int .i64 x.f1], .agg #[.int .i64 y.f0, .int .i64 y.f1]] w fun e w' => e = .returned (.int .i64 t168) ∧ Gr w w' := by
  have hu60 := Try.underlying47
  have A3 := Aside0.mk h1
  have A4 := Aside0.mk h2
  have A5 := Aside0.mk h3
  clear h1 h2 h3
  go_enter Try.func77, Try.ntmps77
  go_wp2
  obtain ⟨W7, hW7⟩ : ∃ W7, (w.alloc (.cells #[.int .i64 x.f0, .int .i64 x.f1] 47)).alloc (.cells #[.int .i64 y.f0, .int .i64 y.f1] 47) = W7 := ⟨_, rfl⟩
  have G7 := Aside0.mk (show Gr w W7 from hW7 ▸ ((Gr.refl w).alloc _).alloc _)
  have FA0 : W7.cell? ⟨w.heap.size, 0, none⟩ = some (.int .i64 x.f0) := by rw [← hW7]; simp
  have FA1 : W7.cell? ⟨w.heap.size, 1, none⟩ = some (.int .i64 x.f1) := by rw [← hW7]; simp
  have FB0 : W7.cell? ⟨w.heap.size + 1, 0, none⟩ = some (.int .i64 y.f0) := by rw [← hW7]; simp
  have FB1 : W7.cell? ⟨w.heap.size + 1, 1, none⟩ = some (.int .i64 y.f1) := by rw [← hW7]; simp
  rw [hW7]
  clear hW7
  refine start_ (n := 13) (S := fun w' => w'.cell? ⟨w.heap.size, 0, none⟩ = some (.int .i64 x.f0) ∧ w'.cell? ⟨w.heap.size, 1, none⟩ = some (.int .i64 x.f1) ∧ w'.cell? ⟨(w.heap.size + 1), 0, none⟩ = some (.int .i64 y.f0) ∧ w'.cell? ⟨(w.heap.size + 1), 1, none⟩ = some (.int .i64 y.f1)) (ds := []) #[false, false, false, false, false, false, false, false, false, false, false, false, false] (by kernel_rfl) rfl rfl ⟨FA0, FA1, FB0, FB1⟩ (fun hHeld => ?_); refine with_tabW impl_compareChords.tab1 impl_compareChords.bits1 (fun HT_ HW_ => ?_)
  refine pure_ (i := 0) (N := some 5) (v := ?_) (a' := ?_) #[true, false, false, false, false, false, false, false, false, false, false, false, false] rfl rfl (any_of HT_.out (by kernel_rfl)) (fun _ _ _ h => h) (Or.inl ⟨by rfl, ?_⟩) ?_ ?_
  rotate_left
  · intro w'
    go_simp
    with_reducible rfl
  rotate_left
  · simp only [Act.put, sT, sZ, sS, i64_w, i32_w]
    rfl
  refine pure_ (i := 2) (N := some 7) (v := ?_) (a' := ?_) #[true, false, true, false, false, false, false, false, false, false, false, false, false] rfl rfl (any_of HT_.out (by kernel_rfl)) (fun _ _ _ h => h) (Or.inl ⟨by rfl, ?_⟩) ?_ ?_
  rotate_left
  · intro w'
    go_simp
    with_reducible rfl
  rotate_left
  · simp only [Act.put, sT, sZ, sS, i64_w, i32_w]
    rfl
  refine pure_ (i := 5) (N := some 10) (v := ?_) (a' := ?_) #[true, false, true, false, false, true, false, false, false, false, false, false, false] rfl rfl (any_of HT_.out (by kernel_rfl)) (fun _ _ _ h => h) (Or.inl ⟨by rfl, ?_⟩) ?_ ?_
  rotate_left
  · intro w'
    go_simp
    with_reducible rfl
  rotate_left
  · simp only [Act.put, sT, sZ, sS, i64_w, i32_w]
    rfl
  refine pure_ (i := 7) (N := some 12) (v := ?_) (a' := ?_) #[true, false, true, false, false, true, false, true, false, false, false, false, false] rfl rfl (any_of HT_.out (by kernel_rfl)) (fun _ _ _ h => h) (Or.inl ⟨by rfl, ?_⟩) ?_ ?_
  rotate_left
  · intro w'
    go_simp
    with_reducible rfl
  rotate_left
  · simp only [Act.put, sT, sZ, sS, i64_w, i32_w]
    rfl
  refine take_ (i := 1) (N := some 6) (v := ?_) (a' := ?_) #[true, true, true, false, false, true, false, true, false, false, false, false, false] rfl rfl (take_ofW HT_.out HW_.out (by kernel_rfl)) (fun _ _ _ h => h) (Or.inl ⟨by rfl, ?_⟩) hHeld ?_ ?_
  rotate_left
  · rintro w' ⟨s0, s1, s2, s3⟩
    go_simp
    with_reducible rfl
  rotate_left
  · simp only [Act.put, sT, sZ, sS, i64_w, i32_w]
    rfl
  refine take_ (i := 3) (N := some 8) (v := ?_) (a' := ?_) #[true, true, true, true, false, true, false, true, false, false, false, false, false] rfl rfl (take_ofW HT_.out HW_.out (by kernel_rfl)) (fun _ _ _ h => h) (Or.inl ⟨by rfl, ?_⟩) hHeld ?_ ?_
  rotate_left
  · rintro w' ⟨s0, s1, s2, s3⟩
    go_simp
    with_reducible rfl
  rotate_left
  · simp only [Act.put, sT, sZ, sS, i64_w, i32_w]
    rfl
  refine take_ (i := 6) (N := some 11) (v := ?_) (a' := ?_) #[true, true, true, true, false, true, true, true, false, false, false, false, false] rfl rfl (take_ofW HT_.out HW_.out (by kernel_rfl)) (fun _ _ _ h => h) (Or.inl ⟨by rfl, ?_⟩) hHeld ?_ ?_
  rotate_left
  · rintro w' ⟨s0, s1, s2, s3⟩
    go_simp
    with_reducible rfl
  rotate_left
  · simp only [Act.put, sT, sZ, sS, i64_w, i32_w]
    rfl
  refine take_ (i := 8) (N := some 13) (v := ?_) (a' := ?_) #[true, true, true, true, false, true, true, true, true, false, false, false, false] rfl rfl (take_ofW HT_.out HW_.out (by kernel_rfl)) (fun _ _ _ h => h) (Or.inl ⟨by rfl, ?_⟩) hHeld ?_ ?_
  rotate_left
  · rintro w' ⟨s0, s1, s2, s3⟩
    go_simp
    with_reducible rfl
  rotate_left
  · simp only [Act.put, sT, sZ, sS, i64_w, i32_w]
    rfl
  refine one_ (i := 4) (N := some 9) #[true, true, true, true, true, true, true, true, true, false, false, false, false] rfl rfl (one_of HT_.out (by kernel_rfl)) (by decide) (fun K hK => ?_)
  refine goes_ Try.func86 (by kernel_rfl) rfl #[.int .i64 x.f0, .int .i64 y.f0] (by rfl) rfl rfl ar_ ?_
  with_reducible refine (cmp_Compare_int.calls x.f0 y.f0 t163 _ A3.out).mono ?_
  rintro e w' ⟨rfl, ⟨nd1, rfl⟩⟩
  refine ⟨_, rfl, ?_⟩
  refine hK.out _ _ ⟨FA0, FA1, FB0, FB1⟩ (fun hHeld => ?_)
  clear hK K
  refine norm_ (a' := ?_) ?_ ?_
  rotate_left
  · show Act.put _ (some 9) _ = _
    simp only [Act.put, sT, sZ, sS, i64_w, i32_w]
    rfl
  refine one_ (i := 9) (N := some 14) #[true, true, true, true, true, true, true, true, true, true, false, false, false] rfl rfl (one_of HT_.out (by kernel_rfl)) (by decide) (fun K hK => ?_)
  refine goes_ Try.func86 (by kernel_rfl) rfl #[.int .i64 x.f1, .int .i64 y.f1] (by rfl) rfl rfl ar_ ?_
  with_reducible refine (cmp_Compare_int.calls x.f1 y.f1 t164 _ A4.out).mono ?_
  rintro e w' ⟨rfl, ⟨nd, rfl⟩⟩
  refine ⟨_, rfl, ?_⟩
  refine hK.out _ _ ⟨FA0, FA1, FB0, FB1⟩ (fun hHeld => ?_)
  clear hK K
  refine norm_ (a' := ?_) ?_ ?_
  rotate_left
  · show Act.put _ (some 14) _ = _
    simp only [Act.put, sT, sZ, sS, i64_w, i32_w]
    rfl
  refine one_ (i := 10) (N := some 15) #[true, true, true, true, true, true, true, true, true, true, true, false, false] rfl rfl (one_of HT_.out (by kernel_rfl)) (by decide) (fun K hK => ?_)
  have FL : ∀ (X : World) (o : Obj) {ad : Addr} {v : Value}, X.cell? ad = some v → (X.alloc o).cell? ad = some v := fun X o {ad v} h => Lib.cell?_alloc_some _ h
  refine event_step (v := .slice (some ⟨W7.heap.size, 0, none⟩) 2 2) (w1 := ((W7.drew.drewN nd1).drewN nd).alloc (.cells #[.int .i64 t163, .int .i64 t164] 3)) (by rfl) ?hr ?_
  (case hr => first | (go_simp; done) | (go_simp; rfl))
  refine hK.out _ _ ⟨FL _ _ FA0, FL _ _ FA1, FL _ _ FB0, FL _ _ FB1⟩ (fun hHeld => ?_)
  clear hK K
  refine norm_ (a' := ?_) ?_ ?_
  rotate_left
  · show Act.put _ (some 15) _ = _
    simp only [Act.put, sT, sZ, sS, i64_w, i32_w]
    rfl
  refine one_ (i := 11) (N := some 16) #[true, true, true, true, true, true, true, true, true, true, true, true, false] rfl rfl (one_of HT_.out (by kernel_rfl)) (by decide) (fun K hK => ?_)
  refine goes_ Try.func92 (by kernel_rfl) rfl #[.slice (some ⟨W7.heap.size, 0, none⟩) 2 2] (by rfl) rfl rfl ar_ ?_
  refine (cmp_Or_int.calls k (some ⟨W7.heap.size, 0, none⟩) 2 [t163, t164] t168 _ ?side1 (by simp) A5.out).mono ?_
  (case side1 => exact two_reads _ t163 t164)
  rintro e w' ⟨rfl, ⟨nd, rfl⟩⟩
  refine ⟨_, rfl, ?_⟩
  refine hK.out _ _ ⟨FL _ _ FA0, FL _ _ FA1, FL _ _ FB0, FL _ _ FB1⟩ (fun hHeld => ?_)
  clear hK K
  refine norm_ (a' := ?_) ?_ ?_
  rotate_left
  · show Act.put _ (some 16) _ = _
    simp only [Act.put, sT, sZ, sS, i64_w, i32_w]
    rfl
  refine pure_ (i := 12) (N := some 4) (v := ?_) (a' := ?_) #[true, true, true, true, true, true, true, true, true, true, true, true, true] rfl rfl (any_of HT_.out (by kernel_rfl)) (fun _ _ _ h => h) (Or.inl ⟨by rfl, ?_⟩) ?_ ?_
  rotate_left
  · intro w'
    go_simp
    with_reducible rfl
  rotate_left
  · simp only [Act.put, sT, sZ, sS, i64_w, i32_w]
    rfl
  refine done_ (done_of HT_.out (by kernel_rfl)) ?_
  try go_wp2
  go_ret
  exact ⟨rfl, by repeat (first | exact G7.out | apply Gr.drewN | apply Gr.drew | apply Gr.alloc)⟩
end Go.Proofs.Ytdeenfpcmaadcaa.Pr
/- What slices.Compact does to a row of chords of the call's own: the first of each run is kept. -/
namespace Go.Proofs.Ytdeenfpcmaadcaa.Pr
open Go.RowKit Go.Sort Go.Lib Go.Proofs.YtdeenfpcmaadcaaW.PrintWords Go.Proofs.YtdeenfpcmaadcaaW.PrintLast Go.Proofs.YtdeenfpcmaadcaaW.PrintMore
attribute [local go_sem high] eqA47
theorem setMany_one (d : Array S47) (i : Nat) (x : S47) (hi : i < d.size) : setMany (flatK encL 2 d) (i * 2) (encL x) = flatK encL 2 (d.setIfInBounds i x) := by
  refine ext_get! (by simp) fun t ht => ?_
  have ht' : t < d.size * 2 := by simpa using ht
  rw [get_setMany _ _ _ t (by simpa using ht'), get_flatK _ _ _ t ht', get_flatK _ _ _ t (by simpa using ht')]
  have hlen : (encL x).length = 2 := rfl
  rw [hlen]
  have hd : t / 2 < d.size := by omega
  by_cases a : t / 2 = i
  · rw [if_pos (by omega)]
    have e : (d.setIfInBounds i x)[t / 2]! = x := by rw [a]; simp [hi]
    rw [e, show t - i * 2 = t % 2 by omega]
  · rw [if_neg (by omega)]
    have e : (d.setIfInBounds i x)[t / 2]! = d[t / 2]! := by
      simp [Array.getElem!_eq_getD, Array.getD, Array.getElem_setIfInBounds, hd, Ne.symm a]
    rw [e]
theorem store_chord {w wr : World} {n blk : Nat} {dk : Array S47} {i : Nat} (hi : i < dk.size) (hwr : wr = putRowK encL 2 (Sort.ahead w n) blk 0 dk) (x : S47) :
    ((wr.drew).setCell ⟨blk, i * 2, none⟩ (.int .i64 x.f0)).setCell ⟨blk, i * 2 + 1, none⟩ (.int .i64 x.f1) = putRowK encL 2 (Sort.ahead w (n + 1)) blk 0 (dk.setIfInBounds i x) := by
  have h1 : wr.drew = putRowK encL 2 (Sort.ahead w (n + 1)) blk 0 dk := by
    have := putRowK_drewN encL 2 w n 1 blk 0 dk
    rw [← hwr] at this
    exact this
  rw [h1]
  have h2 := setCells_putRow (Sort.ahead w (n + 1)) blk 0 (encL x) (i * 2) (flatK encL 2 dk) (by rw [size_flatK]; show i * 2 + 2 ≤ _; omega)
  rw [setMany_one dk i x hi, Nat.zero_add] at h2
  exact h2
theorem eqB {x y : S47} (h : ¬ x = y) : (x.f0 == y.f0 && (x.f1 == y.f1)) = false := by
  rw [Bool.eq_false_iff]
  intro e
  simp only [Bool.and_eq_true, beq_iff_eq] at e
  obtain ⟨a, b⟩ := x
  obtain ⟨c, d⟩ := y
  exact h (by rw [show a = c from e.1, show b = d from e.2])
/-- The end of it: the cells of what is kept. -/
def CompEnd (w : World) (blk : Nat) (d : Array S47) (w' : World) : Prop :=
  ∃ q F, w' = putRow id (Sort.ahead w q) blk 0 F ∧ F.size = d.size * 2 ∧ ∀ j, j < (compactUpTo d d.size).length * 2 → F[j]! = (flatK encL 2 (compactUpTo d d.size).toArray)[j]!
theorem comp_same {w : World} {blk : Nat} {d : Array S47} (hH : HoldsK encL 2 w blk 0 d) (hall : ∀ j, j < d.size → keeps d j = true) (q : Nat) : (compactUpTo d d.size).length = d.size ∧ CompEnd w blk d (w.drewN q) := by
  have e : compactUpTo d d.size = d.toList := by rw [compactUpTo_all d _ hall, range_map_get]
  refine ⟨by rw [e]; simp, q, flatK encL 2 d, ?_, by simp, fun j hj => ?_⟩
  · exact (putRowK_self encL 2 (Sort.ahead w q) blk 0 d (holdsK_ahead encL 2 w q blk 0 d hH)).symm
  · rw [e]
def zerosCh (n : Nat) : List Value := (Builtin.zeroCells (Value.cells (.agg #[.int .i64 0, .int .i64 0])) n).toList
theorem zerosCh_length (n : Nat) : (zerosCh n).length = n * 2 := by simp [zerosCh, Builtin.zeroCells, Value.cells]
theorem run_clear_chord (w : World) (ty : TypeId) (b o n c : Nat) (hn : 0 < n) (hc : ∀ j, j < n * 2 → (w.cell? ⟨b, o + j, none⟩).isSome = true) (hf : ∀ j, j < n * 2 → w.frozen? ⟨b, o + j, none⟩ = false) :
    (Builtin.clear_ #[27] ty #[.slice (some ⟨b, o, none⟩) n c]).run Try.prog w = .ok (.tuple #[]) (w.setCells b o (zerosCh n)) := by
  have hv : ∀ w, (zeroValue 47).run Try.prog w = .ok (.agg #[.int .i64 0, .int .i64 0]) w := Try.zeroValue47
  have hone : ∀ v ∈ zerosCh n, v.oneCell' = true := by
    intro v hv
    simp [zerosCh, Builtin.zeroCells, Value.cells] at hv
    obtain ⟨i, hi, rfl⟩ := hv
    rcases Nat.mod_two_eq_zero_or_one i with h | h <;> simp [h, Value.oneCell']
  have hst := run_storeCells_cells (P := Try.prog) b o (zerosCh n) 0 w (fun j hj => by rw [Nat.add_zero]; exact hc j (by rw [zerosCh_length] at hj; exact hj)) (fun j hj => by rw [Nat.add_zero]; exact hf j (by rw [zerosCh_length] at hj; exact hj)) hone
  simp only [Nat.add_zero] at hst
  obtain ⟨m, rfl⟩ : ∃ m, n = m + 1 := ⟨n - 1, by omega⟩
  unfold zerosCh at hst ⊢
  simp [Builtin.clear_, run_underlying Try.underlying27, hv, hst]
theorem comp_end {w wr : World} {blk q2 kk : Nat} {d dk : Array S47} (hkk : kk ≤ d.size) (W2 : wr = putRowK encL 2 (Sort.ahead w q2) blk 0 dk) (I : CompInv d d.size kk dk) : CompEnd w blk d (wr.setCells blk (kk * 2) (zerosCh (d.size - kk))) := by
  have hsz := I.size
  refine ⟨q2, setMany (flatK encL 2 dk) (kk * 2) (zerosCh (d.size - kk)), ?_, by simp [hsz], fun j hj => ?_⟩
  · have h2 := setCells_putRow (Sort.ahead w q2) blk 0 (zerosCh (d.size - kk)) (kk * 2) (flatK encL 2 dk) (by rw [size_flatK, zerosCh_length]; omega)
    rw [Nat.zero_add] at h2
    rw [W2]
    exact h2
  · rw [I.len] at hj
    have hl : (compactUpTo d d.size).length = kk := I.len
    rw [get_setMany _ _ _ j (by rw [size_flatK]; omega), if_neg (by omega), get_flatK _ _ _ j (by omega), get_flatK _ _ _ j (by simp [hl]; omega)]
    have hlow := I.low (j / 2) (by omega)
    have e : (compactUpTo d d.size).toArray[j / 2]! = dk[j / 2]! := by
      have : j / 2 < (compactUpTo d d.size).length := by omega
      rw [getElem!_pos _ _ (by simpa using this)]
      rw [List.getElem?_eq_getElem this] at hlow
      simpa using oI hlow
    rw [e]
set_option maxHeartbeats 8000000 in
set_option maxRecDepth 1000000 in
theorem compact_chord (blk cap : Nat) (d : Array S47) (w : World) (hH : HoldsK encL 2 w blk 0 d) (hsz : d.size ≤ 4611686018427387904) (hcap : d.size ≤ cap) :
    Calls Try.prog 78 #[.slice (some ⟨blk, 0, none⟩) d.size cap] w fun e w' => e = .returned (.slice (some ⟨blk, 0, none⟩) (compactUpTo d d.size).length cap) ∧ CompEnd w blk d w' := by
  have hu60 := Try.underlying47
  by_cases h2 : d.size < 2
  · obtain ⟨e1, e2⟩ := comp_same hH (fun j hj => keeps_lt_one d j (by omega)) 0
    have E1 := Aside0.mk e1
    have E2 := Aside0.mk e2
    clear e1 e2 hH
    go_enter Try.func78, Try.ntmps78
    go_wp2
    go_ret
    exact ⟨by rw [E1.out]; rfl, E2.out⟩
  · have HH := Aside0.mk hH
    clear hH
    go_enter Try.func78, Try.ntmps78
    go_wp2
    go_loopg [3] d.size (fun g s3 wr => ∃ k q : Nat, Aside0 (1 ≤ k) ∧ Aside0 (k ≤ d.size) ∧ Aside0 (d.size - k ≤ g) ∧ s3 = .int .i64 k ∧ wr = w.drewN q ∧ Aside0 (∀ j, j < k → keeps d j = true))
    case atStart => exact ⟨1, 0, ⟨Nat.le_refl _⟩, ⟨by omega⟩, ⟨by omega⟩, rfl, rfl, ⟨keeps_lt_one d⟩⟩
    case round =>
      obtain ⟨k, q, K1, K2, KG, rfl, rfl, A⟩ := hrel
      have hk1 := K1.out
      have hk := K2.out
      by_cases hlt : k < d.size
      · obtain ⟨c1, f1⟩ := HoldsK.cell HH.out hlt (show 0 < 2 by omega)
        obtain ⟨c2, f2⟩ := HoldsK.cell HH.out hlt (show 1 < 2 by omega)
        obtain ⟨b1, _⟩ := HoldsK.cell HH.out (show k - 1 < d.size by omega) (show 0 < 2 by omega)
        obtain ⟨b2, _⟩ := HoldsK.cell HH.out (show k - 1 < d.size by omega) (show 1 < 2 by omega)
        obtain ⟨x, hx⟩ : ∃ x, d[k]! = x := ⟨_, rfl⟩
        obtain ⟨y, hy⟩ : ∃ y, d[k - 1]! = y := ⟨_, rfl⟩
        rw [hx] at c1 c2
        rw [hy] at b1 b2
        have B := Aside0.mk (show d[k]! = x ∧ d[k - 1]! = y from ⟨hx, hy⟩)
        clear hx hy
        simp only [Nat.zero_add, Nat.add_zero] at c1 c2 b1 b2 f1 f2
        change w.cell? ⟨blk, k * 2, none⟩ = some (.int .i64 x.f0) at c1
        change w.cell? ⟨blk, k * 2 + 1, none⟩ = some (.int .i64 x.f1) at c2
        change w.cell? ⟨blk, (k - 1) * 2, none⟩ = some (.int .i64 y.f0) at b1
        change w.cell? ⟨blk, (k - 1) * 2 + 1, none⟩ = some (.int .i64 y.f1) at b2
        by_cases hdup : x = y
        · subst hdup
          go_wp2_with fail
          go_region
          go_wp2
          clear c1 c2 b1 b2 f1 f2
          go_loopg [3, 5] d.size (fun g s3 s5 wr => ∃ (kk k2 q2 : Nat) (dk : Array S47), s3 = .int .i64 kk ∧ s5 = .int .i64 k2 ∧ Aside0 (1 ≤ k2) ∧ Aside0 (k + k2 ≤ d.size) ∧ Aside0 (d.size - (k + k2) ≤ g) ∧ Aside0 (wr = putRowK encL 2 (Sort.ahead w q2) blk 0 dk) ∧ Aside0 (CompInv d (k + k2) kk dk))
          case atStart => exact ⟨k, 1, q + 1, d, rfl, rfl, ⟨Nat.le_refl _⟩, ⟨by omega⟩, ⟨by omega⟩, ⟨(putRowK_self encL 2 (Sort.ahead w (q + 1)) blk 0 d (holdsK_ahead encL 2 w (q + 1) blk 0 d HH.out)).symm⟩, ⟨CompInv.start A.out (keeps_neg (by omega) (by rw [B.out.1, B.out.2]))⟩⟩
          case round =>
            obtain ⟨kk, k2, q2, dk, rfl, rfl, H1, HLE, HG2, W2, I2⟩ := hrel
            have h1 := H1.out
            have hle := HLE.out
            have hkk := I2.out.lt
            have hds := I2.out.size
            have hHk : HoldsK encL 2 wr blk 0 dk := by rw [W2.out]; exact holdsK_putRowK encL 2 _ blk 0 d dk (holdsK_ahead encL 2 w q2 blk 0 d HH.out) hds
            by_cases hlt2 : k + k2 < d.size
            · obtain ⟨c1, _⟩ := HoldsK.cell hHk (show k + k2 < dk.size by omega) (show 0 < 2 by omega)
              obtain ⟨c2, _⟩ := HoldsK.cell hHk (show k + k2 < dk.size by omega) (show 1 < 2 by omega)
              obtain ⟨b1, _⟩ := HoldsK.cell hHk (show k + k2 - 1 < dk.size by omega) (show 0 < 2 by omega)
              obtain ⟨b2, _⟩ := HoldsK.cell hHk (show k + k2 - 1 < dk.size by omega) (show 1 < 2 by omega)
              obtain ⟨o1, f1⟩ := HoldsK.cell hHk (show kk < dk.size by omega) (show 0 < 2 by omega)
              obtain ⟨o2, f2⟩ := HoldsK.cell hHk (show kk < dk.size by omega) (show 1 < 2 by omega)
              rw [I2.out.high (k + k2) (by omega)] at c1 c2
              rw [I2.out.high (k + k2 - 1) (by omega)] at b1 b2
              obtain ⟨u, hu⟩ : ∃ u, d[k + k2]! = u := ⟨_, rfl⟩
              obtain ⟨v, hv⟩ : ∃ v, d[k + k2 - 1]! = v := ⟨_, rfl⟩
              obtain ⟨o, ho⟩ : ∃ o, dk[kk]! = o := ⟨_, rfl⟩
              rw [hu] at c1 c2
              rw [hv] at b1 b2
              rw [ho] at o1 o2
              have C := Aside0.mk (show d[k + k2]! = u ∧ d[k + k2 - 1]! = v from ⟨hu, hv⟩)
              clear hu hv ho hHk
              simp only [Nat.zero_add, Nat.add_zero] at c1 c2 b1 b2 o1 o2 f1 f2
              rw [show (k + k2) * 2 = k * 2 + k2 * 2 by omega] at c1 c2
              rw [show (k + k2 - 1) * 2 = k * 2 + (k2 - 1) * 2 by omega] at b1 b2
              change wr.cell? ⟨blk, k * 2 + k2 * 2, none⟩ = some (.int .i64 u.f0) at c1
              change wr.cell? ⟨blk, k * 2 + k2 * 2 + 1, none⟩ = some (.int .i64 u.f1) at c2
              change wr.cell? ⟨blk, k * 2 + (k2 - 1) * 2, none⟩ = some (.int .i64 v.f0) at b1
              change wr.cell? ⟨blk, k * 2 + (k2 - 1) * 2 + 1, none⟩ = some (.int .i64 v.f1) at b2
              change wr.cell? ⟨blk, kk * 2, none⟩ = some (.int .i64 o.f0) at o1
              change wr.cell? ⟨blk, kk * 2 + 1, none⟩ = some (.int .i64 o.f1) at o2
              by_cases huv : u = v
              · subst huv
                go_wp2_with fail
                go_region
                go_wp2
                go_roundg (d.size - (k + (k2 + 1)))
                case measure => have := HG2.out; omega
                case rel => exact ⟨kk, k2 + 1, q2 + 1, dk, rfl, by go_num, ⟨by omega⟩, ⟨by omega⟩, ⟨Nat.le_refl _⟩, ⟨by rw [W2.out]; rfl⟩, ⟨I2.out.skip (keeps_neg (by omega) (by rw [C.out.1, C.out.2]))⟩⟩
              · have hb := eqB huv
                have D := Aside0.mk huv
                clear huv
                go_wp2_with fail
                go_region
                go_wp2
                go_roundg (d.size - (k + (k2 + 1)))
                case measure => have := HG2.out; omega
                case rel => exact ⟨kk + 1, k2 + 1, q2 + 1, dk.setIfInBounds kk u, by go_num, by go_num, ⟨by omega⟩, ⟨by omega⟩, ⟨Nat.le_refl _⟩, ⟨store_chord (by omega) W2.out u⟩, ⟨by have := I2.out.keep hlt2 (keeps_pos (by rw [C.out.1, C.out.2]; exact D.out)); rwa [C.out.1] at this⟩⟩
            · have hend : k + k2 = d.size := by omega
              have hfr : ∀ j, j < (d.size - kk) * 2 → (wr.cell? ⟨blk, kk * 2 + j, none⟩).isSome = true ∧ wr.frozen? ⟨blk, kk * 2 + j, none⟩ = false := fun j hj => by
                have := hHk (kk * 2 + j) (by rw [size_flatK]; omega)
                rw [Nat.zero_add] at this
                exact ⟨by rw [this.1]; rfl, this.2⟩
              have hcl : ∀ ty, (Builtin.clear_ #[27] ty #[.slice (some ⟨blk, kk * 2, none⟩) (d.size - kk) (cap - kk)]).run Try.prog wr = .ok (.tuple #[]) (wr.setCells blk (kk * 2) (zerosCh (d.size - kk))) :=
                fun ty => run_clear_chord wr ty blk (kk * 2) (d.size - kk) (cap - kk) (by omega) (fun j hj => (hfr j hj).1) (fun j hj => (hfr j hj).2)
              have hI := I2.out
              rw [hend] at hI
              have E1 := Aside0.mk hI.len
              have E2 := Aside0.mk (comp_end (by omega) W2.out hI)
              clear hHk hfr hI I2 W2
              go_wp2
              go_ret
              exact ⟨by rw [E1.out]; rfl, E2.out⟩
        · have hb := eqB hdup
          have D := Aside0.mk hdup
          clear hdup
          go_wp2_with fail
          go_region
          go_wp2
          go_roundg (d.size - (k + 1))
          case measure => have := KG.out; omega
          case rel =>
            refine ⟨k + 1, q + 1, ⟨by omega⟩, ⟨by omega⟩, ⟨Nat.le_refl _⟩, by go_num, rfl, ⟨fun j hj => ?_⟩⟩
            by_cases e : j = k
            · subst e
              exact keeps_pos (by rw [B.out.1, B.out.2]; exact D.out)
            · exact A.out j (by omega)
      · have hkd : k = d.size := by omega
        subst hkd
        obtain ⟨e1, e2⟩ := comp_same HH.out A.out q
        have E1 := Aside0.mk e1
        have E2 := Aside0.mk e2
        clear e1 e2
        go_wp2
        go_ret
        exact ⟨by rw [E1.out]; rfl, E2.out⟩
end Go.Proofs.Ytdeenfpcmaadcaa.Pr
/-
  DERIVED: THE SHELF's CONTRACTS AT THIS DUMP, IN PLAIN WORDS (tools/lay-plain.mjs out of 'YtdeenfpcmaadcaaSortLay.lean', which tools/lay-shelf.mjs wrote): THE SAME DECLARATIONS UNDER THE SAME NAMES: 'import', 'namespace', 'open', 'def', 'theorem' AND NOTHING ELSE: no command of the shelf's: FOR A HAND-IN. Each laying: the table of numbers ('.._ren') and one theorem, a field a fact of the dump's own or the kernel's comparison; each contract: ONE APPLICATION.
-/
namespace Go.Proofs
open Go.Shelf
def Try.sortCh_ren : Go.Shelf.Ren := ⟨fun | 6 => 76 | 15 => 85 | 14 => 91 | 28 => 103 | 29 => 104 | 20 => 106 | 21 => 107 | 22 => 108 | 23 => 109 | 24 => 110 | 25 => 111 | 26 => 112 | 27 => 113 | 46 => 119 | 47 => 115 | 48 => 116 | 49 => 120 | 50 => 121 | 57 => 123 | n => n, fun | 22 => 27 | 24 => 47 | 25 => 80 | 3 => 3 | 39 => 83 | 0 => 0 | 53 => 97 | 55 => 99 | 4 => 4 | 46 => 91 | 45 => 90 | 50 => 34 | 5 => 5 | 9 => 9 | 66 => 105 | 70 => 109 | 76 => 113 | 77 => 114 | n => n, fun | n => n⟩
theorem Try.sortCh : Go.Proofs.SlLaysF0.n6 Try.prog Try.sortCh_ren := {
  mixed := by kernel_rfl
  f6 := ⟨Try.f76.name, by decide, Try.func76.trans (congrArg some (by kernel_rfl))⟩
  f14 := ⟨Try.f91.name, by decide, Try.func91.trans (congrArg some (by kernel_rfl))⟩
  f15 := Try.func85.trans (congrArg some (by kernel_rfl))
  f20 := ⟨Try.f106.name, by decide, Try.func106.trans (congrArg some (by kernel_rfl))⟩
  f21 := ⟨Try.f107.name, by decide, Try.func107.trans (congrArg some (by kernel_rfl))⟩
  f22 := ⟨Try.f108.name, by decide, Try.func108.trans (congrArg some (by kernel_rfl))⟩
  f23 := ⟨Try.f109.name, by decide, Try.func109.trans (congrArg some (by kernel_rfl))⟩
  f24 := ⟨Try.f110.name, by decide, Try.func110.trans (congrArg some (by kernel_rfl))⟩
  f25 := ⟨Try.f111.name, by decide, Try.func111.trans (congrArg some (by kernel_rfl))⟩
  f26 := ⟨Try.f112.name, by decide, Try.func112.trans (congrArg some (by kernel_rfl))⟩
  f27 := ⟨Try.f113.name, by decide, Try.func113.trans (congrArg some (by kernel_rfl))⟩
  f28 := Try.func103.trans (congrArg some (by kernel_rfl))
  f29 := Try.func104.trans (congrArg some (by kernel_rfl))
  f46 := ⟨Try.f119.name, by decide, Try.func119.trans (congrArg some (by kernel_rfl))⟩
  f47 := Try.func115.trans (congrArg some (by kernel_rfl))
  f48 := Try.func116.trans (congrArg some (by kernel_rfl))
  f49 := ⟨Try.f120.name, by decide, Try.func120.trans (congrArg some (by kernel_rfl))⟩
  f50 := ⟨Try.f121.name, by decide, Try.func121.trans (congrArg some (by kernel_rfl))⟩
  f57 := ⟨Try.f123.name, by decide, Try.func123.trans (congrArg some (by kernel_rfl))⟩
  t0 := Try.underlying0
  a0 := Try.isAgg0
  z0 := Try.sizeOf0
  v0 := Try.zeroValue0
  t3 := Try.underlying3
  a3 := Try.isAgg3
  z3 := Try.sizeOf3
  v3 := Try.zeroValue3
  t4 := Try.underlying4
  a4 := Try.isAgg4
  z4 := Try.sizeOf4
  v4 := Try.zeroValue4
  t5 := Try.underlying5
  a5 := Try.isAgg5
  z5 := Try.sizeOf5
  v5 := Try.zeroValue5
  t9 := Try.underlying9
  a9 := Try.isAgg9
  z9 := Try.sizeOf9
  v9 := Try.zeroValue9
  t22 := Try.underlying27
  a22 := Try.isAgg27
  z22 := Try.sizeOf27
  v22 := Try.zeroValue27
  t25 := Try.underlying80
  a25 := Try.isAgg80
  z25 := Try.sizeOf80
  v25 := Try.zeroValue80
  t39 := Try.underlying83
  a39 := Try.isAgg83
  z39 := Try.sizeOf83
  v39 := Try.zeroValue83
  t45 := Try.underlying90
  a45 := Try.isAgg90
  z45 := Try.sizeOf90
  v45 := Try.zeroValue90
  t46 := Try.underlying91
  a46 := Try.isAgg91
  z46 := Try.sizeOf91
  v46 := Try.zeroValue91
  t50 := Try.underlying34
  a50 := Try.isAgg34
  z50 := Try.sizeOf34
  v50 := Try.zeroValue34
  t53 := Try.underlying97
  a53 := Try.isAgg97
  z53 := Try.sizeOf97
  v53 := Try.zeroValue97
  t55 := Try.underlying99
  a55 := Try.isAgg99
  z55 := Try.sizeOf99
  v55 := Try.zeroValue99
  t66 := Try.underlying105
  a66 := Try.isAgg105
  z66 := Try.sizeOf105
  v66 := Try.zeroValue105
  t70 := Try.underlying109
  a70 := Try.isAgg109
  z70 := Try.sizeOf109
  v70 := Try.zeroValue109
  t76 := Try.underlying113
  a76 := Try.isAgg113
  z76 := Try.sizeOf113
  v76 := Try.zeroValue113
  t77 := Try.underlying114
  a77 := Try.isAgg114
  z77 := Try.sizeOf114
  v77 := Try.zeroValue114 }
end Go.Proofs
/- What the program's `ordered` does to a row of chords of the call's own: the row in order, each chord once. -/
namespace Go.Proofs.Ytdeenfpcmaadcaa.Pr
open Go.RowKit Go.Sort Go.Lib Go.Proofs.YtdeenfpcmaadcaaW.PrintWords Go.Proofs.YtdeenfpcmaadcaaW.PrintLast Go.Proofs.YtdeenfpcmaadcaaW.PrintMore
/-- The sorted row. -/
def sortC (xs : List S47) : List S47 := xs.mergeSort fun x y => !(ltOf M.cmpC) y x
/-- The chords in order, each once. -/
def ordC (xs : List S47) : List S47 := compactUpTo (sortC xs).toArray (sortC xs).toArray.size
theorem ltC_iff (x y : S47) : (ltOf M.cmpC) x y = true ↔ (x.f0 < y.f0 ∨ x.f0 = y.f0 ∧ x.f1 < y.f1) := by
  unfold ltOf M.cmpC
  rw [decide_eq_true_iff]
  split
  · simp; omega
  · split
    · simp; omega
    · split
      · simp; omega
      · split
        · simp; omega
        · simp; omega
theorem ltC_not (x y : S47) : (ltOf M.cmpC) x y = false ↔ ¬ (x.f0 < y.f0 ∨ x.f0 = y.f0 ∧ x.f1 < y.f1) := by
  rw [← ltC_iff, Bool.not_eq_true]
theorem swoC : SWO (ltOf M.cmpC) where
  irrefl x := by rw [ltC_not]; omega
  trans x y z h1 h2 := by rw [ltC_iff] at *; omega
  ntrans x y z h1 h2 := by rw [ltC_not] at *; omega
theorem antC (x y : S47) (h1 : (ltOf M.cmpC) x y = false) (h2 : (ltOf M.cmpC) y x = false) : x = y := by
  rw [ltC_not] at h1 h2
  obtain ⟨a, b⟩ := x
  obtain ⟨c, d⟩ := y
  simp only at h1 h2
  rw [show a = c by omega, show b = d by omega]
theorem compareChords_lays (g size : Nat) (w : World) : Go.Proofs.CmpLays Try.prog 77 #[] encL 2 M.cmpC g 0 size w := fun m os dk hs x y => by
  obtain ⟨k, hk⟩ := M.or_ev (if x.f0 < y.f0 then -1 else if x.f0 > y.f0 then 1 else 0) (if x.f1 < y.f1 then -1 else if x.f1 > y.f1 then 1 else 0)
  have e : (if (if x.f0 < y.f0 then (-1 : Int) else if x.f0 > y.f0 then 1 else 0) = 0 then (if x.f1 < y.f1 then (-1 : Int) else if x.f1 > y.f1 then 1 else 0) else (if x.f0 < y.f0 then -1 else if x.f0 > y.f0 then 1 else 0)) = M.cmpC x y := by
    unfold M.cmpC
    by_cases h1 : x.f0 < y.f0
    · simp [h1]
    · by_cases h2 : x.f0 > y.f0
      · simp [h1, h2]
      · simp [h1, h2]
  have h := compareChords_grow k x y _ _ _ (sortWorldK encL 2 w g 0 m dk os) (M.compare_eq _ _) (M.compare_eq _ _) (hk k (Nat.le_refl k))
  rw [e] at h
  exact h
theorem compactUpTo_length_le (d : Array S47) (m : Nat) : (compactUpTo d m).length ≤ m := by
  unfold compactUpTo
  rw [List.length_map]
  exact Nat.le_trans (List.length_filter_le _ _) (by simp)
theorem sortC_length (xs : List S47) : (sortC xs).length = xs.length := by
  unfold sortC
  exact List.length_mergeSort xs
theorem ordC_length (xs : List S47) : (ordC xs).length ≤ xs.length := by
  unfold ordC
  refine Nat.le_trans (compactUpTo_length_le _ _) ?_
  simp [sortC_length]
theorem ordC_nil : ordC [] = [] := by simp [ordC, sortC, compactUpTo]
set_option maxHeartbeats 2000000 in
theorem compact_none (w : World) : Calls Try.prog 78 #[.slice none 0 0] w fun e w' => e = .returned (.slice none 0 0) ∧ Below w.heap.size w w' := by
  go_enter Try.func78, Try.ntmps78
  go_wp2
  go_ret
  exact ⟨rfl, Below.refl _ _⟩
theorem oneL : ∀ x : S47, ∀ v ∈ encL x, v.oneCell' = true := by
  intro x v hv
  simp [encL] at hv
  rcases hv with rfl | rfl <;> rfl
set_option maxHeartbeats 2000000 in
/-- The sort, at a row of the call's own. -/
theorem sort_chord (g cap : Nat) (xs : List S47) (w : World) (hH : HoldsK encL 2 w g 0 xs.toArray) (hg : g < w.heap.size) (hlen : xs.length < 4611686018427387904) :
    Calls Try.prog 76 #[.slice (some ⟨g, 0, none⟩) xs.length cap, .func (.func 77) #[] #[]] w fun e w' => e = .returned (.tuple #[]) ∧ ∃ n os, w' = sortWorldK encL 2 w g 0 n (sortC xs).toArray os := by
  have h := AnyQ.slices_SortFunc_total Try.sortCh 2 (fun w => Try.isAgg47 w) (fun w => Try.sizeOf47 w) encL encL_length oneL M.cmpC swoC 77 #[] g 0 cap xs.toArray w (enters_of Try.func77 (by kernel_rfl) rfl)
    (compareChords_lays g xs.toArray.size w) hH hg (by simpa using hlen) antC
  exact h
/-- Behind the sort and the compaction the row's first cells are the chords in order, each once. -/
theorem ord_end {w w1 w2 : World} {g cap n base : Nat} {ok : Nat → Prop} {os : Array Obj} {cur : Array Value} {xs : List S47} (hok : ok g) (hg : base ≤ g) (hB : base ≤ w.heap.size) (hb : w.heap[g]? = some (.cells cur 47 (0, 0))) (hn : xs.length ≤ cap) (hm : cap ≤ maxLen) (hs : cur.size = cap * 2)
    (hH : HoldsK encL 2 w g 0 xs.toArray) (e1 : w1 = sortWorldK encL 2 w g 0 n (sortC xs).toArray os) (h2 : CompEnd w1 g (sortC xs).toArray w2) :
    Kd.R k47 47 w2 base ok (.slice (some ⟨g, 0, none⟩) (ordC xs).length cap) (ordC xs) ∧ Below base w w2 ∧ Kept w w2 ok := by
  have hgs : g < w.heap.size := (Array.getElem?_eq_some_iff.1 hb).1
  have hH1 : HoldsK encL 2 w1 g 0 (sortC xs).toArray := by
    rw [e1]
    exact holdsK_sortWorldK_c encL 2 w g 0 xs.toArray (sortC xs).toArray n os hH hgs (by simp [sortC_length])
  have hb1 : w1.heap[g]? = some (.cells (putCells id 0 (flatK encL 2 (sortC xs).toArray) cur) 47 (0, 0)) := by
    rw [e1]
    show ((putRowK encL 2 (Sort.ahead w n) g 0 (sortC xs).toArray).heap ++ os)[g]? = _
    have := blk_putRow (w := Sort.ahead w n) (flatK encL 2 (sortC xs).toArray) hb
    rw [Array.getElem?_append_left (by rw [size_putRowK]; exact hgs)]
    exact this
  have hB1 : Below base w w1 := by
    rw [e1]
    refine ((below_ahead n).trans (below_putRow (flatK encL 2 (sortC xs).toArray) hg)).trans (below_grow os ?_)
    rw [show (putRow id (Sort.ahead w n) g 0 (flatK encL 2 (sortC xs).toArray)).heap.size = w.heap.size from by simp [putRow, mapBlock, Sort.ahead]]
    exact hB
  obtain ⟨q, F, e2, hF, hFj⟩ := h2
  have hb2 : w2.heap[g]? = some (.cells (putCells id 0 F (putCells id 0 (flatK encL 2 (sortC xs).toArray) cur)) 47 (0, 0)) := by
    rw [e2]
    exact blk_putRow (w := Sort.ahead w1 q) F hb1
  have hB2 : Below base w1 w2 := by
    rw [e2]
    exact (below_ahead q).trans (below_putRow F hg)
  have hK1 : Kept w w1 ok := by
    rw [e1]
    exact ((kept_ahead n).then_ (kept_putRow (flatK encL 2 (sortC xs).toArray) hok) (fun _ h => .inl h)).then_ (kept_grow os) (fun _ h => .inl h)
  have hK2 : Kept w1 w2 ok := by
    rw [e2]
    exact (kept_ahead q).then_ (kept_putRow F hok) (fun _ h => .inl h)
  have hholds : Holds id w2 g 0 F := by
    rw [e2]
    exact holds_putRow id (Sort.ahead w1 q) g 0 (flatK encL 2 (sortC xs).toArray) F hH1 (by rw [hF, size_flatK])
  have hle : (ordC xs).length * 2 ≤ F.size := by
    rw [hF]
    have := compactUpTo_length_le (sortC xs).toArray (sortC xs).toArray.size
    show (compactUpTo (sortC xs).toArray (sortC xs).toArray.size).length * 2 ≤ _
    omega
  have hK : HoldsK encL 2 w2 g 0 (ordC xs).toArray := fun j hj => by
    rw [size_flatK] at hj
    have hj' : j < (ordC xs).length * 2 := by simpa using hj
    obtain ⟨c1, f1⟩ := hholds j (by omega)
    refine ⟨?_, f1⟩
    rw [c1]
    exact congrArg some (hFj j hj')
  have hrow := row_of_holds hK
  refine ⟨shut_own hok hg hb2 (Nat.le_trans (ordC_length xs) hn) hm (by rw [size_putCells_id, size_putCells_id, hs]) ?_, hB1.trans hB2, hK1.then_ hK2 (fun _ h => .inl h)⟩
  simpa using hrow
set_option maxHeartbeats 4000000 in
/-- The program's `ordered`, at a row of the call's own. -/
theorem ordered_own (base : Nat) (ok : Nat → Prop) (v : Value) (xs : List S47) (w : World) (hr : Kd.R k47 47 w base ok v xs) (hB : base ≤ w.heap.size) (hlen : xs.length < 4611686018427387904) :
    Calls Try.prog 55 #[v] w fun e w' => ∃ v', e = .returned v' ∧ Kd.R k47 47 w' base ok v' (ordC xs) ∧ Below base w w' ∧ Kept w w' ok := by
  rcases open_own hr with ⟨rfl, rfl⟩ | ⟨g, cap, cur, rfl, hok, hg, hb, hn, hm, hs, hrow⟩
  · have h1 := Aside0.mk (fun (W : World) => AnyF.slices_SortFunc_none Try.sortCh none 0 (.func (.func 77) #[] #[]) W)
    have h2 := Aside0.mk (fun (W : World) => compact_none W)
    have HR := Aside0.mk (show Kd.R k47 47 w base ok (.slice none 0 0) (ordC []) from by rw [ordC_nil]; exact hr)
    have HB := Aside0.mk hB
    clear hr hB hlen
    go_enter Try.func55, Try.ntmps55
    go_wp2_with (first | (go_at_call 76; refine (h1.out _).mono ?_; rintro e w' ⟨rfl, rfl⟩) | (go_at_call 78; refine (h2.out _).mono ?_; rintro e w' ⟨rfl, hb2⟩))
    go_ret
    exact ⟨_, rfl, Kd.R_below HR.out hb2, hb2.mono HB.out, Kept.of_below hb2 _⟩
  · have hH := holds_of hrow (unfrozen hb)
    have hgs : g < w.heap.size := (Array.getElem?_eq_some_iff.1 hb).1
    have h1 := Aside0.mk (sort_chord g cap xs w hH hgs hlen)
    have h2 := Aside0.mk (fun (w1 : World) (n : Nat) (os : Array Obj) (e : w1 = sortWorldK encL 2 w g 0 n (sortC xs).toArray os) =>
      compact_chord g cap (sortC xs).toArray w1 (by rw [e]; exact holdsK_sortWorldK_c encL 2 w g 0 xs.toArray (sortC xs).toArray n os hH hgs (by simp [sortC_length])) (by simp [sortC_length]; omega) (by simp [sortC_length]; exact hn))
    have h3 := Aside0.mk (fun (w1 w2 : World) (n : Nat) (os : Array Obj) (e1 : w1 = sortWorldK encL 2 w g 0 n (sortC xs).toArray os) (h2 : CompEnd w1 g (sortC xs).toArray w2) => ord_end hok hg hB hb hn hm hs hH e1 h2)
    have hsz : (sortC xs).toArray.size = xs.length := by simp [sortC_length]
    rw [hsz] at h2
    have HS := Aside0.mk hsz
    clear hr hok hg hb hn hm hs hrow hH hgs hB hlen hsz
    go_enter Try.func55, Try.ntmps55
    go_wp2_with (first | (go_at_call 76; refine h1.out.mono ?_; rintro e w1 ⟨rfl, n, os, hw1⟩; have HW := Aside0.mk hw1; clear hw1) | (go_at_call 78; refine (h2.out _ n os HW.out).mono ?_; rintro e w2 ⟨rfl, hc⟩))
    go_ret
    obtain ⟨r1, r2⟩ := h3.out _ _ n os HW.out hc
    refine ⟨_, rfl, ?_, r2⟩
    have e : (compactUpTo (sortC xs).toArray xs.length) = ordC xs := by
      unfold ordC
      rw [HS.out]
    rw [e]
    exact r1
def impl_ordered.f (l0 : List (S47)) : Option (List (S47)) := if l0.length < 4611686018427387904 then some (ordC l0) else none
theorem impl_ordered.calls (P0_ : Nat → Prop) (u9000_ : Value) (l0 : List (S47)) (r : List (S47)) (w0 w : World) (hB : Below w0.heap.size w0 w) (ho0 : Kd.R k47 47 w w0.heap.size P0_ u9000_ l0) (h : impl_ordered.f l0 = some r) :
    Calls Try.prog 55 #[u9000_] w fun e w' => ∃ v0_ : Value, e = .returned (v0_) ∧ Kd.R k47 47 w' w0.heap.size (fun k_ => (P0_ k_ ∨ w.heap.size ≤ k_)) v0_ r ∧ Below w0.heap.size w0 w' ∧ Kept w w' (fun k_ => P0_ k_) := by
  unfold impl_ordered.f at h
  by_cases hl : l0.length < 4611686018427387904
  · rw [if_pos hl] at h
    obtain rfl := oI h
    exact (ordered_own w0.heap.size P0_ u9000_ l0 w ho0 hB.size hl).mono fun e w' ⟨v', he, hr, hb, hk⟩ => ⟨v', he, Kd.R_mono hr (fun _ h => .inl h), hB.trans hb, hk⟩
  · rw [if_neg hl] at h
    cases h
end Go.Proofs.Ytdeenfpcmaadcaa.Pr
namespace Go.Proofs.Ytdeenfpcmaadcaa.Pr
open Go.RowKit Go.Proofs.YtdeenfpcmaadcaaW.PrintWords Go.Proofs.YtdeenfpcmaadcaaW.PrintLast Go.Proofs.YtdeenfpcmaadcaaW.PrintMore
attribute [local go_sem] max2_int min2_int max_two min_two max_three min_three max_four min_four
def impl_chord.f (a0 : Int) (a1 : Int) : Option (Int × Int) := some (mn a0 a1, mx a0 a1)
set_option maxHeartbeats 8000000 in
set_option maxRecDepth 100000 in
theorem impl_chord.calls (a0 : Int) (a1 : Int) (r1 : Int) (r2 : Int) (w : World) (h : impl_chord.f a0 a1 = some (r1, r2)) :
  Calls Try.prog 49 #[.int .i64 a0, .int .i64 a1] w fun e w' => e = .returned (.agg #[.int .i64 r1, .int .i64 r2]) ∧ Below w.heap.size w w' := by
 have hu47 := Try.underlying47
 have HB := Aside0.mk (Below.refl w.heap.size w)
 have H : (some (mn a0 a1, mx a0 a1)) = some (r1, r2) := h
 clear h
 obtain ⟨ji3, hji3⟩ : ∃ j_ : Int, (mn a0 a1) = j_ := ⟨_, rfl⟩
 replace H : (some (ji3, mx a0 a1)) = some (r1, r2) := by first | (rw [hji3] at H; exact H) | (simp only [hji3] at H ⊢; exact H)
 have hji3_ : (if a1 < a0 then a1 else a0) = ji3 := hji3
 obtain ⟨ji4, hji4⟩ : ∃ j_ : Int, (mx a0 a1) = j_ := ⟨_, rfl⟩
 replace H : (some (ji3, ji4)) = some (r1, r2) := by first | (rw [hji4] at H; exact H) | (simp only [hji4] at H ⊢; exact H)
 have hji4_ : (if a0 < a1 then a1 else a0) = ji4 := hji4
 simp only [Option.some.injEq, Prod.mk.injEq] at H
 obtain ⟨rfl, rfl⟩ := H
 go_enter Try.func49, Try.ntmps49
 go_wp2_with (first | ((with_reducible refine gate_dst (N := 4) rfl ?_); refine box_event ?hg (N := 4) ?hd (cs := #[.int .i64 0, .int .i64 0]) (t := 47) ?hr ?_; (case hd => rfl); (case hg => rfl); (case hr => first | (go_simp; done) | (go_simp; rfl)); intro gb157 hg w5 hbox hb; have n0_ := Aside0.mk (below_step hb_ hb); have n1_ := Aside0.mk (hbox); have n2_ := Aside0.mk ((by rw [hg]; exact (below_size hb_) : w.heap.size ≤ gb157)); have n3_ := Aside0.mk ((by rw [hg]; exact (below_size hb_) : w.heap.size ≤ gb157)); clear HB; have HB := n0_; have BK157 := n1_; have GW157 := n2_; have GE157 := n3_; clear n0_ n1_ n2_ n3_; clear hb hbox hg; have hcz6_0 : w5.cell? ⟨gb157, 0, none⟩ = some (.int .i64 0) := bc_ BK157 0; have hcz6_1 : w5.cell? ⟨gb157, 1, none⟩ = some (.int .i64 0) := bc_ BK157 1; have hfz6_0 := blk_frozen BK157.out 0; have hfz6_1 := blk_frozen BK157.out 1))
 refine bodyPost_ret (results_cell_row rfl _ _ gb157 47 #[.int .i64 ji3, .int .i64 ji4] (0, 0) _ rfl (by (with_reducible repeat (first | refine kN ?_ _ | refine kD ?_ | refine kA ?_ _)); refine blk_put (cs := #[.int .i64 ji3, .int .i64 0]) ?_ 1 _ rfl; (with_reducible repeat (first | refine kN ?_ _ | refine kD ?_ | refine kA ?_ _)); refine blk_put (cs := #[.int .i64 0, .int .i64 0]) ?_ 0 _ rfl; (with_reducible repeat (first | refine kN ?_ _ | refine kD ?_ | refine kA ?_ _)); exact BK157.out) Try.underlying47 rfl (by kernel_rfl)) rfl ?_
 exact ⟨by first | rfl | (simp [errW_none, errW_some] <;> rfl) | (simp only [← hji3, ← hji4]; first | rfl | (simp [errW_none, errW_some] <;> rfl)) | (simp [*, errW_none, errW_some] <;> rfl), hs_ GE157.out⟩
end Go.Proofs.Ytdeenfpcmaadcaa.Pr
/- The program's FlipDiagonal, by hand: the other diagonal in the place of one. -/
namespace Go.Proofs.Ytdeenfpcmaadcaa.Pr
open Go.RowKit Go.Proofs.YtdeenfpcmaadcaaW.PrintWords Go.Proofs.YtdeenfpcmaadcaaW.PrintLast Go.Proofs.YtdeenfpcmaadcaaW.PrintMore
abbrev FC := S47
def cdR (x y : Int) : FC := ⟨mn x y, mx x y⟩
/-- Whether two points are joined: by a side of the whole, or a chord of the set. -/
def joinB (p : Int) (l : List FC) (x y : Int) : Bool := (x != y) && (!(diagR p (cdR x y)) || M.hasC l (cdR x y))
def otherB (p : Int) (l : List FC) (o : FC) (x : Int) : Bool := (x != o.f0) && ((x != o.f1) && (joinB p l x o.f0 && joinB p l x o.f1))
theorem flip_drawn {f : Nat} {vs : Array Value} {W : World} {v : Value} (h : Calls Try.prog f vs W fun e w' => e = .returned v ∧ Drawn0 W w') : Calls Try.prog f vs W fun e w' => e = .returned v ∧ Below W.heap.size W w' :=
  h.mono fun _ _ h => ⟨h.1, by obtain ⟨n, rfl⟩ := h.2.out; exact pw_below_drewN (Below.refl _ _) n⟩
theorem cell_new_lt {W : World} {b off : Nat} (o : Obj) (h : b < W.heap.size) : (W.alloc o).cell? ⟨b, off, none⟩ = W.cell? ⟨b, off, none⟩ := (below_alloc (Below.refl W.heap.size W) o).cell (p := ⟨b, off, none⟩) h
set_option maxHeartbeats 2000000 in
theorem flip_join (p : Int) (A : Option Addr) (c : Nat) (l : List FC) (W : World) (B1 B2 : Nat) (h1 : W.cell? ⟨B1, 0, none⟩ = some (.int .i64 p)) (h2 : W.cell? ⟨B2, 0, none⟩ = some (.slice A l.length c)) (hr : Kd.C k47 W A l.length l) (hc : l.length ≤ c) (x y : Int) :
    Calls Try.prog 48 #[.int .i64 x, .int .i64 y, .pointer (some ⟨B1, 0, none⟩), .pointer (some ⟨B2, 0, none⟩)] W fun e w' => e = .returned (.bool (joinB p l x y)) ∧ Below W.heap.size W w' := by
  have hb1 : B1 < W.heap.size := World.block_lt_of_cell? W ⟨B1, 0, none⟩ h1
  have hb2 : B2 < W.heap.size := World.block_lt_of_cell? W ⟨B2, 0, none⟩ h2
  have HCH := Aside0.mk (fun (W2 : World) => impl_chord.calls x y (mn x y) (mx x y) W2 rfl)
  have HD := Aside0.mk (fun (W2 : World) => impl_isDiagonal.calls p (mn x y) (mx x y) (diagR p (cdR x y)) W2 (isDiagonal_eq p (cdR x y)))
  obtain ⟨K, hK⟩ := M.hasC_ev l (cdR x y) hr.2.1
  have HH := Aside0.mk (fun (W2 : World) (hb : Below W.heap.size W W2) => impl_Chord_51.calls K A c l (mn x y) (mx x y) (M.hasC l (cdR x y)) W2 (Kd.C_below hr hb) hc (hK K (Nat.le_refl _)))
  have HX := Aside0.mk (fun (W2 : World) (hb : Below W.heap.size W W2) => (⟨(hb.cell (p := ⟨B1, 0, none⟩) hb1).trans h1, (hb.cell (p := ⟨B2, 0, none⟩) hb2).trans h2⟩ : W2.cell? ⟨B1, 0, none⟩ = some (.int .i64 p) ∧ W2.cell? ⟨B2, 0, none⟩ = some (.slice A l.length c)))
  have hu47 := Try.underlying47
  have HJ := Aside0.mk (show joinB p l x y = ((x != y) && (!(diagR p (cdR x y)) || M.hasC l (cdR x y))) from rfl)
  generalize mn x y = a at HCH HD HH
  generalize mx x y = b at HCH HD HH
  generalize M.hasC l (cdR x y) = hb at HH HJ
  generalize diagR p (cdR x y) = db at HD HJ
  clear hr hK h1 h2 hb1 hb2
  go_enter Try.func48, Try.ntmps48
  go_upto_region 2 with (go_at_call 49; refine (HCH.out _).mono ?_; rintro e w2 ⟨rfl, hb2⟩; have HB2 := Aside0.mk hb2; clear hb2)
  have HB3 := Aside0.mk (below_alloc HB2.out (.cells #[.int .i64 a, .int .i64 b] 47))
  have y0 : (w2.alloc (.cells #[.int .i64 a, .int .i64 b] 47)).cell? ⟨w2.heap.size, 0, none⟩ = some (.int .i64 a) := by simp
  have y1 : (w2.alloc (.cells #[.int .i64 a, .int .i64 b] 47)).cell? ⟨w2.heap.size, 1, none⟩ = some (.int .i64 b) := by simp
  have hlt : w2.heap.size < (w2.alloc (.cells #[.int .i64 a, .int .i64 b] 47)).heap.size := by simp
  generalize (w2.alloc (.cells #[.int .i64 a, .int .i64 b] 47)) = W3 at HB3 y0 y1 hlt ⊢
  have HY := Aside0.mk (fun (W4 : World) (hb : Below W3.heap.size W3 W4) => (⟨(hb.cell (p := ⟨w2.heap.size, 0, none⟩) hlt).trans y0, (hb.cell (p := ⟨w2.heap.size, 1, none⟩) hlt).trans y1⟩ : W4.cell? ⟨w2.heap.size, 0, none⟩ = some (.int .i64 a) ∧ W4.cell? ⟨w2.heap.size, 1, none⟩ = some (.int .i64 b)))
  obtain ⟨x1, x2⟩ := HX.out _ HB3.out
  clear hlt
  by_cases hxy : x = y
  · have e1 : (x != y) = false := by rw [hxy]; simp
    rw [e1] at HJ
    clear hxy
    go_wp2_with fail
    go_ret
    exact ⟨by rw [HJ.out]; rfl, HB3.out⟩
  · have e1 : (x != y) = true := by simpa using hxy
    rw [e1] at HJ
    clear hxy
    cases db with
    | false =>
      go_wp2_with (go_at_call 50; refine (HD.out _).mono ?_; rintro e w5 ⟨rfl, hb5⟩)
      go_ret
      exact ⟨by rw [HJ.out]; rfl, below_step HB3.out hb5⟩
    | true =>
      go_wp2_with (first | (go_at_call 50; refine (HD.out _).mono ?_; rintro e w5 ⟨rfl, hb5⟩; obtain ⟨y0, y1⟩ := HY.out _ hb5; have HB5 := Aside0.mk (below_step HB3.out hb5); obtain ⟨x1, x2⟩ := HX.out _ HB5.out; clear hb5) | (go_at_call 51; refine (HH.out _ HB5.out).mono ?_; rintro e w6 ⟨rfl, hb6⟩))
      go_ret
      exact ⟨by rw [HJ.out]; simp, below_step HB5.out hb6⟩
/-- The boxes of the two functions' variables. -/
structure FB (W : World) (p : Int) (A : Option Addr) (c : Nat) (l : List FC) (o : FC) (B1 B2 Bo Bf : Nat) : Prop where
  h1 : W.cell? ⟨B1, 0, none⟩ = some (.int .i64 p)
  h2 : W.cell? ⟨B2, 0, none⟩ = some (.slice A l.length c)
  o0 : W.cell? ⟨Bo, 0, none⟩ = some (.int .i64 o.f0)
  o1 : W.cell? ⟨Bo, 1, none⟩ = some (.int .i64 o.f1)
  f0 : W.cell? ⟨Bf, 0, none⟩ = some (.func (.func 48) #[] #[.pointer (some ⟨B1, 0, none⟩), .pointer (some ⟨B2, 0, none⟩)])
  rd : Kd.C k47 W A l.length l
  cp : l.length ≤ c
theorem FB.go {W W' : World} {p : Int} {A : Option Addr} {c : Nat} {l : List FC} {o : FC} {B1 B2 Bo Bf : Nat} (h : FB W p A c l o B1 B2 Bo Bf) (hb : Below W.heap.size W W') : FB W' p A c l o B1 B2 Bo Bf :=
  ⟨(hb.cell (World.block_lt_of_cell? W _ h.h1)).trans h.h1, (hb.cell (World.block_lt_of_cell? W _ h.h2)).trans h.h2, (hb.cell (World.block_lt_of_cell? W _ h.o0)).trans h.o0, (hb.cell (World.block_lt_of_cell? W _ h.o1)).trans h.o1, (hb.cell (World.block_lt_of_cell? W _ h.f0)).trans h.f0, Kd.C_below h.rd hb, h.cp⟩
set_option maxHeartbeats 2000000 in
theorem flip_other (W : World) (p : Int) (A : Option Addr) (c : Nat) (l : List FC) (o : FC) (B1 B2 Bo Bf : Nat) (hF : FB W p A c l o B1 B2 Bo Bf) (x : Int) :
    Calls Try.prog 53 #[.int .i64 x, .pointer (some ⟨Bo, 0, none⟩), .pointer (some ⟨Bf, 0, none⟩)] W fun e w' => e = .returned (.bool (otherB p l o x)) ∧ Below W.heap.size W w' := by
  have HF := Aside0.mk hF
  have HC := Aside0.mk (fun (W2 : World) (hb : Below W.heap.size W W2) (y : Int) => flip_join p A c l W2 B1 B2 (HF.out.go hb).h1 (HF.out.go hb).h2 (HF.out.go hb).rd (HF.out.go hb).cp x y)
  have x0 := hF.o0
  have x1 := hF.o1
  have x2 := hF.f0
  have eg : ∀ args w, (callFunc 48 args).run Try.prog w = .ok (.enter 48 args) w := enters_of Try.func48 (by kernel_rfl) rfl
  have HJ := Aside0.mk (show otherB p l o x = ((x != o.f0) && ((x != o.f1) && (joinB p l x o.f0 && joinB p l x o.f1))) from rfl)
  have hu47 := Try.underlying47
  have HZ := Aside0.mk (Below.refl W.heap.size W)
  clear hF
  go_enter Try.func53, Try.ntmps53
  by_cases h0 : x = o.f0
  · have e0 : (x != o.f0) = false := by rw [h0]; simp
    rw [e0] at HJ
    clear h0
    go_wp2_with fail
    go_ret
    exact ⟨by rw [HJ.out]; rfl, HZ.out⟩
  · have e0 : (x != o.f0) = true := by simpa using h0
    rw [e0] at HJ
    clear h0
    by_cases h1 : x = o.f1
    · have e1 : (x != o.f1) = false := by rw [h1]; simp
      rw [e1] at HJ
      clear h1
      go_wp2_with fail
      go_ret
      exact ⟨by rw [HJ.out]; rfl, HZ.out⟩
    · have e1 : (x != o.f1) = true := by simpa using h1
      rw [e1] at HJ
      clear h1
      have hca := HC.out W (Below.refl _ _) o.f0
      cases hj : joinB p l x o.f0 with
      | false =>
        rw [hj] at hca HJ
        clear hj
        go_wp2_with (go_at_fn 48; refine hca.mono ?_; rintro e w3 ⟨rfl, hb3⟩; have HB3 := Aside0.mk hb3; clear hb3 x0 x1 x2)
        go_ret
        exact ⟨by rw [HJ.out]; rfl, HB3.out⟩
      | true =>
        rw [hj] at hca HJ
        clear hj
        go_wp2_with (first | (go_at_fn 48; refine hca.mono ?_; rintro e w3 ⟨rfl, hb3⟩; have hcb := HC.out w3 hb3 o.f1; have x1 := (HF.out.go hb3).o1; have x2 := (HF.out.go hb3).f0; have HB3 := Aside0.mk hb3; clear hca hb3) | (go_at_fn 48; refine hcb.mono ?_; rintro e w4 ⟨rfl, hb4⟩; have HB4 := Aside0.mk (below_step HB3.out hb4); clear hb4))
        go_ret
        exact ⟨by rw [HJ.out]; simp, HB4.out⟩
theorem run_store_fn {P : Program} {w : World} {a : Addr} {m : Mode} (f : Fn) (ts vs : Array Value) : (store a (.func f ts vs) m).run P w = stored P w a (.func f ts vs) m := run_store P w a _ m rfl
attribute [local go_sem] run_store_fn
def impl_FlipDiagonal.f (k : Nat) (a0 : Int) (l1 : List FC) (a2 : Int) : Option (List FC × Bool) :=
  (impl_leavesTriangles.f k a0 l1).bind fun t => if t = true then (if 0 ≤ a0 ∧ a0 ≤ 1000 ∧ l1.length ≤ 1000 then (if M.inB a2 0 ((l1.length : Int) - 1) = true then
    (let os := numsP (otherB a0 l1 (l1.getD a2.toNat ⟨0, 0⟩)) 0 a0.toNat
     if 2 ≤ os.length then (impl_ordered.f (l1.set a2.toNat (cdR (os.getD 0 0) (os.getD 1 0)))).bind fun r => some (r, true) else none)
    else some ([], false)) else none) else some ([], false)
theorem impl_FlipDiagonal.mono : ∀ a0 a1 a2 k, LeO (impl_FlipDiagonal.f k a0 a1 a2) (impl_FlipDiagonal.f (k + 1) a0 a1 a2) := by
  intro a0 a1 a2 k
  unfold impl_FlipDiagonal.f
  exact LeO.bind (impl_leavesTriangles.mono _ _ _) (fun _ => LeO.refl _)
set_option maxHeartbeats 4000000 in
set_option maxRecDepth 100000 in
theorem impl_FlipDiagonal.calls (k : Nat) (a0 : Int) (A1 : Option Addr) (c1 : Nat) (l1 : List FC) (a2 : Int) (r1 : List FC) (r2 : Bool) (w : World) (hr1 : Kd.C k47 w A1 l1.length l1) (hc1 : l1.length ≤ c1) (h : impl_FlipDiagonal.f k a0 l1 a2 = some (r1, r2)) :
    Calls Try.prog 26 #[.int .i64 a0, .slice A1 l1.length c1, .int .i64 a2] w fun e w' => ∃ v0_ : Value, e = .returned (.tuple #[v0_, .bool r2]) ∧ Kd.R k47 47 w' w.heap.size (fun _ => True) v0_ r1 ∧ Below w.heap.size w w' := by
  obtain ⟨t, ht, h⟩ := bI h
  obtain ⟨W0, hW0⟩ : ∃ W0, W0 = (w.alloc (.cells #[.int .i64 a0] 3)).alloc (.cells #[.slice A1 l1.length c1] 27) := ⟨_, rfl⟩
  have hb0 : Below w.heap.size w W0 := by rw [hW0]; exact below_alloc (below_alloc (Below.refl _ _) _) _
  have hs0 : w.heap.size + 1 < W0.heap.size := by rw [hW0]; simp
  have hx1 : W0.cell? ⟨w.heap.size, 0, none⟩ = some (.int .i64 a0) := by rw [hW0]; simp
  have hx2 : W0.cell? ⟨w.heap.size + 1, 0, none⟩ = some (.slice A1 l1.length c1) := by rw [hW0]; simp
  have HC := Aside0.mk (impl_leavesTriangles.calls k a0 A1 c1 l1 t W0 (Kd.C_below hr1 hb0) hc1 ht)
  have HB0 := Aside0.mk hb0
  have HS0 := Aside0.mk hs0
  have HX := Aside0.mk (fun (W : World) (hb : Below W0.heap.size W0 W) => (⟨(hb.cell (p := ⟨w.heap.size, 0, none⟩) (show w.heap.size < _ by omega)).trans hx1, (hb.cell (p := ⟨w.heap.size + 1, 0, none⟩) hs0).trans hx2⟩ : W.cell? ⟨w.heap.size, 0, none⟩ = some (.int .i64 a0) ∧ W.cell? ⟨w.heap.size + 1, 0, none⟩ = some (.slice A1 l1.length c1)))
  have HR1 := Aside0.mk (Kd.C_below hr1 hb0)
  have HC1 := Aside0.mk hc1
  clear hb0 hs0 hr1 hc1 ht
  go_enter Try.func26, Try.ntmps26
  go_upto_region 1 with fail
  rw [← hW0]
  clear hW0
  cases t with
  | false =>
    rw [if_neg (by simp)] at h
    injection h with h
    injection h with h1 h2
    subst h1 h2
    go_wp2_with (go_at_call 47; refine HC.out.mono ?_; rintro e w' ⟨rfl, hb⟩; clear hx1 hx2)
    go_ret2
    exact ⟨_, rfl, Kd.R_nil _ _ _ _ _, HB0.out.trans (hb.mono HB0.out.size)⟩
  | true =>
    rw [if_pos rfl] at h
    by_cases hr : 0 ≤ a0 ∧ a0 ≤ 1000 ∧ l1.length ≤ 1000
    rotate_left
    · rw [if_neg hr] at h; cases h
    rw [if_pos hr] at h
    have ew : IntKind.i64.wrap ((l1.length : Int) - 1) = (l1.length : Int) - 1 := by
      rw [i64_w]
      exact M.w64 (by omega) (by omega)
    have HI := Aside0.mk (fun (W : World) => flip_drawn (impl_within.calls a2 0 ((l1.length : Int) - 1) (M.inB a2 0 ((l1.length : Int) - 1)) W (M.within_eq _ _ _)))
    cases hin : M.inB a2 0 ((l1.length : Int) - 1) with
    | false =>
      rw [hin] at h HI
      rw [if_neg (by simp)] at h
      injection h with h
      injection h with h1 h2
      subst h1 h2
      clear hin hr
      go_wp2_with (first | (go_at_call 47; refine HC.out.mono ?_; rintro e w' ⟨rfl, hb⟩; obtain ⟨hx1, hx2⟩ := HX.out _ hb; have HBa := Aside0.mk hb; clear hb) | (go_at_call 39; refine (HI.out _).mono ?_; rintro e w3 ⟨rfl, hb⟩; have HBb := Aside0.mk (below_step HBa.out hb); clear hb))
      go_ret2
      exact ⟨_, rfl, Kd.R_nil _ _ _ _ _, HB0.out.trans (HBb.out.mono HB0.out.size)⟩
    | true =>
      rw [hin] at h HI
      rw [if_pos rfl] at h
      have hin2 : 0 ≤ a2 ∧ a2 < (l1.length : Int) := by unfold M.inB at hin; simp at hin; omega
      clear hin
      obtain ⟨m, rfl⟩ : ∃ m : Nat, a2 = (m : Int) := ⟨a2.toNat, by omega⟩
      have hm : m < l1.length := by omega
      rw [Int.toNat_natCast] at h
      obtain ⟨o, ho⟩ : ∃ o, o = l1[m] := ⟨_, rfl⟩
      rw [show l1.getD m ⟨0, 0⟩ = o by rw [ho]; simp [List.getD_eq_getElem?_getD, List.getElem?_eq_getElem hm]] at h
      obtain ⟨os, hos⟩ : ∃ os, os = numsP (otherB a0 l1 o) 0 a0.toNat := ⟨_, rfl⟩
      rw [← hos] at h
      by_cases h2 : 2 ≤ os.length
      rotate_left
      · dsimp only at h; rw [if_neg h2] at h; cases h
      dsimp only at h
      rw [if_pos h2] at h
      obtain ⟨res, hres, h⟩ := bI h
      injection h with h
      injection h with h1 hb2
      subst h1 hb2
      have ew2 : IntKind.i64.wrap (a0 - 1) = a0 - 1 := by
        rw [i64_w]
        exact M.w64 (by omega) (by omega)
      have q0 : (0 : Int) ≤ (m : Int) := by omega
      have q1 : (m : Int) < (l1.length : Int) := by omega
      have q1' : (m : Int) ≤ (l1.length : Int) := by omega
      obtain ⟨ad, ea, z0, z1⟩ := at_T47 HR1.out (m : Int) q0 q1
      rw [M.rd_ch l1 m hm, ← ho, Int.toNat_natCast] at z0 z1
      subst ea
      have HZ := Aside0.mk (fun (W : World) (hb : Below W0.heap.size W0 W) => (⟨(hb.cell (World.block_lt_of_cell? W0 _ z0)).trans z0, (hb.cell (p := ⟨(ad.add (m * 2)).block, (ad.add (m * 2)).off + 1, none⟩) (World.block_lt_of_cell? W0 ⟨(ad.add (m * 2)).block, (ad.add (m * 2)).off + 1, none⟩ z1)).trans z1⟩ : W.cell? (ad.add (m * 2)) = some (.int .i64 o.f0) ∧ W.cell? ⟨(ad.add (m * 2)).block, (ad.add (m * 2)).off + 1, none⟩ = some (.int .i64 o.f1)))
      have eg : ∀ args w, (callFunc 53 args).run Try.prog w = .ok (.enter 53 args) w := enters_of Try.func53 (by kernel_rfl) rfl
      have HN := Aside0.mk (fun (W : World) (Bo Bf : Nat) (hF : FB W a0 (some ad) c1 l1 o w.heap.size (w.heap.size + 1) Bo Bf) => numbersWith_calls 0 (a0 - 1) a0.toNat (by omega) (by omega) (by omega) (otherB a0 l1 o) 53 #[.pointer (some ⟨Bo, 0, none⟩), .pointer (some ⟨Bf, 0, none⟩)] eg W
        (fun W2 x _ _ hb => flip_other W2 a0 (some ad) c1 l1 o w.heap.size (w.heap.size + 1) Bo Bf (hF.go hb) x))
      rw [← hos] at HN
      have HCl := Aside0.mk (fun (W : World) (hC : Kd.C k47 W (some ad) l1.length l1) => impl_Chord_54.calls (some ad) c1 l1 l1 W hC HC1.out (by unfold impl_Chord_54.f; rw [if_pos (by omega)]))
      have HRes := Aside0.mk hres
      have HM := Aside0.mk (show m < l1.length ∧ 2 ≤ os.length from ⟨hm, h2⟩)
      have hu47 := Try.underlying47
      clear z0 z1 eg hos hres ho hr hin2
      go_upto_region 5 with (first | (go_at_call 47; refine HC.out.mono ?_; rintro e w2 ⟨rfl, hb⟩; obtain ⟨hx1, hx2⟩ := HX.out _ hb; have HBa := Aside0.mk hb; clear hb) | (go_at_call 39; refine (HI.out _).mono ?_; rintro e w3 ⟨rfl, hb⟩; have HBb := Aside0.mk (below_step HBa.out hb); obtain ⟨hx1, hx2⟩ := HX.out _ HBb.out; obtain ⟨z0, z1⟩ := HZ.out _ HBb.out; clear hb HBa))
      have HFB := Aside0.mk (show FB ((w3.alloc (.cells #[.int .i64 o.f0, .int .i64 o.f1] 47)).alloc (.cells #[.func (.func 48) #[] #[.pointer (some ⟨w.heap.size, 0, none⟩), .pointer (some ⟨w.heap.size + 1, 0, none⟩)]] 65)) a0 (some ad) c1 l1 o w.heap.size (w.heap.size + 1) w3.heap.size (w3.heap.size + 1) from by
        have hb3 := below_alloc (below_alloc HBb.out (.cells #[.int .i64 o.f0, .int .i64 o.f1] 47)) (.cells #[.func (.func 48) #[] #[.pointer (some ⟨w.heap.size, 0, none⟩), .pointer (some ⟨w.heap.size + 1, 0, none⟩)]] 65)
        exact ⟨(HX.out _ hb3).1, (HX.out _ hb3).2, by simp, by simp, by simp, Kd.C_below HR1.out hb3, HC1.out⟩)
      have HBc := Aside0.mk (below_alloc (below_alloc HBb.out (.cells #[.int .i64 o.f0, .int .i64 o.f1] 47)) (.cells #[.func (.func 48) #[] #[.pointer (some ⟨w.heap.size, 0, none⟩), .pointer (some ⟨w.heap.size + 1, 0, none⟩)]] 65))
      clear hx1 hx2 z0 z1 HBb
      generalize ((w3.alloc (.cells #[.int .i64 o.f0, .int .i64 o.f1] 47)).alloc (.cells #[.func (.func 48) #[] #[.pointer (some ⟨w.heap.size, 0, none⟩), .pointer (some ⟨w.heap.size + 1, 0, none⟩)]] 65)) = W4 at HFB HBc ⊢
      generalize w3.heap.size = Bo at HFB ⊢
      obtain ⟨hx1, hx2⟩ := HX.out _ HBc.out
      go_upto_region 7 with (first | (go_at_call 52; refine (HN.out _ _ _ HFB.out).mono ?_; rintro e w5 ⟨v5, rfl, ho5, hb5⟩; obtain ⟨A5, c5, e5⟩ := Kd.R_slice ho5; subst e5; have HO5 := Aside0.mk ho5; have HB5 := Aside0.mk (below_step HBc.out hb5); obtain ⟨hx1, hx2⟩ := HX.out _ HB5.out; clear ho5 hb5 HBc) | (go_at_call 54; refine (HCl.out _ (Kd.C_below HR1.out HB5.out)).mono ?_; rintro e w6 ⟨v6, rfl, ho6, hb6⟩; have HO6 := Aside0.mk ho6; have HV5 := Aside0.mk (Kd.R_below HO5.out hb6); have HB6 := Aside0.mk (below_step HB5.out hb6); clear ho6 hb6 hx1 hx2 HO5))
      obtain ⟨hm2, h22⟩ := HM.out
      obtain ⟨g5, cap5, e5, hg5, hl5, cells5, hc5⟩ := Kd.R_form HV5.out (by omega)
      injection e5 with e5 _ _
      subst e5
      obtain ⟨g6, cap6, e6, hg6, hl6, cells6, hc6⟩ := Kd.R_form HO6.out (by omega)
      subst e6
      obtain ⟨x, hx⟩ : ∃ x, x = os.getD 0 0 := ⟨_, rfl⟩
      obtain ⟨y, hy⟩ : ∃ y, y = os.getD 1 0 := ⟨_, rfl⟩
      have u0 : w6.cell? ⟨g5, 0, none⟩ = some (.int .i64 x) := by rw [hx]; exact (Kd.R_celln 0 HV5.out 0 (by omega) (by omega)).1
      have u1 : w6.cell? ⟨g5, 1, none⟩ = some (.int .i64 y) := by rw [hy]; exact (Kd.R_celln 0 HV5.out 1 (by omega) (by omega)).1
      obtain ⟨ad6, ea6, v0, v1⟩ := at_T47 (Kd.R_reads' HO6.out).2.2 (m : Int) q0 q1
      injection ea6 with ea6
      subst ea6
      rw [Int.toNat_natCast] at v0 v1
      rw [add_plain] at v0 v1
      obtain ⟨z, hz⟩ : ∃ z, z = rd_T47 l1 (m : Int) := ⟨_, rfl⟩
      rw [← hz] at v0 v1
      have HK := Aside0.mk (fun (W : World) (hb : Below w6.heap.size w6 W) => (⟨(hb.cell (World.block_lt_of_cell? w6 _ u0)).trans u0, (hb.cell (World.block_lt_of_cell? w6 _ u1)).trans u1, (hb.cell (World.block_lt_of_cell? w6 _ v0)).trans v0, (hb.cell (World.block_lt_of_cell? w6 _ v1)).trans v1, blk_frozen (blk_below hc6 hb) _, blk_frozen (blk_below hc6 hb) _, hb⟩ :
        W.cell? ⟨g5, 0, none⟩ = some (.int .i64 x) ∧ W.cell? ⟨g5, 1, none⟩ = some (.int .i64 y) ∧ W.cell? ⟨g6, m * 2, none⟩ = some (.int .i64 z.f0) ∧ W.cell? ⟨g6, m * 2 + 1, none⟩ = some (.int .i64 z.f1) ∧ W.frozen? ⟨g6, m * 2, none⟩ = false ∧ W.frozen? ⟨g6, m * 2 + 1, none⟩ = false ∧ Below w6.heap.size w6 W))
      have HCd := Aside0.mk (fun (W : World) => impl_chord.calls x y (mn x y) (mx x y) W rfl)
      have HRs := Aside0.mk (show impl_ordered.f (l1.set m ⟨mn x y, mx x y⟩) = some res by rw [hx, hy]; exact HRes.out)
      have o0 : (0 : Int) < (os.length : Int) := by omega
      have o1 : (1 : Int) < (os.length : Int) := by omega
      have o0' : decide (0 < os.length) = true := decide_eq_true (by omega)
      have o1' : decide (1 < os.length) = true := decide_eq_true (by omega)
      generalize mn x y = cx at HCd HRs
      generalize mx x y = cy at HCd HRs
      have HBw := Aside0.mk (HB0.out.trans (HB6.out.mono HB0.out.size))
      have HST := Aside0.mk (fun (W : World) (hb : Below w6.heap.size w6 W) (y0 : W.cell? ⟨g6, m * 2, none⟩ = some (.int .i64 z.f0)) (y1 : W.cell? ⟨g6, m * 2 + 1, none⟩ = some (.int .i64 z.f1)) => show Kd.R k47 47 ((W.setCell ⟨g6, m * 2, none⟩ (.int .i64 cx)).setCell ⟨g6, m * 2 + 1, none⟩ (.int .i64 cy)) w.heap.size (fun _ => True) (.slice (some ⟨g6, 0, none⟩) l1.length cap6) (l1.set m ⟨cx, cy⟩) ∧ Below w.heap.size w ((W.setCell ⟨g6, m * 2, none⟩ (.int .i64 cx)).setCell ⟨g6, m * 2 + 1, none⟩ (.int .i64 cy)) from by
        have hw5 : w.heap.size ≤ g6 := Nat.le_trans (HB0.out.trans (HB5.out.mono HB0.out.size)).size hg6
        have hR := Kd.R_below (Kd.R_lower HO6.out (HB0.out.trans (HB5.out.mono HB0.out.size)).size) hb
        have e := (Kd.R_seg hR (m : Int) (by omega) (by omega) (c := [.int .i64 z.f0, .int .i64 z.f1]) (seg := [.int .i64 cx, .int .i64 cy]) (j := 0) (okp := fun _ => False) rfl (fun j u hj => by
          rw [Int.toNat_natCast]
          match j, hj with
          | 0, hj => (obtain rfl := oI hj; exact y0)
          | 1, hj => (obtain rfl := oI hj; exact y1)) (Nat.le_refl 2) (x' := ⟨cx, cy⟩) (k47_mkM _ _ _ ⟨cx, cy⟩) (fun _ h => h.elim)).1
        rw [Int.toNat_natCast] at e
        exact ⟨e, below_set (below_set (below_step HBw.out hb) hw5) hw5⟩)
      clear v0 v1 hx hy hc5 hc6 hg5 hl5 hz HFB HV5
      go_region_with ((go_at_call 49; refine (HCd.out _).mono ?_; rintro e w7 ⟨rfl, hb7⟩; obtain ⟨_, _, v0, v1, v2, v3, hb8⟩ := HK.out w7 (by first | exact hb7 | exact below_step (below_drew (Below.refl _ _)) hb7); have HB8 := Aside0.mk hb8; clear hb7 hb8))
      all_goals
        obtain ⟨hR7, hB7⟩ := HST.out w7 HB8.out v0 v1
        have HR7 := Aside0.mk hR7
        have HB7 := Aside0.mk hB7
        clear hR7 hB7 v0 v1 v2 v3 u0 u1
        generalize ((w7.setCell ⟨g6, m * 2, none⟩ (.int .i64 cx)).setCell ⟨g6, m * 2 + 1, none⟩ (.int .i64 cy)) = W8 at HR7 HB7 ⊢
        go_wp2_with (go_at_call 55; refine (impl_ordered.calls (fun _ => True) _ (l1.set m ⟨cx, cy⟩) res w W8 HB7.out HR7.out HRs.out).mono ?_; rintro e w9 ⟨v9, rfl, hr9, hb9, _⟩)
        go_ret2
        exact ⟨_, rfl, Kd.R_mono hr9 (fun _ _ => trivial), hb9⟩
end Go.Proofs.Ytdeenfpcmaadcaa.Pr
/- What the law of FlipDiagonal computes: true, where each test holds. -/
namespace Go.Proofs.Ytdeenfpcmaadcaa.Pr
open Go.RowKit Go.Proofs.YtdeenfpcmaadcaaW.PrintWords Go.Proofs.YtdeenfpcmaadcaaW.PrintLast Go.Proofs.YtdeenfpcmaadcaaW.PrintMore
abbrev LC := S49
def laws_FnExactFlipDiagonal.f (k : Nat) (a0 : Int) (l1 : List LC) (a2 : Int) : Option Bool :=
  (laws_szChordS.f l1 1048576).bind fun s => if s < 0 then some true else (laws_toChordS.f k l1).bind fun c => (spec_FlipDiagonal.f k a0 c a2).bind fun v => (impl_FlipDiagonal.f k a0 c a2).bind fun g =>
    if g = v ∧ g.1.length ≤ 1000000 then (laws_eqChordS.f k g.1 g.1).bind fun e1 => (laws_eqChordS.f k c c).bind fun e2 => (laws_markChordS.f k c 1).bind fun m1 => (laws_markChordS.f k g.1 1).bind fun m2 => (laws_heldChordS.f k m2.2 1).bind fun h =>
      if e1 = true ∧ e2 = true ∧ ¬ m1.1 < 0 ∧ ¬ m2.1 < 0 ∧ h = m2.1 ∧ m2.2.length = g.1.length then some true else none
    else none
theorem laws_FnExactFlipDiagonal.mono : ∀ a0 a1 a2 k, LeO (laws_FnExactFlipDiagonal.f k a0 a1 a2) (laws_FnExactFlipDiagonal.f (k + 1) a0 a1 a2) := by
  intro a0 a1 a2 k
  unfold laws_FnExactFlipDiagonal.f
  exact LeO.bind (LeO.refl _) (fun _ => LeO.ite (LeO.refl _) (LeO.bind (laws_toChordS.mono _ _) (fun _ => LeO.bind (spec_FlipDiagonal.mono _ _ _ _) (fun _ => LeO.bind (impl_FlipDiagonal.mono _ _ _ _) (fun _ =>
    LeO.ite (LeO.bind (laws_eqChordS.mono _ _ _) (fun _ => LeO.bind (laws_eqChordS.mono _ _ _) (fun _ => LeO.bind (laws_markChordS.mono _ _ _) (fun _ => LeO.bind (laws_markChordS.mono _ _ _) (fun _ => LeO.bind (laws_heldChordS.mono _ _ _) (fun _ => LeO.refl _)))))) (LeO.refl _))))))
/-- What is held: the reference's rows, the chords, the program's rows, one made behind the other. -/
structure LSS (w W : World) (n1 n2 n3 : Nat) (Aw : Option Addr) (cw : Nat) (ws : List FC) (vx : Value) (xs : List FC) (vg : Value) (gs : List FC) : Prop where
  bl : Below w.heap.size w W
  n : n3 ≤ W.heap.size
  n12 : n1 ≤ n2
  ws : Kd.R k47 47 W w.heap.size (fun k => k < n1) (.slice Aw ws.length cw) ws
  xs : Kd.R k47 47 W w.heap.size (fun k => n1 ≤ k ∧ k < n2) vx xs
  gs : Kd.R k47 47 W w.heap.size (fun k => n2 ≤ k ∧ k < n3) vg gs
section
variable {w W W' W1 W2 W3 W4 : World} {n1 n2 n3 : Nat} {Aw : Option Addr} {cw : Nat} {ws : List FC} {vw vx : Value} {xs : List FC} {vg : Value} {gs : List FC}
theorem LSS.go (h : LSS w W n1 n2 n3 Aw cw ws vx xs vg gs) (hb : Below W.heap.size W W') : LSS w W' n1 n2 n3 Aw cw ws vx xs vg gs :=
  ⟨below_step h.bl hb, Nat.le_trans h.n hb.size, h.n12, Kd.R_below h.ws hb, Kd.R_below h.xs hb, Kd.R_below h.gs hb⟩
theorem LSS.new (h1 : Below w.heap.size w W1) (hs : Kd.R k47 47 W2 W1.heap.size (fun _ => True) (.slice Aw ws.length cw) ws) (h2 : Below W1.heap.size W1 W2)
    (hx : Kd.R k47 47 W3 W2.heap.size (fun _ => True) vx xs) (h3 : Below W2.heap.size W2 W3) (hg : Kd.R k47 47 W4 W3.heap.size (fun _ => True) vg gs) (h4 : Below W3.heap.size W3 W4) : LSS w W4 W2.heap.size W3.heap.size W4.heap.size Aw cw ws vx xs vg gs := by
  have b2 := below_step h1 h2
  have b3 := below_step b2 h3
  refine ⟨below_step b3 h4, Nat.le_refl _, h3.size, Kd.R_below (Kd.R_below (Kd.R_lower (Kd.R_mono (Kd.R_bound hs) (fun k hk => hk.2.2.1)) h1.size) h3) h4, Kd.R_below (Kd.R_lower (Kd.R_mono (Kd.R_bound hx) (fun k hk => ⟨hk.2.1, hk.2.2.1⟩)) b2.size) h4, Kd.R_lower (Kd.R_mono (Kd.R_bound hg) (fun k hk => ⟨hk.2.1, hk.2.2.1⟩)) b3.size⟩
theorem LSS.markC (h : LSS w W n1 n2 n3 Aw cw ws vx xs vg gs) {ys : List FC} {P : Nat → Prop} (hr : Kd.R k47 47 W' w.heap.size P vx ys) (hb : Below w.heap.size w W') (hk : Kept W W' (fun k => n1 ≤ k ∧ k < n2)) : LSS w W' n1 n2 n3 Aw cw ws vx ys vg gs :=
  ⟨hb, Nat.le_trans h.n hk.1, h.n12, Kd.R_kept h.ws hk (fun k h1 h2 => by have := h.n12; omega), Kd.R_mono (Kd.R_tight rfl hr) (fun k hk => h.xs.1 k hk.symm), Kd.R_kept h.gs hk (fun k h1 h2 => by omega)⟩
theorem LSS.markG (h : LSS w W n1 n2 n3 Aw cw ws vx xs vg gs) {ys : List FC} {P : Nat → Prop} (hr : Kd.R k47 47 W' w.heap.size P vg ys) (hb : Below w.heap.size w W') (hk : Kept W W' (fun k => n2 ≤ k ∧ k < n3)) : LSS w W' n1 n2 n3 Aw cw ws vx xs vg ys :=
  ⟨hb, Nat.le_trans h.n hk.1, h.n12, Kd.R_kept h.ws hk (fun k h1 h2 => by have := h.n12; omega), Kd.R_kept h.xs hk (fun k h1 h2 => by omega), Kd.R_mono (Kd.R_tight rfl hr) (fun k hk => h.gs.1 k hk.symm)⟩
end
theorem ss_drawn {f : Nat} {vs : Array Value} {W : World} {v : Value} (h : Calls Try.prog f vs W fun e w' => e = .returned v ∧ Drawn0 W w') : Calls Try.prog f vs W fun e w' => e = .returned v ∧ Below W.heap.size W w' :=
  h.mono fun _ _ h => ⟨h.1, by obtain ⟨n, rfl⟩ := h.2.out; exact pw_below_drewN (Below.refl _ _) n⟩
theorem ss_if {c : Prop} [Decidable c] {α : Type} {x : Option α} {r : α} (h : (if c then x else none) = some r) : c ∧ x = some r := by
  split at h
  · exact ⟨by assumption, h⟩
  · cases h
set_option maxHeartbeats 4000000 in
set_option maxRecDepth 100000 in
theorem laws_FnExactFlipDiagonal.calls (k : Nat) (a0 : Int) (A1 : Option Addr) (c1 : Nat) (l1 : List LC) (a2 : Int) (r : Bool) (w : World) (hr1 : Kd.C k49 w A1 l1.length l1) (hc1 : l1.length ≤ c1) (h : laws_FnExactFlipDiagonal.f k a0 l1 a2 = some r) :
    Calls Try.prog 6 #[.int .i64 a0, .slice A1 l1.length c1, .int .i64 a2] w fun e w' => e = .returned (.bool r) ∧ Below w.heap.size w w' := by
  unfold laws_FnExactFlipDiagonal.f at h
  obtain ⟨s, hs, h⟩ := bI h
  have HS := Aside0.mk (ss_drawn (laws_szChordS.calls A1 c1 l1 1048576 s w hr1 hc1 hs))
  clear hs
  by_cases h0 : s < 0
  · rw [if_pos h0] at h
    obtain rfl := oI h
    have e0 : decide (s < 0) = true := decide_eq_true h0
    clear h hr1 h0
    go_enter Try.func6, Try.ntmps6
    go_wp2_with (go_at_call 9; refine HS.out.mono ?_; rintro e w1 ⟨rfl, hb1⟩)
    go_ret
    exact ⟨rfl, hb1⟩
  · rw [if_neg h0] at h
    obtain ⟨c, hc, h⟩ := bI h
    obtain ⟨⟨gs, gb⟩, hv, h⟩ := bI h
    obtain ⟨g, hg, h⟩ := bI h
    obtain ⟨⟨q1, q2⟩, h⟩ := ss_if h
    subst q1
    obtain ⟨e1, he1, h⟩ := bI h
    obtain ⟨e2, he2, h⟩ := bI h
    obtain ⟨⟨m1, ys⟩, hm1, h⟩ := bI h
    obtain ⟨⟨m2, zs⟩, hm2, h⟩ := bI h
    obtain ⟨hh, hh1, h⟩ := bI h
    obtain ⟨⟨q4, q5, q6, q8, q7, q9⟩, h⟩ := ss_if h
    obtain rfl := oI h
    dsimp only at q2 q6 q7 q8 q9 he1 hm2 hh1
    have q7' := q7
    subst q4 q5
    have CT := Aside0.mk (fun (W : World) (hb : Below w.heap.size w W) => laws_toChordS.calls k A1 c1 l1 c W (Kd.C_below hr1 hb) hc1 hc)
    have CV := Aside0.mk (fun (A : Option Addr) (d : Nat) (W : World) (hC : Kd.C k47 W A c.length c) (hd : c.length ≤ d) => spec_FlipDiagonal.calls k a0 A d c a2 gs gb W hC hd hv)
    have CG := Aside0.mk (fun (A : Option Addr) (d : Nat) (W : World) (hC : Kd.C k47 W A c.length c) (hd : c.length ≤ d) => impl_FlipDiagonal.calls k a0 A d c a2 gs gb W hC hd hg)
    have CE := Aside0.mk (fun (A : Option Addr) (d : Nat) (B : Option Addr) (d2 : Nat) (W : World) (hC : Kd.C k47 W A gs.length gs) (hd : gs.length ≤ d) (hC2 : Kd.C k47 W B gs.length gs) (hd2 : gs.length ≤ d2) => laws_eqChordS.calls k A d gs B d2 gs true W hC hd hC2 hd2 he1)
    have CC := Aside0.mk (fun (A : Option Addr) (d : Nat) (B : Option Addr) (d2 : Nat) (W : World) (hC : Kd.C k47 W A c.length c) (hd : c.length ≤ d) (hC2 : Kd.C k47 W B c.length c) (hd2 : c.length ≤ d2) => laws_eqChordS.calls k A d c B d2 c true W hC hd hC2 hd2 he2)
    have CM := Aside0.mk (fun (P : Nat → Prop) (v : Value) (W : World) (hB : Below w.heap.size w W) (ho : Kd.R k47 47 W w.heap.size P v c) => laws_markChordS.calls k P v c 1 m1 ys w W hB ho hm1)
    have CS := Aside0.mk (fun (P : Nat → Prop) (v : Value) (W : World) (hB : Below w.heap.size w W) (ho : Kd.R k47 47 W w.heap.size P v gs) => laws_markChordS.calls k P v gs 1 m2 zs w W hB ho hm2)
    have CH_ := Aside0.mk (fun (A : Option Addr) (d : Nat) (W : World) (hC : Kd.C k47 W A zs.length zs) (hd : gs.length ≤ d) => (show Calls Try.prog 27 #[.slice A gs.length d, .int .i64 1] W fun e w' => e = .returned (.int .i64 m2) ∧ Below W.heap.size W w' by
      have e := ss_drawn (laws_heldChordS.calls k A d zs 1 m2 W hC (by rw [q9]; exact hd) (by rw [← q7']; exact hh1))
      rwa [q9] at e))
    have e0 : decide (s < 0) = false := decide_eq_false h0
    have e3 : decide (m1 < 0) = false := decide_eq_false q6
    have e4 : decide (m2 < 0) = false := decide_eq_false q8
    have HQ9 := Aside0.mk q9
    have HR1 := Aside0.mk hr1
    clear q7 q7' hc hv hg he1 he2 hm1 hm2 hh1 h h0 q2 q6 q8 q9 hr1 hc1
    go_enter Try.func6, Try.ntmps6
    go_upto_region 8 with (first | (go_at_call 9; refine HS.out.mono ?_; rintro e w1 ⟨rfl, hb1⟩; have HB := Aside0.mk hb1; clear hb1 HS) | (go_at_call 11; refine (CT.out _ HB.out).mono ?_; rintro e w2 ⟨v0, rfl, hr2, hb2⟩; obtain ⟨Ax, cx, ev, hcx, hCx⟩ := Kd.R_reads hr2; subst ev; have HX := Aside0.mk hr2; have HXC := Aside0.mk hCx; have HXc := Aside0.mk hcx; have HXB := Aside0.mk hb2; have HB2 := Aside0.mk (below_step HB.out hb2); have HBo := HB; clear HB hr2 hb2 hCx hcx; have HB := HB2; clear HB2) | (go_at_call 25; refine (CV.out _ _ _ HXC.out HXc.out).mono ?_; rintro e w3 ⟨v1, rfl, hs3, hb3⟩; obtain ⟨Aw, cw, ev⟩ := Kd.R_slice hs3; subst ev; have HV := Aside0.mk hs3; have HVB := Aside0.mk hb3; have HBv := HB; have HB2 := Aside0.mk (below_step HB.out hb3); clear HB hs3 hb3 HX HXC HXc HXB HBo; have HB := HB2; clear HB2) | (go_at_call 26; refine (CG.out _ _ _ HXC.out HXc.out).mono ?_; rintro e w4 ⟨v2, rfl, hs4, hb4⟩; obtain ⟨Ag, cg, ev⟩ := Kd.R_slice hs4; subst ev; have HL := Aside0.mk (LSS.new HBv.out HV.out HVB.out HX.out HXB.out hs4 hb4); clear HB hs4 hb4 HX HXC HXc HXB HBo HV HVB HBv))
    go_upto_region 10 with (go_at_call 14; refine (CE.out _ _ _ _ _ (Kd.R_reads' HL.out.gs).2.2 (Kd.R_reads' HL.out.gs).2.1 (Kd.R_reads' HL.out.ws).2.2 (Kd.R_reads' HL.out.ws).2.1).mono ?_; rintro e w5 ⟨rfl, hb⟩; have HL2 := Aside0.mk (HL.out.go hb); clear HL hb; have HL := HL2; clear HL2)
    go_upto_region 13 with (first | (go_at_call 11; refine (CT.out _ HL.out.bl).mono ?_; rintro e w6 ⟨v6, rfl, hr6, hb⟩; obtain ⟨Ay, cy, ev, hcy, hCy⟩ := Kd.R_reads hr6; subst ev; have HYC := Aside0.mk hCy; have HYc := Aside0.mk hcy; clear hr6 hCy hcy; have HL2 := Aside0.mk (HL.out.go hb); clear HL hb; have HL := HL2; clear HL2) | (go_at_call 14; refine (CC.out _ _ _ _ _ (Kd.R_reads' HL.out.xs).2.2 (Kd.R_reads' HL.out.xs).2.1 HYC.out HYc.out).mono ?_; rintro e w7 ⟨rfl, hb⟩; clear HYC HYc; have HL2 := Aside0.mk (HL.out.go hb); clear HL hb; have HL := HL2; clear HL2))
    go_upto_region 16 with (first | (go_at_call 15; refine (CM.out _ _ _ HL.out.bl HL.out.xs).mono ?_; rintro e w8 ⟨rfl, hr8, hb8, hk8⟩; have HL2 := Aside0.mk (HL.out.markC hr8 hb8 hk8); clear HL hr8 hb8 hk8; have HL := HL2; clear HL2) | (go_at_call 14; refine (CE.out _ _ _ _ _ (Kd.R_reads' HL.out.gs).2.2 (Kd.R_reads' HL.out.gs).2.1 (Kd.R_reads' HL.out.ws).2.2 (Kd.R_reads' HL.out.ws).2.1).mono ?_; rintro e w5 ⟨rfl, hb⟩; have HL2 := Aside0.mk (HL.out.go hb); clear HL hb; have HL := HL2; clear HL2))
    go_upto_region 24 with (first | (go_at_call 15; refine (CS.out _ _ _ HL.out.bl HL.out.gs).mono ?_; rintro e w9 ⟨rfl, hr9, hb9, hk9⟩; have HL2 := Aside0.mk (HL.out.markG hr9 hb9 hk9); clear HL hr9 hb9 hk9; have HL := HL2; clear HL2) | (go_at_call 27; refine (CH_.out _ _ _ (Kd.R_reads' HL.out.gs).2.2 (by have e := (Kd.R_reads' HL.out.gs).2.1; exact e)).mono ?_; rintro e w10 ⟨rfl, hb⟩; have HL2 := Aside0.mk (HL.out.go hb); clear HL hb; have HL := HL2; clear HL2))
    go_wp2_with (first | (go_at_call 11; refine (CT.out _ HL.out.bl).mono ?_; rintro e w6 ⟨v6, rfl, hr6, hb⟩; obtain ⟨Ay, cy, ev, hcy, hCy⟩ := Kd.R_reads hr6; subst ev; have HYC := Aside0.mk hCy; have HYc := Aside0.mk hcy; clear hr6 hCy hcy; have HL2 := Aside0.mk (HL.out.go hb); clear HL hb; have HL := HL2; clear HL2) | (go_at_call 26; refine (CG.out _ _ _ HYC.out HYc.out).mono ?_; rintro e w4 ⟨v2, rfl, hs4, hb⟩; obtain ⟨Ah, ch, ev, hch, hCh⟩ := Kd.R_reads hs4; subst ev; have HHC := Aside0.mk hCh; have HHc := Aside0.mk hch; clear hs4 hCh hch HYC HYc; have HL2 := Aside0.mk (HL.out.go hb); clear HL hb; have HL := HL2; clear HL2) | (go_at_call 14; refine (CE.out _ _ _ _ _ HHC.out HHc.out (Kd.R_reads' HL.out.ws).2.2 (Kd.R_reads' HL.out.ws).2.1).mono ?_; rintro e w5 ⟨rfl, hb⟩; clear HHC HHc; have HL2 := Aside0.mk (HL.out.go hb); clear HL hb; have HL := HL2; clear HL2) | (go_at_call 27; refine (CH_.out _ _ _ (Kd.R_reads' HL.out.gs).2.2 (by have e := (Kd.R_reads' HL.out.gs).2.1; exact e)).mono ?_; rintro e w10 ⟨rfl, hb⟩; have HL2 := Aside0.mk (HL.out.go hb); clear HL hb; have HL := HL2; clear HL2))
    go_ret
    exact ⟨by first | rfl | simp, HL.out.bl⟩
end Go.Proofs.Ytdeenfpcmaadcaa.Pr
namespace Go.Proofs.Ytdeenfpcmaadcaa.Pr
open Go.RowKit Go.Proofs.YtdeenfpcmaadcaaW.PrintWords Go.Proofs.YtdeenfpcmaadcaaW.PrintLast Go.Proofs.YtdeenfpcmaadcaaW.PrintMore
attribute [local go_sem] max2_int min2_int max_two min_two max_three min_three max_four min_four
attribute [local go_sem high] eqA47
mutual
def impl_regionInside.j0 : Nat → List (S47) → Bool → Int → Int → List Int → List (S47) → List Int → Option (List Int × (List (S47)) × List Int)
 | 0, _, _, _, _, _, _, _ => none
 | k + 1, x0, x2, x115000, x115001, x120000, x120001, x120002 => impl_regionInside.l0 k x0 x2 x115000 x115000 x115001 x120000 x120001 x120002
def impl_regionInside.l0 : Nat → List (S47) → Bool → Int → Int → Int → List Int → List (S47) → List Int → Option (List Int × (List (S47)) × List Int)
 | 0, _, _, _, _, _, _, _, _ => none
 | k + 1, x0, x2, x8, x115000, x115001, x120000, x120001, x120002 => if x8 < x115001 then (impl_regionInside.l1 k x0 x2 x8 x8 x0 (x0.length : Int) 0 x115000 x115001 x120000 x120001 x120002) else (some (x120000, x120001, x120002))
def impl_regionInside.l1 : Nat → List (S47) → Bool → Int → Int → List (S47) → Int → Int → Int → Int → List Int → List (S47) → List Int → Option (List Int × (List (S47)) × List Int)
 | 0, _, _, _, _, _, _, _, _, _, _, _, _ => none
 | k + 1, x0, x2, x8, x9, x37, x38, x39, x115000, x115001, x120000, x120001, x120002 => if x39 < x38 then (if 0 ≤ x39 then (if x39 < (x37.length : Int) then (if ((rd_T47 x37 x39).f0) = x8 then (if ((rd_T47 x37 x39).f1) ≤ x115001 then (if ((rd_T47 x37 x39).f1) > x9 then (if x2 = true then (if ((((rd_T47 x37 x39).f0) == x115000 && (((rd_T47 x37 x39).f1) == x115001)) = true) then (impl_regionInside.l1 k x0 x2 x8 x9 x37 x38 (wrap64 (x39 + 1)) x115000 x115001 x120000 x120001 x120002) else (impl_regionInside.l1 k x0 x2 x8 ((rd_T47 x37 x39).f1) x37 x38 (wrap64 (x39 + 1)) x115000 x115001 x120000 x120001 x120002)) else (impl_regionInside.l1 k x0 x2 x8 ((rd_T47 x37 x39).f1) x37 x38 (wrap64 (x39 + 1)) x115000 x115001 x120000 x120001 x120002)) else (impl_regionInside.l1 k x0 x2 x8 x9 x37 x38 (wrap64 (x39 + 1)) x115000 x115001 x120000 x120001 x120002)) else (impl_regionInside.l1 k x0 x2 x8 x9 x37 x38 (wrap64 (x39 + 1)) x115000 x115001 x120000 x120001 x120002)) else (impl_regionInside.l1 k x0 x2 x8 x9 x37 x38 (wrap64 (x39 + 1)) x115000 x115001 x120000 x120001 x120002)) else (none)) else (none)) else (if x9 > x8 then (if x120001.length < 8796093022208 then (if x120000.length < 17592186044416 then (impl_regionInside.l0 k x0 x2 x9 x115000 x115001 (x120000 ++ [x9]) (x120001 ++ [(⟨x8, x9⟩ : S47)]) x120002) else (none)) else (none)) else (if x120002.length < 17592186044416 then (if x120000.length < 17592186044416 then (impl_regionInside.l0 k x0 x2 (wrap64 (x8 + 1)) x115000 x115001 (x120000 ++ [wrap64 (x8 + 1)]) x120001 (x120002 ++ [x8])) else (none)) else (none)))
end
def impl_regionInside.f (k : Nat) (l0 : List (S47)) (a1_0 : Int) (a1_1 : Int) (a2 : Bool) : Option (List Int × (List (S47)) × List Int) := (some (([a1_0] : List Int) : List Int)).bind fun y116 => (if a2 = true then (if ([] : List (S47)).length < 8796093022208 then (impl_regionInside.j0 k l0 a2 a1_0 a1_1 y116 (([] : List (S47)) ++ [(⟨a1_0, a1_1⟩ : S47)]) ([] : List Int)) else (none)) else (if ([] : List Int).length < 17592186044416 then (impl_regionInside.j0 k l0 a2 a1_0 a1_1 y116 ([] : List (S47)) (([] : List Int) ++ [a1_1])) else (none)))
theorem impl_regionInside.mono_l : ∀ k, (∀ y0 y1 y2 y3 y4 y5 y6, LeO (impl_regionInside.j0 k y0 y1 y2 y3 y4 y5 y6) (impl_regionInside.j0 (k + 1) y0 y1 y2 y3 y4 y5 y6)) ∧ (∀ y0 y1 y2 y3 y4 y5 y6 y7, LeO (impl_regionInside.l0 k y0 y1 y2 y3 y4 y5 y6 y7) (impl_regionInside.l0 (k + 1) y0 y1 y2 y3 y4 y5 y6 y7)) ∧ (∀ y0 y1 y2 y3 y4 y5 y6 y7 y8 y9 y10 y11, LeO (impl_regionInside.l1 k y0 y1 y2 y3 y4 y5 y6 y7 y8 y9 y10 y11) (impl_regionInside.l1 (k + 1) y0 y1 y2 y3 y4 y5 y6 y7 y8 y9 y10 y11))
 | 0 => ⟨fun _ _ _ _ _ _ _ r h => by simp [impl_regionInside.j0] at h, fun _ _ _ _ _ _ _ _ r h => by simp [impl_regionInside.l0] at h, fun _ _ _ _ _ _ _ _ _ _ _ _ r h => by simp [impl_regionInside.l1] at h⟩
 | k + 1 => by
  obtain ⟨ih0, ih1, ih2⟩ := impl_regionInside.mono_l k
  refine ⟨?_, ?_, ?_⟩
  ·intro y0 y1 y2 y3 y4 y5 y6
   unfold impl_regionInside.j0
   repeat' first
   | (with_reducible exact ih0 _ _ _ _ _ _ _)
   | (with_reducible exact ih1 _ _ _ _ _ _ _ _)
   | (with_reducible exact ih2 _ _ _ _ _ _ _ _ _ _ _ _)
   | (with_reducible exact LeO.refl _)
   | (with_reducible exact LeO.none _)
   | (with_reducible refine LeO.ite ?_ ?_)
   | (with_reducible refine LeO.bind ?_ (fun _ => ?_))
   | exact ih0 _ _ _ _ _ _ _
   | exact ih1 _ _ _ _ _ _ _ _
   | exact ih2 _ _ _ _ _ _ _ _ _ _ _ _
   | exact LeO.none _
   | refine LeO.ite ?_ ?_
   | refine LeO.bind ?_ (fun _ => ?_)
  ·intro y0 y1 y2 y3 y4 y5 y6 y7
   unfold impl_regionInside.l0
   repeat' first
   | (with_reducible exact ih0 _ _ _ _ _ _ _)
   | (with_reducible exact ih1 _ _ _ _ _ _ _ _)
   | (with_reducible exact ih2 _ _ _ _ _ _ _ _ _ _ _ _)
   | (with_reducible exact LeO.refl _)
   | (with_reducible exact LeO.none _)
   | (with_reducible refine LeO.ite ?_ ?_)
   | (with_reducible refine LeO.bind ?_ (fun _ => ?_))
   | exact ih0 _ _ _ _ _ _ _
   | exact ih1 _ _ _ _ _ _ _ _
   | exact ih2 _ _ _ _ _ _ _ _ _ _ _ _
   | exact LeO.none _
   | refine LeO.ite ?_ ?_
   | refine LeO.bind ?_ (fun _ => ?_)
  ·intro y0 y1 y2 y3 y4 y5 y6 y7 y8 y9 y10 y11
   unfold impl_regionInside.l1
   repeat' first
   | (with_reducible exact ih0 _ _ _ _ _ _ _)
   | (with_reducible exact ih1 _ _ _ _ _ _ _ _)
   | (with_reducible exact ih2 _ _ _ _ _ _ _ _ _ _ _ _)
   | (with_reducible exact LeO.refl _)
   | (with_reducible exact LeO.none _)
   | (with_reducible refine LeO.ite ?_ ?_)
   | (with_reducible refine LeO.bind ?_ (fun _ => ?_))
   | exact ih0 _ _ _ _ _ _ _
   | exact ih1 _ _ _ _ _ _ _ _
   | exact ih2 _ _ _ _ _ _ _ _ _ _ _ _
   | exact LeO.none _
   | refine LeO.ite ?_ ?_
   | refine LeO.bind ?_ (fun _ => ?_)
theorem impl_regionInside.mono : ∀ a0 a1 a2 a3 k, LeO (impl_regionInside.f k a0 a1 a2 a3) (impl_regionInside.f (k + 1) a0 a1 a2 a3) := by
 intro a0 a1 a2 a3 k
 obtain ⟨ih0, ih1, ih2⟩ := impl_regionInside.mono_l k
 unfold impl_regionInside.f
 repeat' first
   | (with_reducible exact ih0 _ _ _ _ _ _ _)
   | (with_reducible exact ih1 _ _ _ _ _ _ _ _)
   | (with_reducible exact ih2 _ _ _ _ _ _ _ _ _ _ _ _)
   | (with_reducible exact LeO.refl _)
   | (with_reducible exact LeO.none _)
   | (with_reducible refine LeO.ite ?_ ?_)
   | (with_reducible refine LeO.bind ?_ (fun _ => ?_))
   | exact ih0 _ _ _ _ _ _ _
   | exact ih1 _ _ _ _ _ _ _ _
   | exact ih2 _ _ _ _ _ _ _ _ _ _ _ _
   | exact LeO.none _
   | refine LeO.ite ?_ ?_
   | refine LeO.bind ?_ (fun _ => ?_)
set_option maxHeartbeats 8000000 in
set_option maxRecDepth 100000 in
theorem impl_regionInside.calls (k : Nat) (A0 : Option Addr) (c0 : Nat) (l0 : List (S47)) (a1_0 : Int) (a1_1 : Int) (a2 : Bool) (r1 : List Int) (r2 : List (S47)) (r3 : List Int) (w : World) (hr0 : Kd.C k47 w A0 l0.length l0) (hc0 : l0.length ≤ c0) (h : impl_regionInside.f k l0 a1_0 a1_1 a2 = some (r1, r2, r3)) :
  Calls Try.prog 63 #[.slice A0 l0.length c0, .agg #[.int .i64 a1_0, .int .i64 a1_1], .bool a2] w fun e w' => ∃ v0_ v1_ v2_ : Value, e = .returned (.agg #[v0_, v1_, v2_]) ∧ Kd.R (Kd.int .i64) 3 w' w.heap.size (fun k_ => some k_ ≠ (v2_ : Value).ownBlock) v0_ r1 ∧ Kd.R k47 47 w' w.heap.size (fun _ => True) v1_ r2 ∧ Kd.R (Kd.int .i64) 3 w' w.heap.size (fun k_ => some k_ ≠ (v0_ : Value).ownBlock) v2_ r3 ∧ Below w.heap.size w w' := by
 have hu47 := Try.underlying47
 have hu54 := Try.underlying54
 have HR0 := Aside0.mk hr0
 have HC0 := Aside0.mk hc0
 clear hr0 hc0
 have HB := Aside0.mk (Below.refl w.heap.size w)
 have H : ((some (([a1_0] : List Int) : List Int)).bind fun y116 => (if a2 = true then (if ([] : List (S47)).length < 8796093022208 then (impl_regionInside.j0 k l0 a2 a1_0 a1_1 y116 (([] : List (S47)) ++ [(⟨a1_0, a1_1⟩ : S47)]) ([] : List Int)) else (none)) else (if ([] : List Int).length < 17592186044416 then (impl_regionInside.j0 k l0 a2 a1_0 a1_1 y116 ([] : List (S47)) (([] : List Int) ++ [a1_1])) else (none)))) = some (r1, r2, r3) := h
 clear h
 obtain ⟨y116, hy116⟩ : ∃ y_ : List Int, y_ = (([a1_0] : List Int)) := ⟨_, rfl⟩
 replace H : (if a2 = true then (if ([] : List (S47)).length < 8796093022208 then (impl_regionInside.j0 k l0 a2 a1_0 a1_1 y116 (([] : List (S47)) ++ [(⟨a1_0, a1_1⟩ : S47)]) ([] : List Int)) else (none)) else (if ([] : List Int).length < 17592186044416 then (impl_regionInside.j0 k l0 a2 a1_0 a1_1 y116 ([] : List (S47)) (([] : List Int) ++ [a1_1])) else (none))) = some (r1, r2, r3) := by first | (rw [hy116]; with_reducible exact H) | (have H2_ := (Option.bind_some _ _).symm.trans H; rw [hy116]; with_reducible exact H2_) | (have H2_ := (Option.bind_some _ _).symm.trans H; with_reducible exact H2_) | with_reducible exact H | (rw [hy116]; exact H) | exact H
 have Ny116 := Aside0.mk hy116
 clear hy116
 have HC4 := Aside0.mk H
 clear H
 go_enter Try.func63, Try.ntmps63
 go_upto_if 16 with (first | ((with_reducible refine gate_dst (N := 4) rfl ?_); refine box_event ?hg (N := 4) ?hd (cs := #[.int .i64 a1_0, .int .i64 a1_1]) (t := 47) ?hr ?_; (case hd => rfl); (case hg => rfl); (case hr => first | (go_simp; done) | (go_simp; rfl)); intro gb114 hg w5 hbox hb; have n0_ := Aside0.mk (below_step hb_ hb); have n1_ := Aside0.mk (hbox); have n2_ := Aside0.mk ((by rw [hg]; exact (below_size hb_) : w.heap.size ≤ gb114)); have n3_ := Aside0.mk ((by rw [hg]; exact (below_size hb_) : w.heap.size ≤ gb114)); clear HB; have HB := n0_; have BK114 := n1_; have GW114 := n2_; have GE114 := n3_; clear n0_ n1_ n2_ n3_; clear hb hbox hg) | ((with_reducible refine gate_dst (N := 6) rfl ?_); refine box_event ?hg (N := 6) ?hd (cs := #[.slice none 0 0, .slice none 0 0, .slice none 0 0]) (t := 54) ?hr ?_; (case hd => rfl); (case hg => rfl); (case hr => first | (go_simp; done) | (go_simp; rfl)); intro gb115 hg w6 hbox hb; have n0_ := Aside0.mk (blk_below (g := gb114) (o := .cells #[.int .i64 a1_0, .int .i64 a1_1] 47 (0, 0)) (kx_ BK114.out) hb); have n1_ := Aside0.mk (below_step (hs_ GE114.out) hb); have n2_ := Aside0.mk (hbox); have n3_ := Aside0.mk ((by rw [hg]; exact (below_size (hs_ GE114.out)) : w.heap.size ≤ gb115)); have n4_ := Aside0.mk ((by rw [hg]; exact (below_size (hs_ GE114.out)) : w.heap.size ≤ gb115)); have n5_ := Aside0.mk ((by rw [hg]; exact Nat.ne_of_lt (blk_lt (g := gb114) (o := .cells #[.int .i64 a1_0, .int .i64 a1_1] 47 (0, 0)) (kx_ BK114.out)) : gb114 ≠ gb115)); have n6_ := Aside0.mk ((by rw [hg]; exact Nat.ne_of_gt (blk_lt (g := gb114) (o := .cells #[.int .i64 a1_0, .int .i64 a1_1] 47 (0, 0)) (kx_ BK114.out)) : gb115 ≠ gb114)); clear BK114; clear HB; have BK114 := n0_; have HB := n1_; have BK115 := n2_; have GW115 := n3_; have GE115 := n4_; have NB114_115 := n5_; have NB115_114 := n6_; clear n0_ n1_ n2_ n3_ n4_ n5_ n6_; clear hb hbox hg; have hnb7 := NB114_115.out; have hnc7 := NB115_114.out; have hcz8_0 : w6.cell? ⟨gb114, 0, none⟩ = some (.int .i64 a1_0) := bc_ BK114 0; have hcz8_1 : w6.cell? ⟨gb114, 1, none⟩ = some (.int .i64 a1_1) := bc_ BK114 1; have hfz8_0 := blk_frozen BK114.out 0; have hfz8_1 := blk_frozen BK114.out 1) | ((with_reducible refine gate_dst (N := 14) rfl ?_); refine Kd.R_lit (Kd.int .i64) _ 3 ?hg (N := 14) ?hd (xs := ([a1_0] : List Int)) (inner := [.int .i64 a1_0]) (ok := fun _ => True) (okp := fun _ => True) ?hr ?hp (fun _ hk => hk) trivial (Below.refl _ _) (Nat.le_refl _) (by simp) ?_; (case hd => rfl); (case hg => rfl); (case hr => first | (go_simp; done) | (go_simp; rfl)); (case hp => exact (Reps.one (show Kd.M (Kd.int .i64) _ _ _ a1_0 [.int .i64 a1_0] from rfl) (Reps.none _ _))); intro v117 w9 ho10 hb hg_ hnew_; clear hg_ hnew_; (first | rw [← Ny116.out] at ho10 | (simp only [Int.reduceToNat] at ho10; rw [← Ny116.out] at ho10)); have n0_ := Aside0.mk (Kd.R_lower ho10 (below_size (hm_))); have n1_ := Aside0.mk (blk_below (g := gb114) (o := .cells #[.int .i64 a1_0, .int .i64 a1_1] 47 (0, 0)) (kx_ BK114.out) hb); have n2_ := Aside0.mk (blk_below (g := gb115) (o := .cells #[.slice none 0 0, .slice none 0 0, .slice none 0 0] 54 (0, 0)) (kx_ BK115.out) hb); have n3_ := Aside0.mk (below_step (hm_) hb); clear BK114; clear BK115; clear HB; have HO118 := n0_; have BK114 := n1_; have BK115 := n2_; have HB := n3_; clear n0_ n1_ n2_ n3_; clear hb ho10; obtain ⟨Ao11, co11, eo11⟩ := Kd.R_slice HO118.out; subst eo11) | ((with_reducible refine gate_dst (N := 7) rfl ?_); refine box_event ?hg (N := 7) ?hd (cs := #[.slice none 0 0, .slice none 0 0, .slice none 0 0]) (t := 54) ?hr ?_; (case hd => rfl); (case hg => rfl); (case hr => first | (go_simp; done) | (go_simp; rfl)); intro gb119 hg w12 hbox hb; have n0_ := Aside0.mk (Kd.R_below (ra_ HO118.out) hb); have n1_ := Aside0.mk (blk_below (g := gb114) (o := .cells #[.int .i64 a1_0, .int .i64 a1_1] 47 (0, 0)) (kx_ BK114.out) hb); have n2_ := Aside0.mk (blk_below (g := gb115) (o := .cells #[.slice none 0 0, .slice none 0 0, .slice none 0 0] 54 (0, 0)) (kx_ BK115.out) hb); have n3_ := Aside0.mk (below_step (hm_) hb); have n4_ := Aside0.mk (hbox); have n5_ := Aside0.mk ((by rw [hg]; exact (below_size (hm_)) : w.heap.size ≤ gb119)); have n6_ := Aside0.mk ((by rw [hg]; exact (below_size (hm_)) : w.heap.size ≤ gb119)); have n7_ := Aside0.mk ((by rw [hg]; exact Nat.ne_of_lt (blk_lt (g := gb114) (o := .cells #[.int .i64 a1_0, .int .i64 a1_1] 47 (0, 0)) (kx_ BK114.out)) : gb114 ≠ gb119)); have n8_ := Aside0.mk ((by rw [hg]; exact Nat.ne_of_gt (blk_lt (g := gb114) (o := .cells #[.int .i64 a1_0, .int .i64 a1_1] 47 (0, 0)) (kx_ BK114.out)) : gb119 ≠ gb114)); have n9_ := Aside0.mk ((by rw [hg]; exact Nat.ne_of_lt (blk_lt (g := gb115) (o := .cells #[.slice none 0 0, .slice none 0 0, .slice none 0 0] 54 (0, 0)) (kx_ BK115.out)) : gb115 ≠ gb119)); have n10_ := Aside0.mk ((by rw [hg]; exact Nat.ne_of_gt (blk_lt (g := gb115) (o := .cells #[.slice none 0 0, .slice none 0 0, .slice none 0 0] 54 (0, 0)) (kx_ BK115.out)) : gb119 ≠ gb115)); clear HO118; clear BK114; clear BK115; clear HB; have HO118 := n0_; have BK114 := n1_; have BK115 := n2_; have HB := n3_; have BK119 := n4_; have GW119 := n5_; have GE119 := n6_; have NB114_119 := n7_; have NB119_114 := n8_; have NB115_119 := n9_; have NB119_115 := n10_; clear n0_ n1_ n2_ n3_ n4_ n5_ n6_ n7_ n8_ n9_ n10_; clear hb hbox hg; have hnb13 := NB119_114.out; have hnc13 := NB114_119.out; have hnb14 := NB119_115.out; have hnc14 := NB115_119.out; have hcz15_0 : w12.cell? ⟨gb119, 0, none⟩ = some (.slice none 0 0) := bc_ BK119 0; have hcz15_1 : w12.cell? ⟨gb119, 1, none⟩ = some (.slice none 0 0) := bc_ BK119 1; have hcz15_2 : w12.cell? ⟨gb119, 2, none⟩ = some (.slice none 0 0) := bc_ BK119 2; have hfz15_0 := blk_frozen BK119.out 0; have hfz15_1 := blk_frozen BK119.out 1; have hfz15_2 := blk_frozen BK119.out 2))
 (try simp only [Act.put, sT, sZ, sS])
 go_cut [] (fun wc => ∃ (kq : Nat) (x120001_3 : List (S47)) (x120002_3 : List Int) (u120001 : Value) (u120002 : Value), Aside0 (impl_regionInside.j0 kq l0 a2 a1_0 a1_1 y116 x120001_3 x120002_3 = some (r1, r2, r3)) ∧ Aside0 (kq ≤ k) ∧ Aside0 (Kd.R (Kd.int .i64) 3 wc w.heap.size (fun k_ => some k_ ≠ (u120002 : Value).ownBlock) (.slice Ao11 y116.length co11) y116) ∧ Aside0 (Kd.R k47 47 wc w.heap.size (fun k_ => k_ ≠ gb114) u120001 x120001_3) ∧ Aside0 (Kd.R (Kd.int .i64) 3 wc w.heap.size (fun k_ => some k_ ≠ ((.slice Ao11 y116.length co11) : Value).ownBlock) u120002 x120002_3) ∧ Aside0 (wc.heap[gb114]? = some (.cells #[.int .i64 a1_0, .int .i64 a1_1] 47 (0, 0))) ∧ Aside0 (wc.heap[gb115]? = some (.cells #[(.slice none 0 0), (.slice none 0 0), (.slice none 0 0)] 54 (0, 0))) ∧ Aside0 (wc.heap[gb119]? = some (.cells #[(.slice Ao11 y116.length co11), u120001, u120002] 54 (0, 0))) ∧ Aside0 (Below w.heap.size w wc))
 case first =>
  have H := HC4.out
  clear HC4
  by_cases c16 : a2 = true
  ·subst c16
   have H1 : (if ([] : List (S47)).length < 8796093022208 then (impl_regionInside.j0 k l0 true a1_0 a1_1 y116 (([] : List (S47)) ++ [(⟨a1_0, a1_1⟩ : S47)]) ([] : List Int)) else (none)) = some (r1, r2, r3) := by rw [if_pos rfl] at H; exact H
   clear H
   have H := H1
   clear H1
   by_cases c17 : ([] : List (S47)).length < 8796093022208
   ·rw [if_pos c17] at H
    have LMc17 := Aside0.mk c17
    clear c17
    obtain ⟨y120, hy120⟩ : ∃ y_ : List (S47), y_ = (([] : List (S47)) ++ [(⟨a1_0, a1_1⟩ : S47)]) := ⟨_, rfl⟩
    replace H : (impl_regionInside.j0 k l0 true a1_0 a1_1 y116 y120 ([] : List Int)) = some (r1, r2, r3) := by first | (rw [hy120]; with_reducible exact H) | (have H2_ := (Option.bind_some _ _).symm.trans H; rw [hy120]; with_reducible exact H2_) | (have H2_ := (Option.bind_some _ _).symm.trans H; with_reducible exact H2_) | with_reducible exact H | (rw [hy120]; exact H) | exact H
    have Ny120 := Aside0.mk hy120
    clear hy120
    have H' := Aside0.mk H
    clear H
    have hnb18 := NB119_114.out
    have hnc18 := NB114_119.out
    have hnb19 := NB119_115.out
    have hnc19 := NB115_119.out
    have hcz20_0 : w12.cell? ⟨gb119, 0, none⟩ = some (.slice none 0 0) := bc_ BK119 0
    have hcz20_1 : w12.cell? ⟨gb119, 1, none⟩ = some (.slice none 0 0) := bc_ BK119 1
    have hcz20_2 : w12.cell? ⟨gb119, 2, none⟩ = some (.slice none 0 0) := bc_ BK119 2
    have hfz20_0 := blk_frozen BK119.out 0
    have hfz20_1 := blk_frozen BK119.out 1
    have hfz20_2 := blk_frozen BK119.out 2
    have hnb21 := NB114_115.out
    have hnc21 := NB115_114.out
    have hcz22_0 : w12.cell? ⟨gb114, 0, none⟩ = some (.int .i64 a1_0) := bc_ BK114 0
    have hcz22_1 : w12.cell? ⟨gb114, 1, none⟩ = some (.int .i64 a1_1) := bc_ BK114 1
    have hfz22_0 := blk_frozen BK114.out 0
    have hfz22_1 := blk_frozen BK114.out 1
    go_wp2_with (first | ((with_reducible refine gate_builtin (b := .append) (xs := #[.tmp 18, .tmp 20]) rfl ?_); at_builtin; refine Kd.R_append k47 (w0 := w) w.heap.size rfl (.tmp 18) (.tmp 20) 27 47 (.agg #[(.int .i64 0), (.int .i64 0)]) 16 rfl Try.underlying27 info47 rfl (by decide) (by omega) (.slice none 0 0) ([] : List (S47)) (⟨a1_0, a1_1⟩ : S47) [.int .i64 a1_0, .int .i64 a1_1] (fun k_ => k_ ≠ gb114) (fun _ => False) rfl (by first | (go_simp; done) | (go_simp; rfl)) ?aP (fun _ hk => hk.elim) ?aF ?aO ?aB ?aS ?aL ?_; (case aP => exact k47_mkM _ _ _ (⟨a1_0, a1_1⟩ : S47)); (case aB => exact (hm_)); (case aF => exact (fun k_ hk => Kd.freshB (g := gb114) (o := .cells #[.int .i64 a1_0, .int .i64 a1_1] 47 (0, 0)) (by (with_reducible repeat (first | refine kN ?_ _ | refine kD ?_ | refine kA ?_ _)); refine blk_far ?_ NB114_119.out _; (with_reducible repeat (first | refine kN ?_ _ | refine kD ?_ | refine kA ?_ _)); refine blk_far ?_ NB114_119.out _; (with_reducible repeat (first | refine kN ?_ _ | refine kD ?_ | refine kA ?_ _)); refine blk_far ?_ NB114_119.out _; (with_reducible repeat (first | refine kN ?_ _ | refine kD ?_ | refine kA ?_ _)); exact BK114.out) k_ hk)); (case aO => exact ((Kd.R_nil _ _ _ _ (fun k_ => k_ ≠ gb114)))); (case aS => exact (below_size (hm_))); (case aL => have := LMc17.out; omega); intro v121 w23 ho hb hg hat; rw [← Ny120.out] at ho; have n0_ := Aside0.mk (blk_grown (g := gb114) (o := .cells #[.int .i64 a1_0, .int .i64 a1_1] 47 (0, 0)) (by (with_reducible repeat (first | refine kN ?_ _ | refine kD ?_ | refine kA ?_ _)); refine blk_far ?_ NB114_119.out _; (with_reducible repeat (first | refine kN ?_ _ | refine kD ?_ | refine kA ?_ _)); refine blk_far ?_ NB114_119.out _; (with_reducible repeat (first | refine kN ?_ _ | refine kD ?_ | refine kA ?_ _)); refine blk_far ?_ NB114_119.out _; (with_reducible repeat (first | refine kN ?_ _ | refine kD ?_ | refine kA ?_ _)); exact BK114.out) hg (by simp [Value.ownBlock])); have n1_ := Aside0.mk (blk_grown (g := gb115) (o := .cells #[.slice none 0 0, .slice none 0 0, .slice none 0 0] 54 (0, 0)) (by (with_reducible repeat (first | refine kN ?_ _ | refine kD ?_ | refine kA ?_ _)); refine blk_far ?_ NB115_119.out _; (with_reducible repeat (first | refine kN ?_ _ | refine kD ?_ | refine kA ?_ _)); refine blk_far ?_ NB115_119.out _; (with_reducible repeat (first | refine kN ?_ _ | refine kD ?_ | refine kA ?_ _)); refine blk_far ?_ NB115_119.out _; (with_reducible repeat (first | refine kN ?_ _ | refine kD ?_ | refine kA ?_ _)); exact BK115.out) hg (by simp [Value.ownBlock])); have n2_ := Aside0.mk (Kd.R_grown (by (with_reducible repeat (first | apply rA | apply rN | apply rD)); exact (Kd.R_mono (Kd.R_far (p := ⟨gb119, 2, none⟩) (Kd.R_far (p := ⟨gb119, 1, none⟩) (Kd.R_far (p := ⟨gb119, 0, none⟩) (Kd.R_types HO118.out BK119.out (by decide)) (fun _ hk => hk.2) (.slice Ao11 y116.length co11)) (fun _ hk => hk.2) (.slice none 0 0)) (fun _ hk => hk.2) (.slice none 0 0)) (fun _ h_ => h_.1))) hg (fun _ _ => by simp [Value.ownBlock])); have n3_ := Aside0.mk (blk_grown (g := gb119) (o := .cells #[.slice Ao11 y116.length co11, .slice none 0 0, .slice none 0 0] 54 (0, 0)) (by (with_reducible repeat (first | refine kN ?_ _ | refine kD ?_ | refine kA ?_ _)); refine blk_put (cs := #[.slice Ao11 y116.length co11, .slice none 0 0, .slice none 0 0]) ?_ 2 _ rfl; (with_reducible repeat (first | refine kN ?_ _ | refine kD ?_ | refine kA ?_ _)); refine blk_put (cs := #[.slice Ao11 y116.length co11, .slice none 0 0, .slice none 0 0]) ?_ 1 _ rfl; (with_reducible repeat (first | refine kN ?_ _ | refine kD ?_ | refine kA ?_ _)); refine blk_put (cs := #[.slice none 0 0, .slice none 0 0, .slice none 0 0]) ?_ 0 _ rfl; (with_reducible repeat (first | refine kN ?_ _ | refine kD ?_ | refine kA ?_ _)); exact BK119.out) hg (by simp [Value.ownBlock])); have n4_ := Aside0.mk (hb); have n5_ := Aside0.mk (ho); clear BK114; clear BK115; clear HO118; clear BK119; clear HB; have BK114 := n0_; have BK115 := n1_; have HO118 := n2_; have BK119 := n3_; have HB := n4_; have HO122 := n5_; clear n0_ n1_ n2_ n3_ n4_ n5_; clear ho hb hg hat; obtain ⟨Ao24, co24, eo24⟩ := Kd.R_slice HO122.out; subst eo24; have hcz25_0 : w23.cell? ⟨gb119, 0, none⟩ = some (.slice Ao11 y116.length co11) := bc_ BK119 0; have hcz25_1 : w23.cell? ⟨gb119, 1, none⟩ = some (.slice none 0 0) := bc_ BK119 1; have hcz25_2 : w23.cell? ⟨gb119, 2, none⟩ = some (.slice none 0 0) := bc_ BK119 2; have hfz25_0 := blk_frozen BK119.out 0; have hfz25_1 := blk_frozen BK119.out 1; have hfz25_2 := blk_frozen BK119.out 2))
    go_meet
    case rel => exact ⟨_, (y120), (([] : List Int)), (.slice Ao24 y120.length co24), (.slice none 0 0), H', ⟨by first | omega | exact Nat.le_refl _⟩, ⟨by (with_reducible repeat (first | apply rA | apply rN | apply rD)); exact Kd.R_mono (Kd.R_far (p := ⟨gb119, 1, none⟩) (Kd.R_types HO118.out BK119.out (by decide)) (fun _ hk => hk.2) (.slice Ao24 y120.length co24)) (fun _ hk => (by simp [Value.ownBlock]))⟩, ⟨by (with_reducible repeat (first | apply rA | apply rN | apply rD)); exact Kd.R_mono (Kd.R_far (p := ⟨gb119, 1, none⟩) (Kd.R_types HO122.out BK119.out (by decide)) (fun _ hk => hk.2) (.slice Ao24 y120.length co24)) (fun _ hk => hk.1)⟩, ⟨by first | exact Kd.R_nil _ _ _ _ _ | exact Kd.N_nil _ _ _ _ _ | exact Kd.V_nil _ _ _ _ _ | exact Kd.Q_nil _ _ _ _ _ | exact Kd.S_nil _ _ _ _ _⟩, ⟨by (with_reducible repeat (first | refine kN ?_ _ | refine kD ?_ | refine kA ?_ _)); refine blk_far ?_ NB114_119.out _; (with_reducible repeat (first | refine kN ?_ _ | refine kD ?_ | refine kA ?_ _)); exact BK114.out⟩, ⟨by (with_reducible repeat (first | refine kN ?_ _ | refine kD ?_ | refine kA ?_ _)); refine blk_far ?_ NB115_119.out _; (with_reducible repeat (first | refine kN ?_ _ | refine kD ?_ | refine kA ?_ _)); exact BK115.out⟩, ⟨by (with_reducible repeat (first | refine kN ?_ _ | refine kD ?_ | refine kA ?_ _)); refine blk_put (cs := #[.slice Ao11 y116.length co11, .slice none 0 0, .slice none 0 0]) ?_ 1 _ rfl; (with_reducible repeat (first | refine kN ?_ _ | refine kD ?_ | refine kA ?_ _)); exact BK119.out⟩, ⟨hm_⟩⟩
   ·rw [if_neg c17] at H
    exact absurd H (by simp)
  ·replace c16 := Bool.eq_false_iff.mpr c16
   subst c16
   have H1 : (if ([] : List Int).length < 17592186044416 then (impl_regionInside.j0 k l0 false a1_0 a1_1 y116 ([] : List (S47)) (([] : List Int) ++ [a1_1])) else (none)) = some (r1, r2, r3) := by rw [if_neg (show ¬ (false = true) by decide)] at H; exact H
   clear H
   have H := H1
   clear H1
   by_cases c26 : ([] : List Int).length < 17592186044416
   ·rw [if_pos c26] at H
    have LMc26 := Aside0.mk c26
    clear c26
    obtain ⟨y123, hy123⟩ : ∃ y_ : List Int, y_ = (([] : List Int) ++ [a1_1]) := ⟨_, rfl⟩
    replace H : (impl_regionInside.j0 k l0 false a1_0 a1_1 y116 ([] : List (S47)) y123) = some (r1, r2, r3) := by first | (rw [hy123]; with_reducible exact H) | (have H2_ := (Option.bind_some _ _).symm.trans H; rw [hy123]; with_reducible exact H2_) | (have H2_ := (Option.bind_some _ _).symm.trans H; with_reducible exact H2_) | with_reducible exact H | (rw [hy123]; exact H) | exact H
    have Ny123 := Aside0.mk hy123
    clear hy123
    have H' := Aside0.mk H
    clear H
    have hnb27 := NB119_114.out
    have hnc27 := NB114_119.out
    have hnb28 := NB119_115.out
    have hnc28 := NB115_119.out
    have hcz29_0 : w12.cell? ⟨gb119, 0, none⟩ = some (.slice none 0 0) := bc_ BK119 0
    have hcz29_1 : w12.cell? ⟨gb119, 1, none⟩ = some (.slice none 0 0) := bc_ BK119 1
    have hcz29_2 : w12.cell? ⟨gb119, 2, none⟩ = some (.slice none 0 0) := bc_ BK119 2
    have hfz29_0 := blk_frozen BK119.out 0
    have hfz29_1 := blk_frozen BK119.out 1
    have hfz29_2 := blk_frozen BK119.out 2
    have hnb30 := NB114_115.out
    have hnc30 := NB115_114.out
    have hcz31_0 : w12.cell? ⟨gb114, 0, none⟩ = some (.int .i64 a1_0) := bc_ BK114 0
    have hcz31_1 : w12.cell? ⟨gb114, 1, none⟩ = some (.int .i64 a1_1) := bc_ BK114 1
    have hfz31_0 := blk_frozen BK114.out 0
    have hfz31_1 := blk_frozen BK114.out 1
    go_wp2_with (first | ((with_reducible refine gate_builtin (b := .append) (xs := #[.tmp 24, .tmp 27]) rfl ?_); at_builtin; refine Kd.R_append (Kd.int .i64) (w0 := w) w.heap.size rfl (.tmp 24) (.tmp 27) 24 3 (.int .i64 0) 8 rfl Try.underlying24 info3 rfl (by decide) (by omega) (.slice none 0 0) ([] : List Int) a1_1 [.int .i64 a1_1] (fun k_ => some k_ ≠ (.slice Ao11 y116.length co11 : Value).ownBlock) (fun _ => False) rfl (by first | (go_simp; done) | (go_simp; rfl)) ?aP (fun _ hk => hk.elim) ?aF ?aO ?aB ?aS ?aL ?_; (case aP => exact rfl); (case aB => exact (hm_)); (case aF => exact (fun k_ hk => Kd.fresh' (Kd.R_lt (by (with_reducible repeat (first | apply rA | apply rN | apply rD)); exact (Kd.R_mono (Kd.R_far (p := ⟨gb119, 2, none⟩) (Kd.R_far (p := ⟨gb119, 1, none⟩) (Kd.R_far (p := ⟨gb119, 0, none⟩) (Kd.R_types HO118.out BK119.out (by decide)) (fun _ hk => hk.2) (.slice Ao11 y116.length co11)) (fun _ hk => hk.2) (.slice none 0 0)) (fun _ hk => hk.2) (.slice none 0 0)) (fun _ h_ => h_.1)))) k_ hk)); (case aO => exact ((Kd.R_nil _ _ _ _ (fun k_ => some k_ ≠ (.slice Ao11 y116.length co11 : Value).ownBlock)))); (case aS => exact (below_size (hm_))); (case aL => have := LMc26.out; omega); intro v124 w32 ho hb hg hat; rw [← Ny123.out] at ho; have n0_ := Aside0.mk (blk_grown (g := gb114) (o := .cells #[.int .i64 a1_0, .int .i64 a1_1] 47 (0, 0)) (by (with_reducible repeat (first | refine kN ?_ _ | refine kD ?_ | refine kA ?_ _)); refine blk_far ?_ NB114_119.out _; (with_reducible repeat (first | refine kN ?_ _ | refine kD ?_ | refine kA ?_ _)); refine blk_far ?_ NB114_119.out _; (with_reducible repeat (first | refine kN ?_ _ | refine kD ?_ | refine kA ?_ _)); refine blk_far ?_ NB114_119.out _; (with_reducible repeat (first | refine kN ?_ _ | refine kD ?_ | refine kA ?_ _)); exact BK114.out) hg (by simp [Value.ownBlock])); have n1_ := Aside0.mk (blk_grown (g := gb115) (o := .cells #[.slice none 0 0, .slice none 0 0, .slice none 0 0] 54 (0, 0)) (by (with_reducible repeat (first | refine kN ?_ _ | refine kD ?_ | refine kA ?_ _)); refine blk_far ?_ NB115_119.out _; (with_reducible repeat (first | refine kN ?_ _ | refine kD ?_ | refine kA ?_ _)); refine blk_far ?_ NB115_119.out _; (with_reducible repeat (first | refine kN ?_ _ | refine kD ?_ | refine kA ?_ _)); refine blk_far ?_ NB115_119.out _; (with_reducible repeat (first | refine kN ?_ _ | refine kD ?_ | refine kA ?_ _)); exact BK115.out) hg (by simp [Value.ownBlock])); have n2_ := Aside0.mk (Kd.R_after (Kd.R_apart_nil (by (with_reducible repeat (first | apply rA | apply rN | apply rD)); exact (Kd.R_mono (Kd.R_far (p := ⟨gb119, 2, none⟩) (Kd.R_far (p := ⟨gb119, 1, none⟩) (Kd.R_far (p := ⟨gb119, 0, none⟩) (Kd.R_types HO118.out BK119.out (by decide)) (fun _ hk => hk.2) (.slice Ao11 y116.length co11)) (fun _ hk => hk.2) (.slice none 0 0)) (fun _ hk => hk.2) (.slice none 0 0)) (fun _ h_ => h_.1)))) hg hat); have n3_ := Aside0.mk (blk_grown (g := gb119) (o := .cells #[.slice Ao11 y116.length co11, .slice none 0 0, .slice none 0 0] 54 (0, 0)) (by (with_reducible repeat (first | refine kN ?_ _ | refine kD ?_ | refine kA ?_ _)); refine blk_put (cs := #[.slice Ao11 y116.length co11, .slice none 0 0, .slice none 0 0]) ?_ 2 _ rfl; (with_reducible repeat (first | refine kN ?_ _ | refine kD ?_ | refine kA ?_ _)); refine blk_put (cs := #[.slice Ao11 y116.length co11, .slice none 0 0, .slice none 0 0]) ?_ 1 _ rfl; (with_reducible repeat (first | refine kN ?_ _ | refine kD ?_ | refine kA ?_ _)); refine blk_put (cs := #[.slice none 0 0, .slice none 0 0, .slice none 0 0]) ?_ 0 _ rfl; (with_reducible repeat (first | refine kN ?_ _ | refine kD ?_ | refine kA ?_ _)); exact BK119.out) hg (by simp [Value.ownBlock])); have n4_ := Aside0.mk (hb); have n5_ := Aside0.mk (ho); clear BK114; clear BK115; clear HO118; clear BK119; clear HB; have BK114 := n0_; have BK115 := n1_; have HO118 := n2_; have BK119 := n3_; have HB := n4_; have HO125 := n5_; clear n0_ n1_ n2_ n3_ n4_ n5_; clear ho hb hg hat; obtain ⟨Ao33, co33, eo33⟩ := Kd.R_slice HO125.out; subst eo33; have hcz34_0 : w32.cell? ⟨gb119, 0, none⟩ = some (.slice Ao11 y116.length co11) := bc_ BK119 0; have hcz34_1 : w32.cell? ⟨gb119, 1, none⟩ = some (.slice none 0 0) := bc_ BK119 1; have hcz34_2 : w32.cell? ⟨gb119, 2, none⟩ = some (.slice none 0 0) := bc_ BK119 2; have hfz34_0 := blk_frozen BK119.out 0; have hfz34_1 := blk_frozen BK119.out 1; have hfz34_2 := blk_frozen BK119.out 2))
    go_meet
    case rel => exact ⟨_, (([] : List (S47))), (y123), (.slice none 0 0), (.slice Ao33 y123.length co33), H', ⟨by first | omega | exact Nat.le_refl _⟩, ⟨by (with_reducible repeat (first | apply rA | apply rN | apply rD)); exact Kd.R_mono (Kd.R_far (p := ⟨gb119, 2, none⟩) (Kd.R_types HO118.out BK119.out (by decide)) (fun _ hk => hk.2) (.slice Ao33 y123.length co33)) (fun _ hk => hk.1.2)⟩, ⟨by first | exact Kd.R_nil _ _ _ _ _ | exact Kd.N_nil _ _ _ _ _ | exact Kd.V_nil _ _ _ _ _ | exact Kd.Q_nil _ _ _ _ _ | exact Kd.S_nil _ _ _ _ _⟩, ⟨by (with_reducible repeat (first | apply rA | apply rN | apply rD)); exact Kd.R_mono (Kd.R_far (p := ⟨gb119, 2, none⟩) (Kd.R_types HO125.out BK119.out (by decide)) (fun _ hk => hk.2) (.slice Ao33 y123.length co33)) (fun _ hk => hk.1)⟩, ⟨by (with_reducible repeat (first | refine kN ?_ _ | refine kD ?_ | refine kA ?_ _)); refine blk_far ?_ NB114_119.out _; (with_reducible repeat (first | refine kN ?_ _ | refine kD ?_ | refine kA ?_ _)); exact BK114.out⟩, ⟨by (with_reducible repeat (first | refine kN ?_ _ | refine kD ?_ | refine kA ?_ _)); refine blk_far ?_ NB115_119.out _; (with_reducible repeat (first | refine kN ?_ _ | refine kD ?_ | refine kA ?_ _)); exact BK115.out⟩, ⟨by (with_reducible repeat (first | refine kN ?_ _ | refine kD ?_ | refine kA ?_ _)); refine blk_put (cs := #[.slice Ao11 y116.length co11, .slice none 0 0, .slice none 0 0]) ?_ 2 _ rfl; (with_reducible repeat (first | refine kN ?_ _ | refine kD ?_ | refine kA ?_ _)); exact BK119.out⟩, ⟨hm_⟩⟩
   ·rw [if_neg c26] at H
    exact absurd H (by simp)
 case rest =>
  clear HC4
  try clear c1
  try clear c2
  try clear p2
  try clear c3
  try clear c6
  try clear c7
  try clear c13
  try clear c14
  try clear c16
  try clear c17
  try clear c18
  try clear c19
  try clear c21
  try clear c26
  try clear c27
  try clear c28
  try clear c30
  try clear hcz15_0
  try clear hcz15_1
  try clear hcz15_2
  try clear hcz20_0
  try clear hcz20_1
  try clear hcz20_2
  try clear hcz22_0
  try clear hcz22_1
  try clear hcz25_0
  try clear hcz25_1
  try clear hcz25_2
  try clear hcz29_0
  try clear hcz29_1
  try clear hcz29_2
  try clear hcz31_0
  try clear hcz31_1
  try clear hcz34_0
  try clear hcz34_1
  try clear hcz34_2
  try clear hcz8_0
  try clear hcz8_1
  try clear hfz15_0
  try clear hfz15_1
  try clear hfz15_2
  try clear hfz20_0
  try clear hfz20_1
  try clear hfz20_2
  try clear hfz22_0
  try clear hfz22_1
  try clear hfz25_0
  try clear hfz25_1
  try clear hfz25_2
  try clear hfz29_0
  try clear hfz29_1
  try clear hfz29_2
  try clear hfz31_0
  try clear hfz31_1
  try clear hfz34_0
  try clear hfz34_1
  try clear hfz34_2
  try clear hfz8_0
  try clear hfz8_1
  obtain ⟨kq, x120001_3, x120002_3, u120001, u120002, HA, HJ3, HO_120000, HO_120001, HO_120002, BK114, BK115, BK119, HB⟩ := hcut
  cases kq with
  | zero => exact absurd HA.out (by simp [impl_regionInside.j0])
  | succ kj3 =>
   have H := HA.out
   clear HA
   simp only [impl_regionInside.j0] at H
   have H' := Aside0.mk H
   clear H
   have hnb35 := NB114_115.out
   have hnc35 := NB115_114.out
   have hnb36 := NB114_119.out
   have hnc36 := NB119_114.out
   have hcz37_0 : wc.cell? ⟨gb114, 0, none⟩ = some (.int .i64 a1_0) := bc_ BK114 0
   have hcz37_1 : wc.cell? ⟨gb114, 1, none⟩ = some (.int .i64 a1_1) := bc_ BK114 1
   have hfz37_0 := blk_frozen BK114.out 0
   have hfz37_1 := blk_frozen BK114.out 1
   go_wp2
   go_loopg [8] kj3 (fun kq v8 w' => ∃ (x8_2 : Int) (x120000_2 : List Int) (x120001_2 : List (S47)) (x120002_2 : List Int) (u120000 : Value) (u120001 : Value) (u120002 : Value), v8 = .int .i64 x8_2 ∧ Aside0 (impl_regionInside.l0 kq l0 a2 x8_2 a1_0 a1_1 x120000_2 x120001_2 x120002_2 = some (r1, r2, r3)) ∧ Aside0 (kq ≤ kj3) ∧ Aside0 (Kd.R (Kd.int .i64) 3 w' w.heap.size (fun k_ => some k_ ≠ (u120002 : Value).ownBlock) u120000 x120000_2) ∧ Aside0 (Kd.R k47 47 w' w.heap.size (fun k_ => k_ ≠ gb114) u120001 x120001_2) ∧ Aside0 (Kd.R (Kd.int .i64) 3 w' w.heap.size (fun k_ => some k_ ≠ (u120000 : Value).ownBlock) u120002 x120002_2) ∧ Aside0 (w'.heap[gb114]? = some (.cells #[.int .i64 a1_0, .int .i64 a1_1] 47 (0, 0))) ∧ Aside0 (w'.heap[gb115]? = some (.cells #[(.slice none 0 0), (.slice none 0 0), (.slice none 0 0)] 54 (0, 0))) ∧ Aside0 (w'.heap[gb119]? = some (.cells #[u120000, u120001, u120002] 54 (0, 0))) ∧ Aside0 (Below w.heap.size w w'))
   case atStart => exact ⟨(a1_0), (y116), (x120001_3), (x120002_3), (.slice Ao11 y116.length co11), (u120001), (u120002), (by first | rfl | (simp; done) | (simp [*]; done)), H', ⟨Nat.le_refl _⟩, ⟨by (with_reducible repeat (first | apply rA | apply rN | apply rD)); exact HO_120000.out⟩, ⟨by (with_reducible repeat (first | apply rA | apply rN | apply rD)); exact HO_120001.out⟩, ⟨by (with_reducible repeat (first | apply rA | apply rN | apply rD)); exact HO_120002.out⟩, ⟨by (with_reducible repeat (first | refine kN ?_ _ | refine kD ?_ | refine kA ?_ _)); exact BK114.out⟩, ⟨by (with_reducible repeat (first | refine kN ?_ _ | refine kD ?_ | refine kA ?_ _)); exact BK115.out⟩, ⟨by (with_reducible repeat (first | refine kN ?_ _ | refine kD ?_ | refine kA ?_ _)); exact BK119.out⟩, ⟨hm_⟩⟩
   case round =>
    clear H'
    try clear c1
    try clear c2
    try clear p2
    try clear c3
    try clear c6
    try clear c7
    try clear c13
    try clear c14
    try clear c16
    try clear c17
    try clear c18
    try clear c19
    try clear c21
    try clear c26
    try clear c27
    try clear c28
    try clear c30
    try clear c35
    try clear c36
    try clear hcz15_0
    try clear hcz15_1
    try clear hcz15_2
    try clear hcz20_0
    try clear hcz20_1
    try clear hcz20_2
    try clear hcz22_0
    try clear hcz22_1
    try clear hcz25_0
    try clear hcz25_1
    try clear hcz25_2
    try clear hcz29_0
    try clear hcz29_1
    try clear hcz29_2
    try clear hcz31_0
    try clear hcz31_1
    try clear hcz34_0
    try clear hcz34_1
    try clear hcz34_2
    try clear hcz37_0
    try clear hcz37_1
    try clear hcz8_0
    try clear hcz8_1
    try clear hfz15_0
    try clear hfz15_1
    try clear hfz15_2
    try clear hfz20_0
    try clear hfz20_1
    try clear hfz20_2
    try clear hfz22_0
    try clear hfz22_1
    try clear hfz25_0
    try clear hfz25_1
    try clear hfz25_2
    try clear hfz29_0
    try clear hfz29_1
    try clear hfz29_2
    try clear hfz31_0
    try clear hfz31_1
    try clear hfz34_0
    try clear hfz34_1
    try clear hfz34_2
    try clear hfz37_0
    try clear hfz37_1
    try clear hfz8_0
    try clear hfz8_1
    try clear p2
    obtain ⟨x8_2, x120000_2, x120001_2, x120002_2, u120000, u120001, u120002, rfl, HA, HK2, HO_120000, HO_120001, HO_120002, BK114, BK115, BK119, HB⟩ := hrel
    cases gk with
    | zero => exact absurd HA.out (by simp [impl_regionInside.l0])
    | succ k2 =>
     have H := HA.out
     clear HA
     simp only [impl_regionInside.l0] at H
     by_cases c38 : x8_2 < a1_1
     ·rw [if_pos c38] at H
      have c38b0 : decide (x8_2 < a1_1) = true := decide_eq_true c38
      clear c38
      have H' := Aside0.mk H
      clear H
      have hnb39 := NB114_115.out
      have hnc39 := NB115_114.out
      have hnb40 := NB114_119.out
      have hnc40 := NB119_114.out
      have hcz41_0 : wr.cell? ⟨gb114, 0, none⟩ = some (.int .i64 a1_0) := bc_ BK114 0
      have hcz41_1 : wr.cell? ⟨gb114, 1, none⟩ = some (.int .i64 a1_1) := bc_ BK114 1
      have hfz41_0 := blk_frozen BK114.out 0
      have hfz41_1 := blk_frozen BK114.out 1
      go_wp2
      go_loopg [9, 39] k2 (fun kq v9 v39 w' => ∃ (x9_3 : Int) (x39_3 : Int), v9 = .int .i64 x9_3 ∧ v39 = .int .i64 x39_3 ∧ Aside0 (impl_regionInside.l1 kq l0 a2 x8_2 x9_3 l0 (l0.length : Int) x39_3 a1_0 a1_1 x120000_2 x120001_2 x120002_2 = some (r1, r2, r3)) ∧ Aside0 (kq ≤ k2) ∧ Aside0 (Kd.R (Kd.int .i64) 3 w' w.heap.size (fun k_ => some k_ ≠ (u120002 : Value).ownBlock) u120000 x120000_2) ∧ Aside0 (Kd.R k47 47 w' w.heap.size (fun k_ => k_ ≠ gb114) u120001 x120001_2) ∧ Aside0 (Kd.R (Kd.int .i64) 3 w' w.heap.size (fun k_ => some k_ ≠ (u120000 : Value).ownBlock) u120002 x120002_2) ∧ Aside0 (w'.heap[gb114]? = some (.cells #[.int .i64 a1_0, .int .i64 a1_1] 47 (0, 0))) ∧ Aside0 (w'.heap[gb115]? = some (.cells #[(.slice none 0 0), (.slice none 0 0), (.slice none 0 0)] 54 (0, 0))) ∧ Aside0 (w'.heap[gb119]? = some (.cells #[u120000, u120001, u120002] 54 (0, 0))) ∧ Aside0 (Below w.heap.size w w'))
      case atStart => exact ⟨(x8_2), (0), (by first | rfl | (simp; done) | (simp [*]; done)), (by first | rfl | (simp; done) | (simp [*]; done)), H', ⟨Nat.le_refl _⟩, ⟨by (with_reducible repeat (first | apply rA | apply rN | apply rD)); exact HO_120000.out⟩, ⟨by (with_reducible repeat (first | apply rA | apply rN | apply rD)); exact HO_120001.out⟩, ⟨by (with_reducible repeat (first | apply rA | apply rN | apply rD)); exact HO_120002.out⟩, ⟨by (with_reducible repeat (first | refine kN ?_ _ | refine kD ?_ | refine kA ?_ _)); exact BK114.out⟩, ⟨by (with_reducible repeat (first | refine kN ?_ _ | refine kD ?_ | refine kA ?_ _)); exact BK115.out⟩, ⟨by (with_reducible repeat (first | refine kN ?_ _ | refine kD ?_ | refine kA ?_ _)); exact BK119.out⟩, ⟨hm_⟩⟩
      case round =>
       clear H'
       try clear c1
       try clear c2
       try clear p2
       try clear c3
       try clear c4
       try clear c6
       try clear c7
       try clear c13
       try clear c14
       try clear c16
       try clear c17
       try clear c18
       try clear c19
       try clear c21
       try clear c26
       try clear c27
       try clear c28
       try clear c30
       try clear c35
       try clear c36
       try clear c38
       try clear c38b0
       try clear c39
       try clear c40
       try clear hcz15_0
       try clear hcz15_1
       try clear hcz15_2
       try clear hcz20_0
       try clear hcz20_1
       try clear hcz20_2
       try clear hcz22_0
       try clear hcz22_1
       try clear hcz25_0
       try clear hcz25_1
       try clear hcz25_2
       try clear hcz29_0
       try clear hcz29_1
       try clear hcz29_2
       try clear hcz31_0
       try clear hcz31_1
       try clear hcz34_0
       try clear hcz34_1
       try clear hcz34_2
       try clear hcz37_0
       try clear hcz37_1
       try clear hcz41_0
       try clear hcz41_1
       try clear hcz8_0
       try clear hcz8_1
       try clear hfz15_0
       try clear hfz15_1
       try clear hfz15_2
       try clear hfz20_0
       try clear hfz20_1
       try clear hfz20_2
       try clear hfz22_0
       try clear hfz22_1
       try clear hfz25_0
       try clear hfz25_1
       try clear hfz25_2
       try clear hfz29_0
       try clear hfz29_1
       try clear hfz29_2
       try clear hfz31_0
       try clear hfz31_1
       try clear hfz34_0
       try clear hfz34_1
       try clear hfz34_2
       try clear hfz37_0
       try clear hfz37_1
       try clear hfz41_0
       try clear hfz41_1
       try clear hfz8_0
       try clear hfz8_1
       try clear p2
       obtain ⟨x9_3, x39_3, rfl, rfl, HA, HK3, HO_120000, HO_120001, HO_120002, BK114, BK115, BK119, HB⟩ := hrel
       cases gk with
       | zero => exact absurd HA.out (by simp [impl_regionInside.l1])
       | succ k3 =>
        have H := HA.out
        clear HA
        simp only [impl_regionInside.l1] at H
        by_cases c42 : x39_3 < (l0.length : Int)
        ·rw [if_pos c42] at H
         have c42b0 : decide (x39_3 < (l0.length : Int)) = true := decide_eq_true c42
         clear c42
         by_cases c43 : 0 ≤ x39_3
         ·rw [if_pos c43] at H
          have c43b0 : decide (0 ≤ x39_3) = true := decide_eq_true c43
          clear c43
          by_cases c44 : x39_3 < (l0.length : Int)
          ·rw [if_pos c44] at H
           have c44b0 : decide (x39_3 < (l0.length : Int)) = true := decide_eq_true c44
           clear c44
           by_cases c45 : ((rd_T47 l0 x39_3).f0) = x8_2
           ·rw [if_pos c45] at H
            have c45b0 : (((rd_T47 l0 x39_3).f0) == x8_2) = true := beq_iff_eq.mpr c45
            have c45b1 : (((rd_T47 l0 x39_3).f0) != x8_2) = false := bne_eq_false_iff_eq.mpr c45
            clear c45
            by_cases c46 : ((rd_T47 l0 x39_3).f1) ≤ a1_1
            ·rw [if_pos c46] at H
             have c46b0 : decide (((rd_T47 l0 x39_3).f1) ≤ a1_1) = true := decide_eq_true c46
             clear c46
             by_cases c47 : ((rd_T47 l0 x39_3).f1) > x9_3
             ·rw [if_pos c47] at H
              have c47b0 : decide (x9_3 < ((rd_T47 l0 x39_3).f1)) = true := decide_eq_true c47
              clear c47
              by_cases c48 : a2 = true
              ·subst c48
               have H1 : (if ((((rd_T47 l0 x39_3).f0) == a1_0 && (((rd_T47 l0 x39_3).f1) == a1_1)) = true) then (impl_regionInside.l1 k3 l0 true x8_2 x9_3 l0 (l0.length : Int) (wrap64 (x39_3 + 1)) a1_0 a1_1 x120000_2 x120001_2 x120002_2) else (impl_regionInside.l1 k3 l0 true x8_2 ((rd_T47 l0 x39_3).f1) l0 (l0.length : Int) (wrap64 (x39_3 + 1)) a1_0 a1_1 x120000_2 x120001_2 x120002_2)) = some (r1, r2, r3) := by rw [if_pos rfl] at H; exact H
               clear H
               have H := H1
               clear H1
               by_cases c49 : ((((rd_T47 l0 x39_3).f0) == a1_0 && (((rd_T47 l0 x39_3).f1) == a1_1)) = true)
               ·rw [if_pos c49] at H
                have c49b0 : (((rd_T47 l0 x39_3).f0) == a1_0 && (((rd_T47 l0 x39_3).f1) == a1_1)) = true := c49
                (try (have c49b1 : decide (((rd_T47 l0 x39_3).f0) = a1_0 && (((rd_T47 l0 x39_3).f1) == a1_1)) = true := by simpa using c49))
                (try (have c49b2 : (((rd_T47 l0 x39_3).f0) == a1_0 && (((rd_T47 l0 x39_3).f1) == a1_1)) = true := by simpa using c49))
                clear c49
                have H' := Aside0.mk H
                clear H
                have p126 : 0 ≤ (x39_3 : Int) := of_decide_eq_true (by assumption)
                have q126 : x39_3 < (l0.length : Int) := of_decide_eq_true (by assumption)
                obtain ⟨ad126, e126, hx126_0, hx126_1⟩ := at_T47 HR0.out x39_3 p126 q126
                cases e126
                replace hx126_0 := (HB.out.cell (World.block_lt_of_cell? w _ hx126_0)).trans hx126_0
                replace hx126_1 := (HB.out.cell (World.block_lt_of_cell? w _ hx126_1)).trans hx126_1
                replace p126 := eq_true p126
                replace q126 := eq_true q126
                go_wp2_with (first | ((with_reducible refine gate_dst (N := 11) rfl ?_); refine box_event ?hg (N := 11) ?hd (cs := #[.int .i64 0, .int .i64 0]) (t := 47) ?hr ?_; (case hd => rfl); (case hg => rfl); (case hr => first | (go_simp; done) | (go_simp; rfl)); intro gb127 hg w50 hbox hb; have n0_ := Aside0.mk (Kd.R_below (ra_ HO_120000.out) hb); have n1_ := Aside0.mk (Kd.R_below (Kd.R_elderB (ra_ HO_120001.out) gb127 (Nat.le_of_eq hg.symm)) hb); have n2_ := Aside0.mk (Kd.R_below (ra_ HO_120002.out) hb); have n3_ := Aside0.mk (blk_below (g := gb114) (o := .cells #[.int .i64 a1_0, .int .i64 a1_1] 47 (0, 0)) (kx_ BK114.out) hb); have n4_ := Aside0.mk (blk_below (g := gb115) (o := .cells #[.slice none 0 0, .slice none 0 0, .slice none 0 0] 54 (0, 0)) (kx_ BK115.out) hb); have n5_ := Aside0.mk (blk_below (g := gb119) (o := .cells #[u120000, u120001, u120002] 54 (0, 0)) (kx_ BK119.out) hb); have n6_ := Aside0.mk (below_step (hm_) hb); have n7_ := Aside0.mk (hbox); have n8_ := Aside0.mk ((by rw [hg]; exact (below_size (hm_)) : w.heap.size ≤ gb127)); have n9_ := Aside0.mk ((by rw [hg]; exact (below_size (hm_)) : w.heap.size ≤ gb127)); have n10_ := Aside0.mk ((by rw [hg]; exact Nat.ne_of_lt (blk_lt (g := gb114) (o := .cells #[.int .i64 a1_0, .int .i64 a1_1] 47 (0, 0)) (kx_ BK114.out)) : gb114 ≠ gb127)); have n11_ := Aside0.mk ((by rw [hg]; exact Nat.ne_of_gt (blk_lt (g := gb114) (o := .cells #[.int .i64 a1_0, .int .i64 a1_1] 47 (0, 0)) (kx_ BK114.out)) : gb127 ≠ gb114)); have n12_ := Aside0.mk ((by rw [hg]; exact Nat.ne_of_lt (blk_lt (g := gb115) (o := .cells #[.slice none 0 0, .slice none 0 0, .slice none 0 0] 54 (0, 0)) (kx_ BK115.out)) : gb115 ≠ gb127)); have n13_ := Aside0.mk ((by rw [hg]; exact Nat.ne_of_gt (blk_lt (g := gb115) (o := .cells #[.slice none 0 0, .slice none 0 0, .slice none 0 0] 54 (0, 0)) (kx_ BK115.out)) : gb127 ≠ gb115)); have n14_ := Aside0.mk ((by rw [hg]; exact Nat.ne_of_lt (blk_lt (g := gb119) (o := .cells #[u120000, u120001, u120002] 54 (0, 0)) (kx_ BK119.out)) : gb119 ≠ gb127)); have n15_ := Aside0.mk ((by rw [hg]; exact Nat.ne_of_gt (blk_lt (g := gb119) (o := .cells #[u120000, u120001, u120002] 54 (0, 0)) (kx_ BK119.out)) : gb127 ≠ gb119)); clear HO_120000; clear HO_120001; clear HO_120002; clear BK114; clear BK115; clear BK119; clear HB; have HO_120000 := n0_; have HO_120001 := n1_; have HO_120002 := n2_; have BK114 := n3_; have BK115 := n4_; have BK119 := n5_; have HB := n6_; have BK127 := n7_; have GW127 := n8_; have GE127 := n9_; have NB114_127 := n10_; have NB127_114 := n11_; have NB115_127 := n12_; have NB127_115 := n13_; have NB119_127 := n14_; have NB127_119 := n15_; clear n0_ n1_ n2_ n3_ n4_ n5_ n6_ n7_ n8_ n9_ n10_ n11_ n12_ n13_ n14_ n15_; clear hb hbox hg; have hnb51 := NB127_114.out; have hnc51 := NB114_127.out; have hnb52 := NB127_115.out; have hnc52 := NB115_127.out; have hnb53 := NB127_119.out; have hnc53 := NB119_127.out; have hcz54_0 : w50.cell? ⟨gb127, 0, none⟩ = some (.int .i64 0) := bc_ BK127 0; have hcz54_1 : w50.cell? ⟨gb127, 1, none⟩ = some (.int .i64 0) := bc_ BK127 1; have hfz54_0 := blk_frozen BK127.out 0; have hfz54_1 := blk_frozen BK127.out 1; have hnb55 := NB114_115.out; have hnc55 := NB115_114.out; have hnb56 := NB114_119.out; have hnc56 := NB119_114.out; have hcz57_0 : w50.cell? ⟨gb114, 0, none⟩ = some (.int .i64 a1_0) := bc_ BK114 0; have hcz57_1 : w50.cell? ⟨gb114, 1, none⟩ = some (.int .i64 a1_1) := bc_ BK114 1; have hfz57_0 := blk_frozen BK114.out 0; have hfz57_1 := blk_frozen BK114.out 1))
                go_roundg k3
                case measure => have := HJ3.out; have := HK2.out; have := HK3.out; omega
                case rel => exact ⟨(x9_3), (wrap64 (x39_3 + 1)), (by first | rfl | (simp; done) | (simp [*]; done)), (by first | rfl | (simp; done) | (simp [*]; done)), H', ⟨by have := HJ3.out; have := HK2.out; have := HK3.out; omega⟩, ⟨by (with_reducible repeat (first | apply rA | apply rN | apply rD)); exact Kd.R_mono (Kd.R_far (p := ⟨gb127, 1, none⟩) (Kd.R_far (p := ⟨gb127, 0, none⟩) (Kd.R_types HO_120000.out BK127.out (by decide)) (fun _ hk => hk.2) (.int .i64 ((rd_T47 l0 x39_3).f0))) (fun _ hk => hk.2) (.int .i64 ((rd_T47 l0 x39_3).f1))) (fun _ hk => hk.1)⟩, ⟨by (with_reducible repeat (first | apply rA | apply rN | apply rD)); exact Kd.R_mono (Kd.R_far (p := ⟨gb127, 1, none⟩) (Kd.R_far (p := ⟨gb127, 0, none⟩) (Kd.R_mono HO_120001.out (fun k_ hk => (⟨hk, hk.2⟩ : _ ∧ k_ ≠ gb127))) (fun _ hk => hk.2) (.int .i64 ((rd_T47 l0 x39_3).f0))) (fun _ hk => hk.2) (.int .i64 ((rd_T47 l0 x39_3).f1))) (fun _ hk => hk.1.1)⟩, ⟨by (with_reducible repeat (first | apply rA | apply rN | apply rD)); exact Kd.R_mono (Kd.R_far (p := ⟨gb127, 1, none⟩) (Kd.R_far (p := ⟨gb127, 0, none⟩) (Kd.R_types HO_120002.out BK127.out (by decide)) (fun _ hk => hk.2) (.int .i64 ((rd_T47 l0 x39_3).f0))) (fun _ hk => hk.2) (.int .i64 ((rd_T47 l0 x39_3).f1))) (fun _ hk => hk.1)⟩, ⟨by (with_reducible repeat (first | refine kN ?_ _ | refine kD ?_ | refine kA ?_ _)); refine blk_far ?_ NB114_127.out _; (with_reducible repeat (first | refine kN ?_ _ | refine kD ?_ | refine kA ?_ _)); refine blk_far ?_ NB114_127.out _; (with_reducible repeat (first | refine kN ?_ _ | refine kD ?_ | refine kA ?_ _)); exact BK114.out⟩, ⟨by (with_reducible repeat (first | refine kN ?_ _ | refine kD ?_ | refine kA ?_ _)); refine blk_far ?_ NB115_127.out _; (with_reducible repeat (first | refine kN ?_ _ | refine kD ?_ | refine kA ?_ _)); refine blk_far ?_ NB115_127.out _; (with_reducible repeat (first | refine kN ?_ _ | refine kD ?_ | refine kA ?_ _)); exact BK115.out⟩, ⟨by (with_reducible repeat (first | refine kN ?_ _ | refine kD ?_ | refine kA ?_ _)); refine blk_far ?_ NB119_127.out _; (with_reducible repeat (first | refine kN ?_ _ | refine kD ?_ | refine kA ?_ _)); refine blk_far ?_ NB119_127.out _; (with_reducible repeat (first | refine kN ?_ _ | refine kD ?_ | refine kA ?_ _)); exact BK119.out⟩, ⟨hm_⟩⟩
               ·rw [if_neg c49] at H
                have c49b0 : (((rd_T47 l0 x39_3).f0) == a1_0 && (((rd_T47 l0 x39_3).f1) == a1_1)) = false := by simpa using c49
                (try (have c49b1 : decide (((rd_T47 l0 x39_3).f0) = a1_0 && (((rd_T47 l0 x39_3).f1) == a1_1)) = false := by simpa using c49))
                (try (have c49b2 : (((rd_T47 l0 x39_3).f0) == a1_0 && (((rd_T47 l0 x39_3).f1) == a1_1)) = false := by simpa using c49))
                (try (have c49b3 : ¬ (((rd_T47 l0 x39_3).f0) = a1_0 && (((rd_T47 l0 x39_3).f1) == a1_1)) := by simpa using c49))
                clear c49
                have H' := Aside0.mk H
                clear H
                have p126 : 0 ≤ (x39_3 : Int) := of_decide_eq_true (by assumption)
                have q126 : x39_3 < (l0.length : Int) := of_decide_eq_true (by assumption)
                obtain ⟨ad126, e126, hx126_0, hx126_1⟩ := at_T47 HR0.out x39_3 p126 q126
                cases e126
                replace hx126_0 := (HB.out.cell (World.block_lt_of_cell? w _ hx126_0)).trans hx126_0
                replace hx126_1 := (HB.out.cell (World.block_lt_of_cell? w _ hx126_1)).trans hx126_1
                replace p126 := eq_true p126
                replace q126 := eq_true q126
                go_wp2_with (first | ((with_reducible refine gate_dst (N := 11) rfl ?_); refine box_event ?hg (N := 11) ?hd (cs := #[.int .i64 0, .int .i64 0]) (t := 47) ?hr ?_; (case hd => rfl); (case hg => rfl); (case hr => first | (go_simp; done) | (go_simp; rfl)); intro gb127 hg w58 hbox hb; have n0_ := Aside0.mk (Kd.R_below (ra_ HO_120000.out) hb); have n1_ := Aside0.mk (Kd.R_below (Kd.R_elderB (ra_ HO_120001.out) gb127 (Nat.le_of_eq hg.symm)) hb); have n2_ := Aside0.mk (Kd.R_below (ra_ HO_120002.out) hb); have n3_ := Aside0.mk (blk_below (g := gb114) (o := .cells #[.int .i64 a1_0, .int .i64 a1_1] 47 (0, 0)) (kx_ BK114.out) hb); have n4_ := Aside0.mk (blk_below (g := gb115) (o := .cells #[.slice none 0 0, .slice none 0 0, .slice none 0 0] 54 (0, 0)) (kx_ BK115.out) hb); have n5_ := Aside0.mk (blk_below (g := gb119) (o := .cells #[u120000, u120001, u120002] 54 (0, 0)) (kx_ BK119.out) hb); have n6_ := Aside0.mk (below_step (hm_) hb); have n7_ := Aside0.mk (hbox); have n8_ := Aside0.mk ((by rw [hg]; exact (below_size (hm_)) : w.heap.size ≤ gb127)); have n9_ := Aside0.mk ((by rw [hg]; exact (below_size (hm_)) : w.heap.size ≤ gb127)); have n10_ := Aside0.mk ((by rw [hg]; exact Nat.ne_of_lt (blk_lt (g := gb114) (o := .cells #[.int .i64 a1_0, .int .i64 a1_1] 47 (0, 0)) (kx_ BK114.out)) : gb114 ≠ gb127)); have n11_ := Aside0.mk ((by rw [hg]; exact Nat.ne_of_gt (blk_lt (g := gb114) (o := .cells #[.int .i64 a1_0, .int .i64 a1_1] 47 (0, 0)) (kx_ BK114.out)) : gb127 ≠ gb114)); have n12_ := Aside0.mk ((by rw [hg]; exact Nat.ne_of_lt (blk_lt (g := gb115) (o := .cells #[.slice none 0 0, .slice none 0 0, .slice none 0 0] 54 (0, 0)) (kx_ BK115.out)) : gb115 ≠ gb127)); have n13_ := Aside0.mk ((by rw [hg]; exact Nat.ne_of_gt (blk_lt (g := gb115) (o := .cells #[.slice none 0 0, .slice none 0 0, .slice none 0 0] 54 (0, 0)) (kx_ BK115.out)) : gb127 ≠ gb115)); have n14_ := Aside0.mk ((by rw [hg]; exact Nat.ne_of_lt (blk_lt (g := gb119) (o := .cells #[u120000, u120001, u120002] 54 (0, 0)) (kx_ BK119.out)) : gb119 ≠ gb127)); have n15_ := Aside0.mk ((by rw [hg]; exact Nat.ne_of_gt (blk_lt (g := gb119) (o := .cells #[u120000, u120001, u120002] 54 (0, 0)) (kx_ BK119.out)) : gb127 ≠ gb119)); clear HO_120000; clear HO_120001; clear HO_120002; clear BK114; clear BK115; clear BK119; clear HB; have HO_120000 := n0_; have HO_120001 := n1_; have HO_120002 := n2_; have BK114 := n3_; have BK115 := n4_; have BK119 := n5_; have HB := n6_; have BK127 := n7_; have GW127 := n8_; have GE127 := n9_; have NB114_127 := n10_; have NB127_114 := n11_; have NB115_127 := n12_; have NB127_115 := n13_; have NB119_127 := n14_; have NB127_119 := n15_; clear n0_ n1_ n2_ n3_ n4_ n5_ n6_ n7_ n8_ n9_ n10_ n11_ n12_ n13_ n14_ n15_; clear hb hbox hg; have hnb59 := NB127_114.out; have hnc59 := NB114_127.out; have hnb60 := NB127_115.out; have hnc60 := NB115_127.out; have hnb61 := NB127_119.out; have hnc61 := NB119_127.out; have hcz62_0 : w58.cell? ⟨gb127, 0, none⟩ = some (.int .i64 0) := bc_ BK127 0; have hcz62_1 : w58.cell? ⟨gb127, 1, none⟩ = some (.int .i64 0) := bc_ BK127 1; have hfz62_0 := blk_frozen BK127.out 0; have hfz62_1 := blk_frozen BK127.out 1; have hnb63 := NB114_115.out; have hnc63 := NB115_114.out; have hnb64 := NB114_119.out; have hnc64 := NB119_114.out; have hcz65_0 : w58.cell? ⟨gb114, 0, none⟩ = some (.int .i64 a1_0) := bc_ BK114 0; have hcz65_1 : w58.cell? ⟨gb114, 1, none⟩ = some (.int .i64 a1_1) := bc_ BK114 1; have hfz65_0 := blk_frozen BK114.out 0; have hfz65_1 := blk_frozen BK114.out 1))
                go_roundg k3
                case measure => have := HJ3.out; have := HK2.out; have := HK3.out; omega
                case rel => exact ⟨((rd_T47 l0 x39_3).f1), (wrap64 (x39_3 + 1)), (by first | rfl | (simp; done) | (simp [*]; done)), (by first | rfl | (simp; done) | (simp [*]; done)), H', ⟨by have := HJ3.out; have := HK2.out; have := HK3.out; omega⟩, ⟨by (with_reducible repeat (first | apply rA | apply rN | apply rD)); exact Kd.R_mono (Kd.R_far (p := ⟨gb127, 1, none⟩) (Kd.R_far (p := ⟨gb127, 0, none⟩) (Kd.R_types HO_120000.out BK127.out (by decide)) (fun _ hk => hk.2) (.int .i64 ((rd_T47 l0 x39_3).f0))) (fun _ hk => hk.2) (.int .i64 ((rd_T47 l0 x39_3).f1))) (fun _ hk => hk.1)⟩, ⟨by (with_reducible repeat (first | apply rA | apply rN | apply rD)); exact Kd.R_mono (Kd.R_far (p := ⟨gb127, 1, none⟩) (Kd.R_far (p := ⟨gb127, 0, none⟩) (Kd.R_mono HO_120001.out (fun k_ hk => (⟨hk, hk.2⟩ : _ ∧ k_ ≠ gb127))) (fun _ hk => hk.2) (.int .i64 ((rd_T47 l0 x39_3).f0))) (fun _ hk => hk.2) (.int .i64 ((rd_T47 l0 x39_3).f1))) (fun _ hk => hk.1.1)⟩, ⟨by (with_reducible repeat (first | apply rA | apply rN | apply rD)); exact Kd.R_mono (Kd.R_far (p := ⟨gb127, 1, none⟩) (Kd.R_far (p := ⟨gb127, 0, none⟩) (Kd.R_types HO_120002.out BK127.out (by decide)) (fun _ hk => hk.2) (.int .i64 ((rd_T47 l0 x39_3).f0))) (fun _ hk => hk.2) (.int .i64 ((rd_T47 l0 x39_3).f1))) (fun _ hk => hk.1)⟩, ⟨by (with_reducible repeat (first | refine kN ?_ _ | refine kD ?_ | refine kA ?_ _)); refine blk_far ?_ NB114_127.out _; (with_reducible repeat (first | refine kN ?_ _ | refine kD ?_ | refine kA ?_ _)); refine blk_far ?_ NB114_127.out _; (with_reducible repeat (first | refine kN ?_ _ | refine kD ?_ | refine kA ?_ _)); exact BK114.out⟩, ⟨by (with_reducible repeat (first | refine kN ?_ _ | refine kD ?_ | refine kA ?_ _)); refine blk_far ?_ NB115_127.out _; (with_reducible repeat (first | refine kN ?_ _ | refine kD ?_ | refine kA ?_ _)); refine blk_far ?_ NB115_127.out _; (with_reducible repeat (first | refine kN ?_ _ | refine kD ?_ | refine kA ?_ _)); exact BK115.out⟩, ⟨by (with_reducible repeat (first | refine kN ?_ _ | refine kD ?_ | refine kA ?_ _)); refine blk_far ?_ NB119_127.out _; (with_reducible repeat (first | refine kN ?_ _ | refine kD ?_ | refine kA ?_ _)); refine blk_far ?_ NB119_127.out _; (with_reducible repeat (first | refine kN ?_ _ | refine kD ?_ | refine kA ?_ _)); exact BK119.out⟩, ⟨hm_⟩⟩
              ·replace c48 := Bool.eq_false_iff.mpr c48
               subst c48
               have H1 : (impl_regionInside.l1 k3 l0 false x8_2 ((rd_T47 l0 x39_3).f1) l0 (l0.length : Int) (wrap64 (x39_3 + 1)) a1_0 a1_1 x120000_2 x120001_2 x120002_2) = some (r1, r2, r3) := by rw [if_neg (show ¬ (false = true) by decide)] at H; exact H
               clear H
               have H := H1
               clear H1
               have H' := Aside0.mk H
               clear H
               have p126 : 0 ≤ (x39_3 : Int) := of_decide_eq_true (by assumption)
               have q126 : x39_3 < (l0.length : Int) := of_decide_eq_true (by assumption)
               obtain ⟨ad126, e126, hx126_0, hx126_1⟩ := at_T47 HR0.out x39_3 p126 q126
               cases e126
               replace hx126_0 := (HB.out.cell (World.block_lt_of_cell? w _ hx126_0)).trans hx126_0
               replace hx126_1 := (HB.out.cell (World.block_lt_of_cell? w _ hx126_1)).trans hx126_1
               replace p126 := eq_true p126
               replace q126 := eq_true q126
               go_wp2_with (first | ((with_reducible refine gate_dst (N := 11) rfl ?_); refine box_event ?hg (N := 11) ?hd (cs := #[.int .i64 0, .int .i64 0]) (t := 47) ?hr ?_; (case hd => rfl); (case hg => rfl); (case hr => first | (go_simp; done) | (go_simp; rfl)); intro gb127 hg w66 hbox hb; have n0_ := Aside0.mk (Kd.R_below (ra_ HO_120000.out) hb); have n1_ := Aside0.mk (Kd.R_below (Kd.R_elderB (ra_ HO_120001.out) gb127 (Nat.le_of_eq hg.symm)) hb); have n2_ := Aside0.mk (Kd.R_below (ra_ HO_120002.out) hb); have n3_ := Aside0.mk (blk_below (g := gb114) (o := .cells #[.int .i64 a1_0, .int .i64 a1_1] 47 (0, 0)) (kx_ BK114.out) hb); have n4_ := Aside0.mk (blk_below (g := gb115) (o := .cells #[.slice none 0 0, .slice none 0 0, .slice none 0 0] 54 (0, 0)) (kx_ BK115.out) hb); have n5_ := Aside0.mk (blk_below (g := gb119) (o := .cells #[u120000, u120001, u120002] 54 (0, 0)) (kx_ BK119.out) hb); have n6_ := Aside0.mk (below_step (hm_) hb); have n7_ := Aside0.mk (hbox); have n8_ := Aside0.mk ((by rw [hg]; exact (below_size (hm_)) : w.heap.size ≤ gb127)); have n9_ := Aside0.mk ((by rw [hg]; exact (below_size (hm_)) : w.heap.size ≤ gb127)); have n10_ := Aside0.mk ((by rw [hg]; exact Nat.ne_of_lt (blk_lt (g := gb114) (o := .cells #[.int .i64 a1_0, .int .i64 a1_1] 47 (0, 0)) (kx_ BK114.out)) : gb114 ≠ gb127)); have n11_ := Aside0.mk ((by rw [hg]; exact Nat.ne_of_gt (blk_lt (g := gb114) (o := .cells #[.int .i64 a1_0, .int .i64 a1_1] 47 (0, 0)) (kx_ BK114.out)) : gb127 ≠ gb114)); have n12_ := Aside0.mk ((by rw [hg]; exact Nat.ne_of_lt (blk_lt (g := gb115) (o := .cells #[.slice none 0 0, .slice none 0 0, .slice none 0 0] 54 (0, 0)) (kx_ BK115.out)) : gb115 ≠ gb127)); have n13_ := Aside0.mk ((by rw [hg]; exact Nat.ne_of_gt (blk_lt (g := gb115) (o := .cells #[.slice none 0 0, .slice none 0 0, .slice none 0 0] 54 (0, 0)) (kx_ BK115.out)) : gb127 ≠ gb115)); have n14_ := Aside0.mk ((by rw [hg]; exact Nat.ne_of_lt (blk_lt (g := gb119) (o := .cells #[u120000, u120001, u120002] 54 (0, 0)) (kx_ BK119.out)) : gb119 ≠ gb127)); have n15_ := Aside0.mk ((by rw [hg]; exact Nat.ne_of_gt (blk_lt (g := gb119) (o := .cells #[u120000, u120001, u120002] 54 (0, 0)) (kx_ BK119.out)) : gb127 ≠ gb119)); clear HO_120000; clear HO_120001; clear HO_120002; clear BK114; clear BK115; clear BK119; clear HB; have HO_120000 := n0_; have HO_120001 := n1_; have HO_120002 := n2_; have BK114 := n3_; have BK115 := n4_; have BK119 := n5_; have HB := n6_; have BK127 := n7_; have GW127 := n8_; have GE127 := n9_; have NB114_127 := n10_; have NB127_114 := n11_; have NB115_127 := n12_; have NB127_115 := n13_; have NB119_127 := n14_; have NB127_119 := n15_; clear n0_ n1_ n2_ n3_ n4_ n5_ n6_ n7_ n8_ n9_ n10_ n11_ n12_ n13_ n14_ n15_; clear hb hbox hg; have hnb67 := NB127_114.out; have hnc67 := NB114_127.out; have hnb68 := NB127_115.out; have hnc68 := NB115_127.out; have hnb69 := NB127_119.out; have hnc69 := NB119_127.out; have hcz70_0 : w66.cell? ⟨gb127, 0, none⟩ = some (.int .i64 0) := bc_ BK127 0; have hcz70_1 : w66.cell? ⟨gb127, 1, none⟩ = some (.int .i64 0) := bc_ BK127 1; have hfz70_0 := blk_frozen BK127.out 0; have hfz70_1 := blk_frozen BK127.out 1; have hnb71 := NB114_115.out; have hnc71 := NB115_114.out; have hnb72 := NB114_119.out; have hnc72 := NB119_114.out; have hcz73_0 : w66.cell? ⟨gb114, 0, none⟩ = some (.int .i64 a1_0) := bc_ BK114 0; have hcz73_1 : w66.cell? ⟨gb114, 1, none⟩ = some (.int .i64 a1_1) := bc_ BK114 1; have hfz73_0 := blk_frozen BK114.out 0; have hfz73_1 := blk_frozen BK114.out 1))
               go_roundg k3
               case measure => have := HJ3.out; have := HK2.out; have := HK3.out; omega
               case rel => exact ⟨((rd_T47 l0 x39_3).f1), (wrap64 (x39_3 + 1)), (by first | rfl | (simp; done) | (simp [*]; done)), (by first | rfl | (simp; done) | (simp [*]; done)), H', ⟨by have := HJ3.out; have := HK2.out; have := HK3.out; omega⟩, ⟨by (with_reducible repeat (first | apply rA | apply rN | apply rD)); exact Kd.R_mono (Kd.R_far (p := ⟨gb127, 1, none⟩) (Kd.R_far (p := ⟨gb127, 0, none⟩) (Kd.R_types HO_120000.out BK127.out (by decide)) (fun _ hk => hk.2) (.int .i64 ((rd_T47 l0 x39_3).f0))) (fun _ hk => hk.2) (.int .i64 ((rd_T47 l0 x39_3).f1))) (fun _ hk => hk.1)⟩, ⟨by (with_reducible repeat (first | apply rA | apply rN | apply rD)); exact Kd.R_mono (Kd.R_far (p := ⟨gb127, 1, none⟩) (Kd.R_far (p := ⟨gb127, 0, none⟩) (Kd.R_mono HO_120001.out (fun k_ hk => (⟨hk, hk.2⟩ : _ ∧ k_ ≠ gb127))) (fun _ hk => hk.2) (.int .i64 ((rd_T47 l0 x39_3).f0))) (fun _ hk => hk.2) (.int .i64 ((rd_T47 l0 x39_3).f1))) (fun _ hk => hk.1.1)⟩, ⟨by (with_reducible repeat (first | apply rA | apply rN | apply rD)); exact Kd.R_mono (Kd.R_far (p := ⟨gb127, 1, none⟩) (Kd.R_far (p := ⟨gb127, 0, none⟩) (Kd.R_types HO_120002.out BK127.out (by decide)) (fun _ hk => hk.2) (.int .i64 ((rd_T47 l0 x39_3).f0))) (fun _ hk => hk.2) (.int .i64 ((rd_T47 l0 x39_3).f1))) (fun _ hk => hk.1)⟩, ⟨by (with_reducible repeat (first | refine kN ?_ _ | refine kD ?_ | refine kA ?_ _)); refine blk_far ?_ NB114_127.out _; (with_reducible repeat (first | refine kN ?_ _ | refine kD ?_ | refine kA ?_ _)); refine blk_far ?_ NB114_127.out _; (with_reducible repeat (first | refine kN ?_ _ | refine kD ?_ | refine kA ?_ _)); exact BK114.out⟩, ⟨by (with_reducible repeat (first | refine kN ?_ _ | refine kD ?_ | refine kA ?_ _)); refine blk_far ?_ NB115_127.out _; (with_reducible repeat (first | refine kN ?_ _ | refine kD ?_ | refine kA ?_ _)); refine blk_far ?_ NB115_127.out _; (with_reducible repeat (first | refine kN ?_ _ | refine kD ?_ | refine kA ?_ _)); exact BK115.out⟩, ⟨by (with_reducible repeat (first | refine kN ?_ _ | refine kD ?_ | refine kA ?_ _)); refine blk_far ?_ NB119_127.out _; (with_reducible repeat (first | refine kN ?_ _ | refine kD ?_ | refine kA ?_ _)); refine blk_far ?_ NB119_127.out _; (with_reducible repeat (first | refine kN ?_ _ | refine kD ?_ | refine kA ?_ _)); exact BK119.out⟩, ⟨hm_⟩⟩
             ·rw [if_neg c47] at H
              have c47b0 : decide (x9_3 < ((rd_T47 l0 x39_3).f1)) = false := decide_eq_false c47
              clear c47
              have H' := Aside0.mk H
              clear H
              have p126 : 0 ≤ (x39_3 : Int) := of_decide_eq_true (by assumption)
              have q126 : x39_3 < (l0.length : Int) := of_decide_eq_true (by assumption)
              obtain ⟨ad126, e126, hx126_0, hx126_1⟩ := at_T47 HR0.out x39_3 p126 q126
              cases e126
              replace hx126_0 := (HB.out.cell (World.block_lt_of_cell? w _ hx126_0)).trans hx126_0
              replace hx126_1 := (HB.out.cell (World.block_lt_of_cell? w _ hx126_1)).trans hx126_1
              replace p126 := eq_true p126
              replace q126 := eq_true q126
              go_wp2_with (first | ((with_reducible refine gate_dst (N := 11) rfl ?_); refine box_event ?hg (N := 11) ?hd (cs := #[.int .i64 0, .int .i64 0]) (t := 47) ?hr ?_; (case hd => rfl); (case hg => rfl); (case hr => first | (go_simp; done) | (go_simp; rfl)); intro gb127 hg w74 hbox hb; have n0_ := Aside0.mk (Kd.R_below (ra_ HO_120000.out) hb); have n1_ := Aside0.mk (Kd.R_below (Kd.R_elderB (ra_ HO_120001.out) gb127 (Nat.le_of_eq hg.symm)) hb); have n2_ := Aside0.mk (Kd.R_below (ra_ HO_120002.out) hb); have n3_ := Aside0.mk (blk_below (g := gb114) (o := .cells #[.int .i64 a1_0, .int .i64 a1_1] 47 (0, 0)) (kx_ BK114.out) hb); have n4_ := Aside0.mk (blk_below (g := gb115) (o := .cells #[.slice none 0 0, .slice none 0 0, .slice none 0 0] 54 (0, 0)) (kx_ BK115.out) hb); have n5_ := Aside0.mk (blk_below (g := gb119) (o := .cells #[u120000, u120001, u120002] 54 (0, 0)) (kx_ BK119.out) hb); have n6_ := Aside0.mk (below_step (hm_) hb); have n7_ := Aside0.mk (hbox); have n8_ := Aside0.mk ((by rw [hg]; exact (below_size (hm_)) : w.heap.size ≤ gb127)); have n9_ := Aside0.mk ((by rw [hg]; exact (below_size (hm_)) : w.heap.size ≤ gb127)); have n10_ := Aside0.mk ((by rw [hg]; exact Nat.ne_of_lt (blk_lt (g := gb114) (o := .cells #[.int .i64 a1_0, .int .i64 a1_1] 47 (0, 0)) (kx_ BK114.out)) : gb114 ≠ gb127)); have n11_ := Aside0.mk ((by rw [hg]; exact Nat.ne_of_gt (blk_lt (g := gb114) (o := .cells #[.int .i64 a1_0, .int .i64 a1_1] 47 (0, 0)) (kx_ BK114.out)) : gb127 ≠ gb114)); have n12_ := Aside0.mk ((by rw [hg]; exact Nat.ne_of_lt (blk_lt (g := gb115) (o := .cells #[.slice none 0 0, .slice none 0 0, .slice none 0 0] 54 (0, 0)) (kx_ BK115.out)) : gb115 ≠ gb127)); have n13_ := Aside0.mk ((by rw [hg]; exact Nat.ne_of_gt (blk_lt (g := gb115) (o := .cells #[.slice none 0 0, .slice none 0 0, .slice none 0 0] 54 (0, 0)) (kx_ BK115.out)) : gb127 ≠ gb115)); have n14_ := Aside0.mk ((by rw [hg]; exact Nat.ne_of_lt (blk_lt (g := gb119) (o := .cells #[u120000, u120001, u120002] 54 (0, 0)) (kx_ BK119.out)) : gb119 ≠ gb127)); have n15_ := Aside0.mk ((by rw [hg]; exact Nat.ne_of_gt (blk_lt (g := gb119) (o := .cells #[u120000, u120001, u120002] 54 (0, 0)) (kx_ BK119.out)) : gb127 ≠ gb119)); clear HO_120000; clear HO_120001; clear HO_120002; clear BK114; clear BK115; clear BK119; clear HB; have HO_120000 := n0_; have HO_120001 := n1_; have HO_120002 := n2_; have BK114 := n3_; have BK115 := n4_; have BK119 := n5_; have HB := n6_; have BK127 := n7_; have GW127 := n8_; have GE127 := n9_; have NB114_127 := n10_; have NB127_114 := n11_; have NB115_127 := n12_; have NB127_115 := n13_; have NB119_127 := n14_; have NB127_119 := n15_; clear n0_ n1_ n2_ n3_ n4_ n5_ n6_ n7_ n8_ n9_ n10_ n11_ n12_ n13_ n14_ n15_; clear hb hbox hg; have hnb75 := NB127_114.out; have hnc75 := NB114_127.out; have hnb76 := NB127_115.out; have hnc76 := NB115_127.out; have hnb77 := NB127_119.out; have hnc77 := NB119_127.out; have hcz78_0 : w74.cell? ⟨gb127, 0, none⟩ = some (.int .i64 0) := bc_ BK127 0; have hcz78_1 : w74.cell? ⟨gb127, 1, none⟩ = some (.int .i64 0) := bc_ BK127 1; have hfz78_0 := blk_frozen BK127.out 0; have hfz78_1 := blk_frozen BK127.out 1; have hnb79 := NB114_115.out; have hnc79 := NB115_114.out; have hnb80 := NB114_119.out; have hnc80 := NB119_114.out; have hcz81_0 : w74.cell? ⟨gb114, 0, none⟩ = some (.int .i64 a1_0) := bc_ BK114 0; have hcz81_1 : w74.cell? ⟨gb114, 1, none⟩ = some (.int .i64 a1_1) := bc_ BK114 1; have hfz81_0 := blk_frozen BK114.out 0; have hfz81_1 := blk_frozen BK114.out 1))
              go_roundg k3
              case measure => have := HJ3.out; have := HK2.out; have := HK3.out; omega
              case rel => exact ⟨(x9_3), (wrap64 (x39_3 + 1)), (by first | rfl | (simp; done) | (simp [*]; done)), (by first | rfl | (simp; done) | (simp [*]; done)), H', ⟨by have := HJ3.out; have := HK2.out; have := HK3.out; omega⟩, ⟨by (with_reducible repeat (first | apply rA | apply rN | apply rD)); exact Kd.R_mono (Kd.R_far (p := ⟨gb127, 1, none⟩) (Kd.R_far (p := ⟨gb127, 0, none⟩) (Kd.R_types HO_120000.out BK127.out (by decide)) (fun _ hk => hk.2) (.int .i64 ((rd_T47 l0 x39_3).f0))) (fun _ hk => hk.2) (.int .i64 ((rd_T47 l0 x39_3).f1))) (fun _ hk => hk.1)⟩, ⟨by (with_reducible repeat (first | apply rA | apply rN | apply rD)); exact Kd.R_mono (Kd.R_far (p := ⟨gb127, 1, none⟩) (Kd.R_far (p := ⟨gb127, 0, none⟩) (Kd.R_mono HO_120001.out (fun k_ hk => (⟨hk, hk.2⟩ : _ ∧ k_ ≠ gb127))) (fun _ hk => hk.2) (.int .i64 ((rd_T47 l0 x39_3).f0))) (fun _ hk => hk.2) (.int .i64 ((rd_T47 l0 x39_3).f1))) (fun _ hk => hk.1.1)⟩, ⟨by (with_reducible repeat (first | apply rA | apply rN | apply rD)); exact Kd.R_mono (Kd.R_far (p := ⟨gb127, 1, none⟩) (Kd.R_far (p := ⟨gb127, 0, none⟩) (Kd.R_types HO_120002.out BK127.out (by decide)) (fun _ hk => hk.2) (.int .i64 ((rd_T47 l0 x39_3).f0))) (fun _ hk => hk.2) (.int .i64 ((rd_T47 l0 x39_3).f1))) (fun _ hk => hk.1)⟩, ⟨by (with_reducible repeat (first | refine kN ?_ _ | refine kD ?_ | refine kA ?_ _)); refine blk_far ?_ NB114_127.out _; (with_reducible repeat (first | refine kN ?_ _ | refine kD ?_ | refine kA ?_ _)); refine blk_far ?_ NB114_127.out _; (with_reducible repeat (first | refine kN ?_ _ | refine kD ?_ | refine kA ?_ _)); exact BK114.out⟩, ⟨by (with_reducible repeat (first | refine kN ?_ _ | refine kD ?_ | refine kA ?_ _)); refine blk_far ?_ NB115_127.out _; (with_reducible repeat (first | refine kN ?_ _ | refine kD ?_ | refine kA ?_ _)); refine blk_far ?_ NB115_127.out _; (with_reducible repeat (first | refine kN ?_ _ | refine kD ?_ | refine kA ?_ _)); exact BK115.out⟩, ⟨by (with_reducible repeat (first | refine kN ?_ _ | refine kD ?_ | refine kA ?_ _)); refine blk_far ?_ NB119_127.out _; (with_reducible repeat (first | refine kN ?_ _ | refine kD ?_ | refine kA ?_ _)); refine blk_far ?_ NB119_127.out _; (with_reducible repeat (first | refine kN ?_ _ | refine kD ?_ | refine kA ?_ _)); exact BK119.out⟩, ⟨hm_⟩⟩
            ·rw [if_neg c46] at H
             have c46b0 : decide (((rd_T47 l0 x39_3).f1) ≤ a1_1) = false := decide_eq_false c46
             clear c46
             have H' := Aside0.mk H
             clear H
             have p126 : 0 ≤ (x39_3 : Int) := of_decide_eq_true (by assumption)
             have q126 : x39_3 < (l0.length : Int) := of_decide_eq_true (by assumption)
             obtain ⟨ad126, e126, hx126_0, hx126_1⟩ := at_T47 HR0.out x39_3 p126 q126
             cases e126
             replace hx126_0 := (HB.out.cell (World.block_lt_of_cell? w _ hx126_0)).trans hx126_0
             replace hx126_1 := (HB.out.cell (World.block_lt_of_cell? w _ hx126_1)).trans hx126_1
             replace p126 := eq_true p126
             replace q126 := eq_true q126
             go_wp2_with (first | ((with_reducible refine gate_dst (N := 11) rfl ?_); refine box_event ?hg (N := 11) ?hd (cs := #[.int .i64 0, .int .i64 0]) (t := 47) ?hr ?_; (case hd => rfl); (case hg => rfl); (case hr => first | (go_simp; done) | (go_simp; rfl)); intro gb127 hg w82 hbox hb; have n0_ := Aside0.mk (Kd.R_below (ra_ HO_120000.out) hb); have n1_ := Aside0.mk (Kd.R_below (Kd.R_elderB (ra_ HO_120001.out) gb127 (Nat.le_of_eq hg.symm)) hb); have n2_ := Aside0.mk (Kd.R_below (ra_ HO_120002.out) hb); have n3_ := Aside0.mk (blk_below (g := gb114) (o := .cells #[.int .i64 a1_0, .int .i64 a1_1] 47 (0, 0)) (kx_ BK114.out) hb); have n4_ := Aside0.mk (blk_below (g := gb115) (o := .cells #[.slice none 0 0, .slice none 0 0, .slice none 0 0] 54 (0, 0)) (kx_ BK115.out) hb); have n5_ := Aside0.mk (blk_below (g := gb119) (o := .cells #[u120000, u120001, u120002] 54 (0, 0)) (kx_ BK119.out) hb); have n6_ := Aside0.mk (below_step (hm_) hb); have n7_ := Aside0.mk (hbox); have n8_ := Aside0.mk ((by rw [hg]; exact (below_size (hm_)) : w.heap.size ≤ gb127)); have n9_ := Aside0.mk ((by rw [hg]; exact (below_size (hm_)) : w.heap.size ≤ gb127)); have n10_ := Aside0.mk ((by rw [hg]; exact Nat.ne_of_lt (blk_lt (g := gb114) (o := .cells #[.int .i64 a1_0, .int .i64 a1_1] 47 (0, 0)) (kx_ BK114.out)) : gb114 ≠ gb127)); have n11_ := Aside0.mk ((by rw [hg]; exact Nat.ne_of_gt (blk_lt (g := gb114) (o := .cells #[.int .i64 a1_0, .int .i64 a1_1] 47 (0, 0)) (kx_ BK114.out)) : gb127 ≠ gb114)); have n12_ := Aside0.mk ((by rw [hg]; exact Nat.ne_of_lt (blk_lt (g := gb115) (o := .cells #[.slice none 0 0, .slice none 0 0, .slice none 0 0] 54 (0, 0)) (kx_ BK115.out)) : gb115 ≠ gb127)); have n13_ := Aside0.mk ((by rw [hg]; exact Nat.ne_of_gt (blk_lt (g := gb115) (o := .cells #[.slice none 0 0, .slice none 0 0, .slice none 0 0] 54 (0, 0)) (kx_ BK115.out)) : gb127 ≠ gb115)); have n14_ := Aside0.mk ((by rw [hg]; exact Nat.ne_of_lt (blk_lt (g := gb119) (o := .cells #[u120000, u120001, u120002] 54 (0, 0)) (kx_ BK119.out)) : gb119 ≠ gb127)); have n15_ := Aside0.mk ((by rw [hg]; exact Nat.ne_of_gt (blk_lt (g := gb119) (o := .cells #[u120000, u120001, u120002] 54 (0, 0)) (kx_ BK119.out)) : gb127 ≠ gb119)); clear HO_120000; clear HO_120001; clear HO_120002; clear BK114; clear BK115; clear BK119; clear HB; have HO_120000 := n0_; have HO_120001 := n1_; have HO_120002 := n2_; have BK114 := n3_; have BK115 := n4_; have BK119 := n5_; have HB := n6_; have BK127 := n7_; have GW127 := n8_; have GE127 := n9_; have NB114_127 := n10_; have NB127_114 := n11_; have NB115_127 := n12_; have NB127_115 := n13_; have NB119_127 := n14_; have NB127_119 := n15_; clear n0_ n1_ n2_ n3_ n4_ n5_ n6_ n7_ n8_ n9_ n10_ n11_ n12_ n13_ n14_ n15_; clear hb hbox hg; have hnb83 := NB127_114.out; have hnc83 := NB114_127.out; have hnb84 := NB127_115.out; have hnc84 := NB115_127.out; have hnb85 := NB127_119.out; have hnc85 := NB119_127.out; have hcz86_0 : w82.cell? ⟨gb127, 0, none⟩ = some (.int .i64 0) := bc_ BK127 0; have hcz86_1 : w82.cell? ⟨gb127, 1, none⟩ = some (.int .i64 0) := bc_ BK127 1; have hfz86_0 := blk_frozen BK127.out 0; have hfz86_1 := blk_frozen BK127.out 1; have hnb87 := NB114_115.out; have hnc87 := NB115_114.out; have hnb88 := NB114_119.out; have hnc88 := NB119_114.out; have hcz89_0 : w82.cell? ⟨gb114, 0, none⟩ = some (.int .i64 a1_0) := bc_ BK114 0; have hcz89_1 : w82.cell? ⟨gb114, 1, none⟩ = some (.int .i64 a1_1) := bc_ BK114 1; have hfz89_0 := blk_frozen BK114.out 0; have hfz89_1 := blk_frozen BK114.out 1))
             go_roundg k3
             case measure => have := HJ3.out; have := HK2.out; have := HK3.out; omega
             case rel => exact ⟨(x9_3), (wrap64 (x39_3 + 1)), (by first | rfl | (simp; done) | (simp [*]; done)), (by first | rfl | (simp; done) | (simp [*]; done)), H', ⟨by have := HJ3.out; have := HK2.out; have := HK3.out; omega⟩, ⟨by (with_reducible repeat (first | apply rA | apply rN | apply rD)); exact Kd.R_mono (Kd.R_far (p := ⟨gb127, 1, none⟩) (Kd.R_far (p := ⟨gb127, 0, none⟩) (Kd.R_types HO_120000.out BK127.out (by decide)) (fun _ hk => hk.2) (.int .i64 ((rd_T47 l0 x39_3).f0))) (fun _ hk => hk.2) (.int .i64 ((rd_T47 l0 x39_3).f1))) (fun _ hk => hk.1)⟩, ⟨by (with_reducible repeat (first | apply rA | apply rN | apply rD)); exact Kd.R_mono (Kd.R_far (p := ⟨gb127, 1, none⟩) (Kd.R_far (p := ⟨gb127, 0, none⟩) (Kd.R_mono HO_120001.out (fun k_ hk => (⟨hk, hk.2⟩ : _ ∧ k_ ≠ gb127))) (fun _ hk => hk.2) (.int .i64 ((rd_T47 l0 x39_3).f0))) (fun _ hk => hk.2) (.int .i64 ((rd_T47 l0 x39_3).f1))) (fun _ hk => hk.1.1)⟩, ⟨by (with_reducible repeat (first | apply rA | apply rN | apply rD)); exact Kd.R_mono (Kd.R_far (p := ⟨gb127, 1, none⟩) (Kd.R_far (p := ⟨gb127, 0, none⟩) (Kd.R_types HO_120002.out BK127.out (by decide)) (fun _ hk => hk.2) (.int .i64 ((rd_T47 l0 x39_3).f0))) (fun _ hk => hk.2) (.int .i64 ((rd_T47 l0 x39_3).f1))) (fun _ hk => hk.1)⟩, ⟨by (with_reducible repeat (first | refine kN ?_ _ | refine kD ?_ | refine kA ?_ _)); refine blk_far ?_ NB114_127.out _; (with_reducible repeat (first | refine kN ?_ _ | refine kD ?_ | refine kA ?_ _)); refine blk_far ?_ NB114_127.out _; (with_reducible repeat (first | refine kN ?_ _ | refine kD ?_ | refine kA ?_ _)); exact BK114.out⟩, ⟨by (with_reducible repeat (first | refine kN ?_ _ | refine kD ?_ | refine kA ?_ _)); refine blk_far ?_ NB115_127.out _; (with_reducible repeat (first | refine kN ?_ _ | refine kD ?_ | refine kA ?_ _)); refine blk_far ?_ NB115_127.out _; (with_reducible repeat (first | refine kN ?_ _ | refine kD ?_ | refine kA ?_ _)); exact BK115.out⟩, ⟨by (with_reducible repeat (first | refine kN ?_ _ | refine kD ?_ | refine kA ?_ _)); refine blk_far ?_ NB119_127.out _; (with_reducible repeat (first | refine kN ?_ _ | refine kD ?_ | refine kA ?_ _)); refine blk_far ?_ NB119_127.out _; (with_reducible repeat (first | refine kN ?_ _ | refine kD ?_ | refine kA ?_ _)); exact BK119.out⟩, ⟨hm_⟩⟩
           ·rw [if_neg c45] at H
            have c45b0 : (((rd_T47 l0 x39_3).f0) == x8_2) = false := beq_eq_false_iff_ne.mpr c45
            have c45b1 : (((rd_T47 l0 x39_3).f0) != x8_2) = true := bne_iff_ne.mpr c45
            have H' := Aside0.mk H
            clear H
            have p126 : 0 ≤ (x39_3 : Int) := of_decide_eq_true (by assumption)
            have q126 : x39_3 < (l0.length : Int) := of_decide_eq_true (by assumption)
            obtain ⟨ad126, e126, hx126_0, hx126_1⟩ := at_T47 HR0.out x39_3 p126 q126
            cases e126
            replace hx126_0 := (HB.out.cell (World.block_lt_of_cell? w _ hx126_0)).trans hx126_0
            replace hx126_1 := (HB.out.cell (World.block_lt_of_cell? w _ hx126_1)).trans hx126_1
            replace p126 := eq_true p126
            replace q126 := eq_true q126
            go_wp2_with (first | ((with_reducible refine gate_dst (N := 11) rfl ?_); refine box_event ?hg (N := 11) ?hd (cs := #[.int .i64 0, .int .i64 0]) (t := 47) ?hr ?_; (case hd => rfl); (case hg => rfl); (case hr => first | (go_simp; done) | (go_simp; rfl)); intro gb127 hg w90 hbox hb; have n0_ := Aside0.mk (Kd.R_below (ra_ HO_120000.out) hb); have n1_ := Aside0.mk (Kd.R_below (Kd.R_elderB (ra_ HO_120001.out) gb127 (Nat.le_of_eq hg.symm)) hb); have n2_ := Aside0.mk (Kd.R_below (ra_ HO_120002.out) hb); have n3_ := Aside0.mk (blk_below (g := gb114) (o := .cells #[.int .i64 a1_0, .int .i64 a1_1] 47 (0, 0)) (kx_ BK114.out) hb); have n4_ := Aside0.mk (blk_below (g := gb115) (o := .cells #[.slice none 0 0, .slice none 0 0, .slice none 0 0] 54 (0, 0)) (kx_ BK115.out) hb); have n5_ := Aside0.mk (blk_below (g := gb119) (o := .cells #[u120000, u120001, u120002] 54 (0, 0)) (kx_ BK119.out) hb); have n6_ := Aside0.mk (below_step (hm_) hb); have n7_ := Aside0.mk (hbox); have n8_ := Aside0.mk ((by rw [hg]; exact (below_size (hm_)) : w.heap.size ≤ gb127)); have n9_ := Aside0.mk ((by rw [hg]; exact (below_size (hm_)) : w.heap.size ≤ gb127)); have n10_ := Aside0.mk ((by rw [hg]; exact Nat.ne_of_lt (blk_lt (g := gb114) (o := .cells #[.int .i64 a1_0, .int .i64 a1_1] 47 (0, 0)) (kx_ BK114.out)) : gb114 ≠ gb127)); have n11_ := Aside0.mk ((by rw [hg]; exact Nat.ne_of_gt (blk_lt (g := gb114) (o := .cells #[.int .i64 a1_0, .int .i64 a1_1] 47 (0, 0)) (kx_ BK114.out)) : gb127 ≠ gb114)); have n12_ := Aside0.mk ((by rw [hg]; exact Nat.ne_of_lt (blk_lt (g := gb115) (o := .cells #[.slice none 0 0, .slice none 0 0, .slice none 0 0] 54 (0, 0)) (kx_ BK115.out)) : gb115 ≠ gb127)); have n13_ := Aside0.mk ((by rw [hg]; exact Nat.ne_of_gt (blk_lt (g := gb115) (o := .cells #[.slice none 0 0, .slice none 0 0, .slice none 0 0] 54 (0, 0)) (kx_ BK115.out)) : gb127 ≠ gb115)); have n14_ := Aside0.mk ((by rw [hg]; exact Nat.ne_of_lt (blk_lt (g := gb119) (o := .cells #[u120000, u120001, u120002] 54 (0, 0)) (kx_ BK119.out)) : gb119 ≠ gb127)); have n15_ := Aside0.mk ((by rw [hg]; exact Nat.ne_of_gt (blk_lt (g := gb119) (o := .cells #[u120000, u120001, u120002] 54 (0, 0)) (kx_ BK119.out)) : gb127 ≠ gb119)); clear HO_120000; clear HO_120001; clear HO_120002; clear BK114; clear BK115; clear BK119; clear HB; have HO_120000 := n0_; have HO_120001 := n1_; have HO_120002 := n2_; have BK114 := n3_; have BK115 := n4_; have BK119 := n5_; have HB := n6_; have BK127 := n7_; have GW127 := n8_; have GE127 := n9_; have NB114_127 := n10_; have NB127_114 := n11_; have NB115_127 := n12_; have NB127_115 := n13_; have NB119_127 := n14_; have NB127_119 := n15_; clear n0_ n1_ n2_ n3_ n4_ n5_ n6_ n7_ n8_ n9_ n10_ n11_ n12_ n13_ n14_ n15_; clear hb hbox hg; have hnb91 := NB127_114.out; have hnc91 := NB114_127.out; have hnb92 := NB127_115.out; have hnc92 := NB115_127.out; have hnb93 := NB127_119.out; have hnc93 := NB119_127.out; have hcz94_0 : w90.cell? ⟨gb127, 0, none⟩ = some (.int .i64 0) := bc_ BK127 0; have hcz94_1 : w90.cell? ⟨gb127, 1, none⟩ = some (.int .i64 0) := bc_ BK127 1; have hfz94_0 := blk_frozen BK127.out 0; have hfz94_1 := blk_frozen BK127.out 1))
            go_roundg k3
            case measure => have := HJ3.out; have := HK2.out; have := HK3.out; omega
            case rel => exact ⟨(x9_3), (wrap64 (x39_3 + 1)), (by first | rfl | (simp; done) | (simp [*]; done)), (by first | rfl | (simp; done) | (simp [*]; done)), H', ⟨by have := HJ3.out; have := HK2.out; have := HK3.out; omega⟩, ⟨by (with_reducible repeat (first | apply rA | apply rN | apply rD)); exact Kd.R_mono (Kd.R_far (p := ⟨gb127, 1, none⟩) (Kd.R_far (p := ⟨gb127, 0, none⟩) (Kd.R_types HO_120000.out BK127.out (by decide)) (fun _ hk => hk.2) (.int .i64 ((rd_T47 l0 x39_3).f0))) (fun _ hk => hk.2) (.int .i64 ((rd_T47 l0 x39_3).f1))) (fun _ hk => hk.1)⟩, ⟨by (with_reducible repeat (first | apply rA | apply rN | apply rD)); exact Kd.R_mono (Kd.R_far (p := ⟨gb127, 1, none⟩) (Kd.R_far (p := ⟨gb127, 0, none⟩) (Kd.R_mono HO_120001.out (fun k_ hk => (⟨hk, hk.2⟩ : _ ∧ k_ ≠ gb127))) (fun _ hk => hk.2) (.int .i64 ((rd_T47 l0 x39_3).f0))) (fun _ hk => hk.2) (.int .i64 ((rd_T47 l0 x39_3).f1))) (fun _ hk => hk.1.1)⟩, ⟨by (with_reducible repeat (first | apply rA | apply rN | apply rD)); exact Kd.R_mono (Kd.R_far (p := ⟨gb127, 1, none⟩) (Kd.R_far (p := ⟨gb127, 0, none⟩) (Kd.R_types HO_120002.out BK127.out (by decide)) (fun _ hk => hk.2) (.int .i64 ((rd_T47 l0 x39_3).f0))) (fun _ hk => hk.2) (.int .i64 ((rd_T47 l0 x39_3).f1))) (fun _ hk => hk.1)⟩, ⟨by (with_reducible repeat (first | refine kN ?_ _ | refine kD ?_ | refine kA ?_ _)); refine blk_far ?_ NB114_127.out _; (with_reducible repeat (first | refine kN ?_ _ | refine kD ?_ | refine kA ?_ _)); refine blk_far ?_ NB114_127.out _; (with_reducible repeat (first | refine kN ?_ _ | refine kD ?_ | refine kA ?_ _)); exact BK114.out⟩, ⟨by (with_reducible repeat (first | refine kN ?_ _ | refine kD ?_ | refine kA ?_ _)); refine blk_far ?_ NB115_127.out _; (with_reducible repeat (first | refine kN ?_ _ | refine kD ?_ | refine kA ?_ _)); refine blk_far ?_ NB115_127.out _; (with_reducible repeat (first | refine kN ?_ _ | refine kD ?_ | refine kA ?_ _)); exact BK115.out⟩, ⟨by (with_reducible repeat (first | refine kN ?_ _ | refine kD ?_ | refine kA ?_ _)); refine blk_far ?_ NB119_127.out _; (with_reducible repeat (first | refine kN ?_ _ | refine kD ?_ | refine kA ?_ _)); refine blk_far ?_ NB119_127.out _; (with_reducible repeat (first | refine kN ?_ _ | refine kD ?_ | refine kA ?_ _)); exact BK119.out⟩, ⟨hm_⟩⟩
          ·rw [if_neg c44] at H
           exact absurd H (by simp)
         ·rw [if_neg c43] at H
          exact absurd H (by simp)
        ·rw [if_neg c42] at H
         have c42b0 : decide (x39_3 < (l0.length : Int)) = false := decide_eq_false c42
         clear c42
         by_cases c95 : x9_3 > x8_2
         ·rw [if_pos c95] at H
          have c95b0 : decide (x8_2 < x9_3) = true := decide_eq_true c95
          clear c95
          by_cases c96 : x120001_2.length < 8796093022208
          ·rw [if_pos c96] at H
           have LMc96 := Aside0.mk c96
           clear c96
           obtain ⟨y128, hy128⟩ : ∃ y_ : List (S47), y_ = (x120001_2 ++ [(⟨x8_2, x9_3⟩ : S47)]) := ⟨_, rfl⟩
           replace H : (if x120000_2.length < 17592186044416 then (impl_regionInside.l0 k3 l0 a2 x9_3 a1_0 a1_1 (x120000_2 ++ [x9_3]) y128 x120002_2) else (none)) = some (r1, r2, r3) := by first | (rw [hy128]; with_reducible exact H) | (have H2_ := (Option.bind_some _ _).symm.trans H; rw [hy128]; with_reducible exact H2_) | (have H2_ := (Option.bind_some _ _).symm.trans H; with_reducible exact H2_) | with_reducible exact H | (rw [hy128]; exact H) | exact H
           have Ny128 := Aside0.mk hy128
           clear hy128
           by_cases c97 : x120000_2.length < 17592186044416
           ·rw [if_pos c97] at H
            have LMc97 := Aside0.mk c97
            clear c97
            obtain ⟨y131, hy131⟩ : ∃ y_ : List Int, y_ = (x120000_2 ++ [x9_3]) := ⟨_, rfl⟩
            replace H : (impl_regionInside.l0 k3 l0 a2 x9_3 a1_0 a1_1 y131 y128 x120002_2) = some (r1, r2, r3) := by first | (rw [hy131]; with_reducible exact H) | (have H2_ := (Option.bind_some _ _).symm.trans H; rw [hy131]; with_reducible exact H2_) | (have H2_ := (Option.bind_some _ _).symm.trans H; with_reducible exact H2_) | with_reducible exact H | (rw [hy131]; exact H) | exact H
            have Ny131 := Aside0.mk hy131
            clear hy131
            have H' := Aside0.mk H
            clear H
            have hnb98 := NB119_114.out
            have hnc98 := NB114_119.out
            have hnb99 := NB119_115.out
            have hnc99 := NB115_119.out
            have hcz100_0 : wr.cell? ⟨gb119, 0, none⟩ = some (u120000) := bc_ BK119 0
            have hcz100_1 : wr.cell? ⟨gb119, 1, none⟩ = some (u120001) := bc_ BK119 1
            have hcz100_2 : wr.cell? ⟨gb119, 2, none⟩ = some (u120002) := bc_ BK119 2
            have hfz100_0 := blk_frozen BK119.out 0
            have hfz100_1 := blk_frozen BK119.out 1
            have hfz100_2 := blk_frozen BK119.out 2
            go_wp2_with (first | ((with_reducible refine gate_builtin (b := .append) (xs := #[.tmp 76, .tmp 80]) rfl ?_); at_builtin; refine Kd.R_append k47 (w0 := w) w.heap.size rfl (.tmp 76) (.tmp 80) 27 47 (.agg #[(.int .i64 0), (.int .i64 0)]) 16 rfl Try.underlying27 info47 rfl (by decide) (by omega) u120001 x120001_2 (⟨x8_2, x9_3⟩ : S47) [.int .i64 x8_2, .int .i64 x9_3] (fun k_ => k_ ≠ gb114) (fun _ => False) rfl rfl ?aP (fun _ hk => hk.elim) ?aF ?aO ?aB ?aS ?aL ?_; (case aP => exact k47_mkM _ _ _ (⟨x8_2, x9_3⟩ : S47)); (case aB => exact (hm_)); (case aF => exact (fun k_ hk => Kd.freshB (g := gb114) (o := .cells #[.int .i64 a1_0, .int .i64 a1_1] 47 (0, 0)) (kx_ BK114.out) k_ hk)); (case aO => exact (ra_ HO_120001.out)); (case aS => exact (below_size (hm_))); (case aL => have := LMc96.out; omega); intro v129 w101 ho hb hg hat; rw [← Ny128.out] at ho; have n0_ := Aside0.mk (Kd.R_over' (ra_ HO_120000.out) (Kd.R_typed (ra_ HO_120001.out)) (by decide) hg); have n1_ := Aside0.mk (Kd.R_over' (ra_ HO_120002.out) (Kd.R_typed (ra_ HO_120001.out)) (by decide) hg); have n2_ := Aside0.mk (blk_grown (g := gb114) (o := .cells #[.int .i64 a1_0, .int .i64 a1_1] 47 (0, 0)) (kx_ BK114.out) hg (Kd.R_away HO_120001.out (fun _ hk => hk))); have n3_ := Aside0.mk (blk_grown (g := gb115) (o := .cells #[.slice none 0 0, .slice none 0 0, .slice none 0 0] 54 (0, 0)) (kx_ BK115.out) hg (Kd.R_ne HO_120001.out BK115.out (by decide))); have n4_ := Aside0.mk (blk_grown (g := gb119) (o := .cells #[u120000, u120001, u120002] 54 (0, 0)) (kx_ BK119.out) hg (Kd.R_ne HO_120001.out BK119.out (by decide))); have n5_ := Aside0.mk (hb); have n6_ := Aside0.mk (ho); clear HO_120000; clear HO_120002; clear BK114; clear BK115; clear BK119; clear HB; clear HO_120001; have HO_120000 := n0_; have HO_120002 := n1_; have BK114 := n2_; have BK115 := n3_; have BK119 := n4_; have HB := n5_; have HO130 := n6_; clear n0_ n1_ n2_ n3_ n4_ n5_ n6_; clear ho hb hg hat; obtain ⟨Ao102, co102, eo102⟩ := Kd.R_slice HO130.out; subst eo102; have hcz103_0 : w101.cell? ⟨gb119, 0, none⟩ = some (u120000) := bc_ BK119 0; have hcz103_1 : w101.cell? ⟨gb119, 1, none⟩ = some (u120001) := bc_ BK119 1; have hcz103_2 : w101.cell? ⟨gb119, 2, none⟩ = some (u120002) := bc_ BK119 2; have hfz103_0 := blk_frozen BK119.out 0; have hfz103_1 := blk_frozen BK119.out 1; have hfz103_2 := blk_frozen BK119.out 2) | ((with_reducible refine gate_builtin (b := .append) (xs := #[.tmp 93, .tmp 95]) rfl ?_); at_builtin; refine Kd.R_append (Kd.int .i64) (w0 := w) w.heap.size rfl (.tmp 93) (.tmp 95) 24 3 (.int .i64 0) 8 rfl Try.underlying24 info3 rfl (by decide) (by omega) u120000 x120000_2 x9_3 [.int .i64 x9_3] (fun k_ => some k_ ≠ (u120002 : Value).ownBlock) (fun _ => False) rfl (by first | (go_simp; done) | (go_simp; rfl)) ?aP (fun _ hk => hk.elim) ?aF ?aO ?aB ?aS ?aL ?_; (case aP => exact rfl); (case aB => exact (hm_)); (case aF => exact (fun k_ hk => Kd.fresh' (Kd.R_lt (by (with_reducible repeat (first | apply rA | apply rN | apply rD)); exact (Kd.R_mono (Kd.R_far (p := ⟨gb119, 1, none⟩) (Kd.R_types HO_120002.out BK119.out (by decide)) (fun _ hk => hk.2) (.slice Ao102 y128.length co102)) (fun _ h_ => h_.1)))) k_ hk)); (case aO => exact (by (with_reducible repeat (first | apply rA | apply rN | apply rD)); exact Kd.R_mono (Kd.R_far (p := ⟨gb119, 1, none⟩) (Kd.R_types HO_120000.out BK119.out (by decide)) (fun _ hk => hk.2) (.slice Ao102 y128.length co102)) (fun _ hk => hk.1))); (case aS => exact (below_size (hm_))); (case aL => have := LMc97.out; omega); intro v132 w104 ho hb hg hat; rw [← Ny131.out] at ho; have n0_ := Aside0.mk (Kd.R_after (ok := (fun _ => True)) (by (with_reducible repeat (first | apply rA | apply rN | apply rD)); exact Kd.R_mono (Kd.R_far (p := ⟨gb119, 1, none⟩) (Kd.R_types HO_120002.out BK119.out (by decide)) (fun _ hk => hk.2) (.slice Ao102 y128.length co102)) (fun _ hk => ⟨trivial, hk.1⟩)) hg hat); have n1_ := Aside0.mk (blk_grown (g := gb114) (o := .cells #[.int .i64 a1_0, .int .i64 a1_1] 47 (0, 0)) (by (with_reducible repeat (first | refine kN ?_ _ | refine kD ?_ | refine kA ?_ _)); refine blk_far ?_ NB114_119.out _; (with_reducible repeat (first | refine kN ?_ _ | refine kD ?_ | refine kA ?_ _)); exact BK114.out) hg (Kd.R_ne HO_120000.out BK114.out (by decide))); have n2_ := Aside0.mk (blk_grown (g := gb115) (o := .cells #[.slice none 0 0, .slice none 0 0, .slice none 0 0] 54 (0, 0)) (by (with_reducible repeat (first | refine kN ?_ _ | refine kD ?_ | refine kA ?_ _)); refine blk_far ?_ NB115_119.out _; (with_reducible repeat (first | refine kN ?_ _ | refine kD ?_ | refine kA ?_ _)); exact BK115.out) hg (Kd.R_ne HO_120000.out BK115.out (by decide))); have n3_ := Aside0.mk (blk_grown (g := gb119) (o := .cells #[u120000, .slice Ao102 y128.length co102, u120002] 54 (0, 0)) (by (with_reducible repeat (first | refine kN ?_ _ | refine kD ?_ | refine kA ?_ _)); refine blk_put (cs := #[u120000, u120001, u120002]) ?_ 1 _ rfl; (with_reducible repeat (first | refine kN ?_ _ | refine kD ?_ | refine kA ?_ _)); exact BK119.out) hg (Kd.R_ne HO_120000.out BK119.out (by decide))); have n4_ := Aside0.mk (Kd.R_over' (by (with_reducible repeat (first | apply rA | apply rN | apply rD)); exact (Kd.R_mono (Kd.R_far (p := ⟨gb119, 1, none⟩) (Kd.R_types HO130.out BK119.out (by decide)) (fun _ hk => hk.2) (.slice Ao102 y128.length co102)) (fun _ h_ => h_.1))) (Kd.R_typed (by (with_reducible repeat (first | apply rA | apply rN | apply rD)); exact (Kd.R_mono (Kd.R_far (p := ⟨gb119, 1, none⟩) (Kd.R_types HO_120000.out BK119.out (by decide)) (fun _ hk => hk.2) (.slice Ao102 y128.length co102)) (fun _ h_ => h_.1)))) (by decide) hg); have n5_ := Aside0.mk (hb); have n6_ := Aside0.mk (ho); clear HO_120002; clear BK114; clear BK115; clear BK119; clear HO130; clear HB; clear HO_120000; have HO_120002 := n0_; have BK114 := n1_; have BK115 := n2_; have BK119 := n3_; have HO130 := n4_; have HB := n5_; have HO133 := n6_; clear n0_ n1_ n2_ n3_ n4_ n5_ n6_; clear ho hb hg hat; obtain ⟨Ao105, co105, eo105⟩ := Kd.R_slice HO133.out; subst eo105; have hcz106_0 : w104.cell? ⟨gb119, 0, none⟩ = some (u120000) := bc_ BK119 0; have hcz106_1 : w104.cell? ⟨gb119, 1, none⟩ = some (.slice Ao102 y128.length co102) := bc_ BK119 1; have hcz106_2 : w104.cell? ⟨gb119, 2, none⟩ = some (u120002) := bc_ BK119 2; have hfz106_0 := blk_frozen BK119.out 0; have hfz106_1 := blk_frozen BK119.out 1; have hfz106_2 := blk_frozen BK119.out 2))
            go_roundg k3
            case measure => have := HJ3.out; have := HK2.out; have := HK3.out; omega
            case rel => exact ⟨(x9_3), (y131), (y128), (x120002_2), (.slice Ao105 y131.length co105), (.slice Ao102 y128.length co102), (u120002), (by first | rfl | (simp; done) | (simp [*]; done)), H', ⟨by have := HJ3.out; have := HK2.out; have := HK3.out; omega⟩, ⟨by (with_reducible repeat (first | apply rA | apply rN | apply rD)); exact Kd.R_mono (Kd.R_far (p := ⟨gb119, 0, none⟩) (Kd.R_types HO133.out BK119.out (by decide)) (fun _ hk => hk.2) (.slice Ao105 y131.length co105)) (fun _ hk => hk.1)⟩, ⟨by (with_reducible repeat (first | apply rA | apply rN | apply rD)); exact Kd.R_mono (Kd.R_far (p := ⟨gb119, 0, none⟩) (Kd.R_types HO130.out BK119.out (by decide)) (fun _ hk => hk.2) (.slice Ao105 y131.length co105)) (fun _ hk => hk.1)⟩, ⟨by (with_reducible repeat (first | apply rA | apply rN | apply rD)); exact Kd.R_mono (Kd.R_far (p := ⟨gb119, 0, none⟩) (Kd.R_types HO_120002.out BK119.out (by decide)) (fun _ hk => hk.2) (.slice Ao105 y131.length co105)) (fun _ hk => hk.1.2)⟩, ⟨by (with_reducible repeat (first | refine kN ?_ _ | refine kD ?_ | refine kA ?_ _)); refine blk_far ?_ NB114_119.out _; (with_reducible repeat (first | refine kN ?_ _ | refine kD ?_ | refine kA ?_ _)); exact BK114.out⟩, ⟨by (with_reducible repeat (first | refine kN ?_ _ | refine kD ?_ | refine kA ?_ _)); refine blk_far ?_ NB115_119.out _; (with_reducible repeat (first | refine kN ?_ _ | refine kD ?_ | refine kA ?_ _)); exact BK115.out⟩, ⟨by (with_reducible repeat (first | refine kN ?_ _ | refine kD ?_ | refine kA ?_ _)); refine blk_put (cs := #[u120000, .slice Ao102 y128.length co102, u120002]) ?_ 0 _ rfl; (with_reducible repeat (first | refine kN ?_ _ | refine kD ?_ | refine kA ?_ _)); exact BK119.out⟩, ⟨hm_⟩⟩
           ·rw [if_neg c97] at H
            exact absurd H (by simp)
          ·rw [if_neg c96] at H
           exact absurd H (by simp)
         ·rw [if_neg c95] at H
          have c95b0 : decide (x8_2 < x9_3) = false := decide_eq_false c95
          clear c95
          by_cases c107 : x120002_2.length < 17592186044416
          ·rw [if_pos c107] at H
           have LMc107 := Aside0.mk c107
           clear c107
           obtain ⟨y134, hy134⟩ : ∃ y_ : List Int, y_ = (x120002_2 ++ [x8_2]) := ⟨_, rfl⟩
           replace H : (if x120000_2.length < 17592186044416 then (impl_regionInside.l0 k3 l0 a2 (wrap64 (x8_2 + 1)) a1_0 a1_1 (x120000_2 ++ [wrap64 (x8_2 + 1)]) x120001_2 y134) else (none)) = some (r1, r2, r3) := by first | (rw [hy134]; with_reducible exact H) | (have H2_ := (Option.bind_some _ _).symm.trans H; rw [hy134]; with_reducible exact H2_) | (have H2_ := (Option.bind_some _ _).symm.trans H; with_reducible exact H2_) | with_reducible exact H | (rw [hy134]; exact H) | exact H
           have Ny134 := Aside0.mk hy134
           clear hy134
           by_cases c108 : x120000_2.length < 17592186044416
           ·rw [if_pos c108] at H
            have LMc108 := Aside0.mk c108
            clear c108
            obtain ⟨y137, hy137⟩ : ∃ y_ : List Int, y_ = (x120000_2 ++ [wrap64 (x8_2 + 1)]) := ⟨_, rfl⟩
            replace H : (impl_regionInside.l0 k3 l0 a2 (wrap64 (x8_2 + 1)) a1_0 a1_1 y137 x120001_2 y134) = some (r1, r2, r3) := by first | (rw [hy137]; with_reducible exact H) | (have H2_ := (Option.bind_some _ _).symm.trans H; rw [hy137]; with_reducible exact H2_) | (have H2_ := (Option.bind_some _ _).symm.trans H; with_reducible exact H2_) | with_reducible exact H | (rw [hy137]; exact H) | exact H
            have Ny137 := Aside0.mk hy137
            clear hy137
            have H' := Aside0.mk H
            clear H
            have hnb109 := NB119_114.out
            have hnc109 := NB114_119.out
            have hnb110 := NB119_115.out
            have hnc110 := NB115_119.out
            have hcz111_0 : wr.cell? ⟨gb119, 0, none⟩ = some (u120000) := bc_ BK119 0
            have hcz111_1 : wr.cell? ⟨gb119, 1, none⟩ = some (u120001) := bc_ BK119 1
            have hcz111_2 : wr.cell? ⟨gb119, 2, none⟩ = some (u120002) := bc_ BK119 2
            have hfz111_0 := blk_frozen BK119.out 0
            have hfz111_1 := blk_frozen BK119.out 1
            have hfz111_2 := blk_frozen BK119.out 2
            go_wp2_with (first | ((with_reducible refine gate_builtin (b := .append) (xs := #[.tmp 84, .tmp 86]) rfl ?_); at_builtin; refine Kd.R_append (Kd.int .i64) (w0 := w) w.heap.size rfl (.tmp 84) (.tmp 86) 24 3 (.int .i64 0) 8 rfl Try.underlying24 info3 rfl (by decide) (by omega) u120002 x120002_2 x8_2 [.int .i64 x8_2] (fun k_ => some k_ ≠ (u120000 : Value).ownBlock) (fun _ => False) rfl rfl ?aP (fun _ hk => hk.elim) ?aF ?aO ?aB ?aS ?aL ?_; (case aP => exact rfl); (case aB => exact (hm_)); (case aF => exact (fun k_ hk => Kd.fresh' (Kd.R_lt (ra_ HO_120000.out)) k_ hk)); (case aO => exact (ra_ HO_120002.out)); (case aS => exact (below_size (hm_))); (case aL => have := LMc107.out; omega); intro v135 w112 ho hb hg hat; rw [← Ny134.out] at ho; have n0_ := Aside0.mk (Kd.R_after (ok := (fun _ => True)) (by (with_reducible repeat (first | apply rA | apply rN | apply rD)); exact Kd.R_mono HO_120000.out (fun _ hk => ⟨trivial, hk⟩)) hg hat); have n1_ := Aside0.mk (Kd.R_over' (ra_ HO_120001.out) (Kd.R_typed (ra_ HO_120002.out)) (by decide) hg); have n2_ := Aside0.mk (blk_grown (g := gb114) (o := .cells #[.int .i64 a1_0, .int .i64 a1_1] 47 (0, 0)) (kx_ BK114.out) hg (Kd.R_ne HO_120002.out BK114.out (by decide))); have n3_ := Aside0.mk (blk_grown (g := gb115) (o := .cells #[.slice none 0 0, .slice none 0 0, .slice none 0 0] 54 (0, 0)) (kx_ BK115.out) hg (Kd.R_ne HO_120002.out BK115.out (by decide))); have n4_ := Aside0.mk (blk_grown (g := gb119) (o := .cells #[u120000, u120001, u120002] 54 (0, 0)) (kx_ BK119.out) hg (Kd.R_ne HO_120002.out BK119.out (by decide))); have n5_ := Aside0.mk (hb); have n6_ := Aside0.mk (ho); clear HO_120000; clear HO_120001; clear BK114; clear BK115; clear BK119; clear HB; clear HO_120002; have HO_120000 := n0_; have HO_120001 := n1_; have BK114 := n2_; have BK115 := n3_; have BK119 := n4_; have HB := n5_; have HO136 := n6_; clear n0_ n1_ n2_ n3_ n4_ n5_ n6_; clear ho hb hg hat; obtain ⟨Ao113, co113, eo113⟩ := Kd.R_slice HO136.out; subst eo113; have hcz114_0 : w112.cell? ⟨gb119, 0, none⟩ = some (u120000) := bc_ BK119 0; have hcz114_1 : w112.cell? ⟨gb119, 1, none⟩ = some (u120001) := bc_ BK119 1; have hcz114_2 : w112.cell? ⟨gb119, 2, none⟩ = some (u120002) := bc_ BK119 2; have hfz114_0 := blk_frozen BK119.out 0; have hfz114_1 := blk_frozen BK119.out 1; have hfz114_2 := blk_frozen BK119.out 2) | ((with_reducible refine gate_builtin (b := .append) (xs := #[.tmp 93, .tmp 95]) rfl ?_); at_builtin; refine Kd.R_append (Kd.int .i64) (w0 := w) w.heap.size rfl (.tmp 93) (.tmp 95) 24 3 (.int .i64 0) 8 rfl Try.underlying24 info3 rfl (by decide) (by omega) u120000 x120000_2 (wrap64 (x8_2 + 1)) [.int .i64 (wrap64 (x8_2 + 1))] (fun k_ => some k_ ≠ (.slice Ao113 y134.length co113 : Value).ownBlock) (fun _ => False) rfl (by first | (go_simp; done) | (go_simp; rfl)) ?aP (fun _ hk => hk.elim) ?aF ?aO ?aB ?aS ?aL ?_; (case aP => exact rfl); (case aB => exact (hm_)); (case aF => exact (fun k_ hk => Kd.fresh' (Kd.R_lt (by (with_reducible repeat (first | apply rA | apply rN | apply rD)); exact (Kd.R_mono (Kd.R_far (p := ⟨gb119, 2, none⟩) (Kd.R_types HO136.out BK119.out (by decide)) (fun _ hk => hk.2) (.slice Ao113 y134.length co113)) (fun _ h_ => h_.1)))) k_ hk)); (case aO => exact (by (with_reducible repeat (first | apply rA | apply rN | apply rD)); exact Kd.R_mono (Kd.R_far (p := ⟨gb119, 2, none⟩) (Kd.R_types HO_120000.out BK119.out (by decide)) (fun _ hk => hk.2) (.slice Ao113 y134.length co113)) (fun _ hk => hk.1.2))); (case aS => exact (below_size (hm_))); (case aL => have := LMc108.out; omega); intro v138 w115 ho hb hg hat; rw [← Ny137.out] at ho; have n0_ := Aside0.mk (Kd.R_over' (by (with_reducible repeat (first | apply rA | apply rN | apply rD)); exact (Kd.R_mono (Kd.R_far (p := ⟨gb119, 2, none⟩) (Kd.R_types HO_120001.out BK119.out (by decide)) (fun _ hk => hk.2) (.slice Ao113 y134.length co113)) (fun _ h_ => h_.1))) (Kd.R_typed (by (with_reducible repeat (first | apply rA | apply rN | apply rD)); exact (Kd.R_mono (Kd.R_far (p := ⟨gb119, 2, none⟩) (Kd.R_types HO_120000.out BK119.out (by decide)) (fun _ hk => hk.2) (.slice Ao113 y134.length co113)) (fun _ h_ => h_.1)))) (by decide) hg); have n1_ := Aside0.mk (blk_grown (g := gb114) (o := .cells #[.int .i64 a1_0, .int .i64 a1_1] 47 (0, 0)) (by (with_reducible repeat (first | refine kN ?_ _ | refine kD ?_ | refine kA ?_ _)); refine blk_far ?_ NB114_119.out _; (with_reducible repeat (first | refine kN ?_ _ | refine kD ?_ | refine kA ?_ _)); exact BK114.out) hg (Kd.R_ne HO_120000.out BK114.out (by decide))); have n2_ := Aside0.mk (blk_grown (g := gb115) (o := .cells #[.slice none 0 0, .slice none 0 0, .slice none 0 0] 54 (0, 0)) (by (with_reducible repeat (first | refine kN ?_ _ | refine kD ?_ | refine kA ?_ _)); refine blk_far ?_ NB115_119.out _; (with_reducible repeat (first | refine kN ?_ _ | refine kD ?_ | refine kA ?_ _)); exact BK115.out) hg (Kd.R_ne HO_120000.out BK115.out (by decide))); have n3_ := Aside0.mk (blk_grown (g := gb119) (o := .cells #[u120000, u120001, .slice Ao113 y134.length co113] 54 (0, 0)) (by (with_reducible repeat (first | refine kN ?_ _ | refine kD ?_ | refine kA ?_ _)); refine blk_put (cs := #[u120000, u120001, u120002]) ?_ 2 _ rfl; (with_reducible repeat (first | refine kN ?_ _ | refine kD ?_ | refine kA ?_ _)); exact BK119.out) hg (Kd.R_ne HO_120000.out BK119.out (by decide))); have n4_ := Aside0.mk (Kd.R_after (ok := (fun _ => True)) (by (with_reducible repeat (first | apply rA | apply rN | apply rD)); exact Kd.R_mono (Kd.R_far (p := ⟨gb119, 2, none⟩) (Kd.R_types HO136.out BK119.out (by decide)) (fun _ hk => hk.2) (.slice Ao113 y134.length co113)) (fun _ hk => ⟨trivial, hk.1⟩)) hg hat); have n5_ := Aside0.mk (hb); have n6_ := Aside0.mk (ho); clear HO_120001; clear BK114; clear BK115; clear BK119; clear HO136; clear HB; clear HO_120000; have HO_120001 := n0_; have BK114 := n1_; have BK115 := n2_; have BK119 := n3_; have HO136 := n4_; have HB := n5_; have HO139 := n6_; clear n0_ n1_ n2_ n3_ n4_ n5_ n6_; clear ho hb hg hat; obtain ⟨Ao116, co116, eo116⟩ := Kd.R_slice HO139.out; subst eo116; have hcz117_0 : w115.cell? ⟨gb119, 0, none⟩ = some (u120000) := bc_ BK119 0; have hcz117_1 : w115.cell? ⟨gb119, 1, none⟩ = some (u120001) := bc_ BK119 1; have hcz117_2 : w115.cell? ⟨gb119, 2, none⟩ = some (.slice Ao113 y134.length co113) := bc_ BK119 2; have hfz117_0 := blk_frozen BK119.out 0; have hfz117_1 := blk_frozen BK119.out 1; have hfz117_2 := blk_frozen BK119.out 2))
            go_roundg k3
            case measure => have := HJ3.out; have := HK2.out; have := HK3.out; omega
            case rel => exact ⟨(wrap64 (x8_2 + 1)), (y137), (x120001_2), (y134), (.slice Ao116 y137.length co116), (u120001), (.slice Ao113 y134.length co113), (by first | rfl | (simp; done) | (simp [*]; done)), H', ⟨by have := HJ3.out; have := HK2.out; have := HK3.out; omega⟩, ⟨by (with_reducible repeat (first | apply rA | apply rN | apply rD)); exact Kd.R_mono (Kd.R_far (p := ⟨gb119, 0, none⟩) (Kd.R_types HO139.out BK119.out (by decide)) (fun _ hk => hk.2) (.slice Ao116 y137.length co116)) (fun _ hk => hk.1)⟩, ⟨by (with_reducible repeat (first | apply rA | apply rN | apply rD)); exact Kd.R_mono (Kd.R_far (p := ⟨gb119, 0, none⟩) (Kd.R_types HO_120001.out BK119.out (by decide)) (fun _ hk => hk.2) (.slice Ao116 y137.length co116)) (fun _ hk => hk.1)⟩, ⟨by (with_reducible repeat (first | apply rA | apply rN | apply rD)); exact Kd.R_mono (Kd.R_far (p := ⟨gb119, 0, none⟩) (Kd.R_types HO136.out BK119.out (by decide)) (fun _ hk => hk.2) (.slice Ao116 y137.length co116)) (fun _ hk => hk.1.2)⟩, ⟨by (with_reducible repeat (first | refine kN ?_ _ | refine kD ?_ | refine kA ?_ _)); refine blk_far ?_ NB114_119.out _; (with_reducible repeat (first | refine kN ?_ _ | refine kD ?_ | refine kA ?_ _)); exact BK114.out⟩, ⟨by (with_reducible repeat (first | refine kN ?_ _ | refine kD ?_ | refine kA ?_ _)); refine blk_far ?_ NB115_119.out _; (with_reducible repeat (first | refine kN ?_ _ | refine kD ?_ | refine kA ?_ _)); exact BK115.out⟩, ⟨by (with_reducible repeat (first | refine kN ?_ _ | refine kD ?_ | refine kA ?_ _)); refine blk_put (cs := #[u120000, u120001, .slice Ao113 y134.length co113]) ?_ 0 _ rfl; (with_reducible repeat (first | refine kN ?_ _ | refine kD ?_ | refine kA ?_ _)); exact BK119.out⟩, ⟨hm_⟩⟩
           ·rw [if_neg c108] at H
            exact absurd H (by simp)
          ·rw [if_neg c107] at H
           exact absurd H (by simp)
     ·rw [if_neg c38] at H
      have c38b0 : decide (x8_2 < a1_1) = false := decide_eq_false c38
      clear c38
      simp only [Option.some.injEq, Prod.mk.injEq] at H
      obtain ⟨rfl, rfl, rfl⟩ := H
      have hnb118 := NB114_115.out
      have hnc118 := NB115_114.out
      have hnb119 := NB114_119.out
      have hnc119 := NB119_114.out
      have hcz120_0 : wr.cell? ⟨gb114, 0, none⟩ = some (.int .i64 a1_0) := bc_ BK114 0
      have hcz120_1 : wr.cell? ⟨gb114, 1, none⟩ = some (.int .i64 a1_1) := bc_ BK114 1
      have hfz120_0 := blk_frozen BK114.out 0
      have hfz120_1 := blk_frozen BK114.out 1
      have hnb121 := NB119_115.out
      have hnc121 := NB115_119.out
      have hcz122_0 : wr.cell? ⟨gb119, 0, none⟩ = some (u120000) := bc_ BK119 0
      have hcz122_1 : wr.cell? ⟨gb119, 1, none⟩ = some (u120001) := bc_ BK119 1
      have hcz122_2 : wr.cell? ⟨gb119, 2, none⟩ = some (u120002) := bc_ BK119 2
      have hfz122_0 := blk_frozen BK119.out 0
      have hfz122_1 := blk_frozen BK119.out 1
      have hfz122_2 := blk_frozen BK119.out 2
      obtain ⟨Ao123, co123, eo123⟩ := Kd.R_slice HO_120000.out
      subst eo123
      have hcz124_0 : wr.cell? ⟨gb115, 0, none⟩ = some (.slice none 0 0) := bc_ BK115 0
      have hcz124_1 : wr.cell? ⟨gb115, 1, none⟩ = some (.slice none 0 0) := bc_ BK115 1
      have hcz124_2 : wr.cell? ⟨gb115, 2, none⟩ = some (.slice none 0 0) := bc_ BK115 2
      have hfz124_0 := blk_frozen BK115.out 0
      have hfz124_1 := blk_frozen BK115.out 1
      have hfz124_2 := blk_frozen BK115.out 2
      obtain ⟨Ao125, co125, eo125⟩ := Kd.R_slice HO_120001.out
      subst eo125
      obtain ⟨Ao126, co126, eo126⟩ := Kd.R_slice HO_120002.out
      subst eo126
      go_wp2
      refine bodyPost_ret (results_cell_row rfl _ _ gb115 54 #[.slice Ao123 x120000_2.length co123, .slice Ao125 x120001_2.length co125, .slice Ao126 x120002_2.length co126] (0, 0) _ rfl (by (with_reducible repeat (first | refine kN ?_ _ | refine kD ?_ | refine kA ?_ _)); refine blk_put (cs := #[.slice Ao123 x120000_2.length co123, .slice Ao125 x120001_2.length co125, .slice none 0 0]) ?_ 2 _ rfl; (with_reducible repeat (first | refine kN ?_ _ | refine kD ?_ | refine kA ?_ _)); refine blk_put (cs := #[.slice Ao123 x120000_2.length co123, .slice none 0 0, .slice none 0 0]) ?_ 1 _ rfl; (with_reducible repeat (first | refine kN ?_ _ | refine kD ?_ | refine kA ?_ _)); refine blk_put (cs := #[.slice none 0 0, .slice none 0 0, .slice none 0 0]) ?_ 0 _ rfl; (with_reducible repeat (first | refine kN ?_ _ | refine kD ?_ | refine kA ?_ _)); exact BK115.out) Try.underlying54 rfl (by kernel_rfl)) rfl ?_
      exact ⟨_, _, _, by first | rfl | (simp [errW_none, errW_some] <;> rfl) | (simp [*, errW_none, errW_some] <;> rfl), by (with_reducible repeat (first | apply rA | apply rN | apply rD)); exact Kd.R_mono (Kd.R_far (p := ⟨gb115, 2, none⟩) (Kd.R_far (p := ⟨gb115, 1, none⟩) (Kd.R_far (p := ⟨gb115, 0, none⟩) (Kd.R_types HO_120000.out BK115.out (by decide)) (fun _ hk => hk.2) (.slice Ao123 x120000_2.length co123)) (fun _ hk => hk.2) (.slice Ao125 x120001_2.length co125)) (fun _ hk => hk.2) (.slice Ao126 x120002_2.length co126)) (fun _ hk => hk.1), by (with_reducible repeat (first | apply rA | apply rN | apply rD)); exact Kd.R_mono (Kd.R_far (p := ⟨gb115, 2, none⟩) (Kd.R_far (p := ⟨gb115, 1, none⟩) (Kd.R_far (p := ⟨gb115, 0, none⟩) (Kd.R_types HO_120001.out BK115.out (by decide)) (fun _ hk => hk.2) (.slice Ao123 x120000_2.length co123)) (fun _ hk => hk.2) (.slice Ao125 x120001_2.length co125)) (fun _ hk => hk.2) (.slice Ao126 x120002_2.length co126)) (fun _ hk => trivial), by (with_reducible repeat (first | apply rA | apply rN | apply rD)); exact Kd.R_mono (Kd.R_far (p := ⟨gb115, 2, none⟩) (Kd.R_far (p := ⟨gb115, 1, none⟩) (Kd.R_far (p := ⟨gb115, 0, none⟩) (Kd.R_types HO_120002.out BK115.out (by decide)) (fun _ hk => hk.2) (.slice Ao123 x120000_2.length co123)) (fun _ hk => hk.2) (.slice Ao125 x120001_2.length co125)) (fun _ hk => hk.2) (.slice Ao126 x120002_2.length co126)) (fun _ hk => hk.1), hm_⟩
end Go.Proofs.Ytdeenfpcmaadcaa.Pr
/- What the program's regionInside computes: the walk along a region's edge. -/
namespace Go.Proofs.Ytdeenfpcmaadcaa.M
open Go.RowKit Go.Proofs.YtdeenfpcmaadcaaW.PrintWords Go.Proofs.Ytdeenfpcmaadcaa.Pr
theorem nx_skip (a m : Int) (sel : Ch → Bool) (d : Ch) (rest : List Ch) (h : ¬ (sel d = true ∧ d.f0 = a ∧ m < d.f1)) : nxF a ((d :: rest).filter sel) m = nxF a (rest.filter sel) m := by
  rw [List.filter_cons]
  split
  · rename_i hs
    rw [nxF, if_neg (fun q => h ⟨hs, q⟩)]
  · rfl
theorem nx_take (a m : Int) (sel : Ch → Bool) (d : Ch) (rest : List Ch) (h : sel d = true ∧ d.f0 = a ∧ m < d.f1) : nxF a ((d :: rest).filter sel) m = nxF a (rest.filter sel) d.f1 := by
  rw [List.filter_cons, if_pos h.1, nxF, if_pos h.2]
/-- What is left to do behind one step of the walk. -/
def afterN (Q : List Ch) (b : Int) (n : Nat) (a : Int) (P : List Int) (C : List Ch) (A : List Int) (m : Int) : List Int × List Ch × List Int :=
  if m > a then ((P ++ [m]) ++ walkP Q b n m, (C ++ [⟨a, m⟩]) ++ walkC Q b n m, A ++ walkA Q b n m)
  else ((P ++ [a + 1]) ++ walkP Q b n (a + 1), C ++ walkC Q b n (a + 1), (A ++ [a]) ++ walkA Q b n (a + 1))
theorem inside_l0 (l : List Ch) (isC : Bool) (lo b : Int) (sel : Ch → Bool) (hsel : ∀ d ∈ l, lo ≤ d.f0 → (sel d = true ↔ d.f1 ≤ b ∧ ¬ (isC = true ∧ d.f0 = lo ∧ d.f1 = b))) (hlo : 0 ≤ lo) (hb : b ≤ 1000) (hll : l.length ≤ 1000) :
    ∀ (n : Nat) (a : Int) (P : List Int) (C : List Ch) (A : List Int), lo ≤ a → b ≤ a + n → P.length + n ≤ 100000 → C.length + n ≤ 100000 → A.length + n ≤ 100000 →
      Ev (fun k => impl_regionInside.l0 k l isC a lo b P C A) (P ++ walkP (l.filter sel) b n a, C ++ walkC (l.filter sel) b n a, A ++ walkA (l.filter sel) b n a)
  | 0, a, P, C, A, ha, hn, _, _, _ => by
    refine Ev.step (fun k => by rw [impl_regionInside.l0]) ?_
    refine Ev.neg (by omega) (Ev.val ?_)
    simp [walkP, walkC, walkA]
  | n + 1, a, P, C, A, ha, hn, hP, hC, hA => by
    refine Ev.step (fun k => by rw [impl_regionInside.l0]) ?_
    by_cases hab : a < b
    · refine Ev.pos hab ?_
      have e := Ev.scan0 (fun k i (m : Int) => impl_regionInside.l1 k l isC a m l (l.length : Int) i lo b P C A) l (fun rest m => afterN (l.filter sel) b n a P C A (nxF a (rest.filter sel) m)) (fun _ _ => True)
        (fun m _ => by
          refine Ev.step (fun k => by rw [impl_regionInside.l1]) ?_
          refine Ev.neg (by omega) ?_
          show Ev _ (afterN (l.filter sel) b n a P C A m)
          unfold afterN
          by_cases hm : m > a
          · rw [if_pos hm]
            refine Ev.pos hm (Ev.pos (by omega) (Ev.pos (by omega) ?_))
            exact inside_l0 l isC lo b sel hsel hlo hb hll n m (P ++ [m]) (C ++ [⟨a, m⟩]) A (by omega) (by omega) (by simp; omega) (by simp; omega) (by omega)
          · rw [if_neg hm]
            refine Ev.neg hm (Ev.pos (by omega) (Ev.pos (by omega) ?_))
            rw [w64 (by omega) (by omega)]
            exact inside_l0 l isC lo b sel hsel hlo hb hll n (a + 1) (P ++ [a + 1]) C (A ++ [a]) (by omega) (by omega) (by simp; omega) (by omega) (by simp; omega))
        (fun i h m _ => by
          have hd := hsel l[i] (List.getElem_mem h)
          by_cases hs : sel l[i] = true ∧ l[i].f0 = a ∧ m < l[i].f1
          · refine .inl ⟨l[i].f1, trivial, by rw [nx_take _ _ _ _ _ hs], fun r hr => ?_⟩
            have hq := (hd (by omega)).1 hs.1
            refine Ev.step (fun k => by rw [impl_regionInside.l1]) ?_
            refine Ev.pos (by omega) (Ev.pos (by omega) (Ev.pos (by omega) ?_))
            rw [rd_ch l i h, w64 (by omega) (by omega)]
            refine Ev.pos hs.2.1 (Ev.pos hq.1 (Ev.pos (by omega) ?_))
            by_cases hi : isC = true
            · refine Ev.pos hi (Ev.neg ?_ hr)
              intro e
              rw [Bool.and_eq_true, beq_iff_eq, beq_iff_eq] at e
              exact hq.2 ⟨hi, e.1, e.2⟩
            · exact Ev.neg hi hr
          · refine .inl ⟨m, trivial, by rw [nx_skip _ _ _ _ _ hs], fun r hr => ?_⟩
            refine Ev.step (fun k => by rw [impl_regionInside.l1]) ?_
            refine Ev.pos (by omega) (Ev.pos (by omega) (Ev.pos (by omega) ?_))
            rw [rd_ch l i h, w64 (by omega) (by omega)]
            by_cases h1 : l[i].f0 = a
            · refine Ev.pos h1 ?_
              by_cases h2 : l[i].f1 ≤ b
              · refine Ev.pos h2 ?_
                by_cases h3 : l[i].f1 > m
                · refine Ev.pos h3 ?_
                  have hns : ¬ sel l[i] = true := fun q => hs ⟨q, h1, h3⟩
                  rw [hd (by omega)] at hns
                  have hc : isC = true ∧ l[i].f0 = lo ∧ l[i].f1 = b := by
                    apply Classical.byContradiction
                    intro q
                    exact hns ⟨h2, q⟩
                  refine Ev.pos hc.1 (Ev.pos ?_ hr)
                  rw [Bool.and_eq_true, beq_iff_eq, beq_iff_eq]
                  exact hc.2
                · exact Ev.neg h3 hr
              · exact Ev.neg h2 hr
            · exact Ev.neg h1 hr)
        a trivial
      have e2 : afterN (l.filter sel) b n a P C A (nxF a (l.filter sel) a) = (P ++ walkP (l.filter sel) b (n + 1) a, C ++ walkC (l.filter sel) b (n + 1) a, A ++ walkA (l.filter sel) b (n + 1) a) := by
        unfold afterN
        rw [walkP, walkC, walkA, if_pos hab, if_pos hab, if_pos hab, nxt]
        by_cases hg : nxF a (l.filter sel) a > a
        · simp only [if_pos hg, List.append_assoc, List.singleton_append, List.nil_append]
        · simp only [if_neg hg, List.append_assoc, List.singleton_append, List.nil_append]
      rw [← e2]
      exact e
    · refine Ev.neg hab (Ev.val ?_)
      rw [walkP, walkC, walkA, if_neg hab, if_neg hab, if_neg hab]
      simp
section
variable {p : Int} {P : List Ch} (H : PlaneP p P)
include H
theorem inside_ev {c : Ch} (hc : c ∈ P) (hp : p ≤ 1000) (hl : P.length ≤ 1000) : Ev (fun k => impl_regionInside.f k P c.f0 c.f1 true) (ptsW p P c, chsW p P c, arcsW p P c) := by
  rcases edge_cases H (.inr hc) with ⟨e, _⟩ | ⟨_, hne, e1, e2, h1, h2, h3⟩
  · have := (H.ends c hc).1
    rw [e] at this
    exact absurd this (by show ¬ ((0 : Int) ≤ -1); omega)
  · unfold impl_regionInside.f
    refine Ev.bindc rfl (Ev.pos rfl (Ev.pos (by simp) ?_))
    have e := inside_l0 P true c.f0 c.f1 (selB c) (fun d hd hlo => by
      unfold selB
      rw [decide_eq_true_iff]
      constructor
      · rintro ⟨q1, q2, q3⟩
        exact ⟨q3, fun q => q1 (by cases c; cases d; simp_all)⟩
      · rintro ⟨q1, q2⟩
        exact ⟨fun q => q2 (by rw [q]; exact ⟨rfl, rfl, rfl⟩), hlo, q1⟩) (by omega) (by omega) hl (c.f1 - c.f0).toNat c.f0 [c.f0] [c] [] (Int.le_refl _) (by omega) (by simp; omega) (by simp; omega) (by simp; omega)
    unfold ptsW chsW arcsW qOf
    rw [e1, e2, if_neg hne, if_neg hne]
    refine Ev.step (fun k => by rw [impl_regionInside.j0]) ?_
    exact e
theorem outer_ev (hp : p ≤ 1000) (hl : P.length ≤ 1000) : Ev (fun k => impl_regionInside.f k P 0 (p - 1) false) (ptsW p P (outC p), chsW p P (outC p), arcsW p P (outC p)) := by
  have h3 := H.hp
  unfold impl_regionInside.f
  refine Ev.bindc rfl (Ev.neg (by decide) (Ev.pos (by simp) ?_))
  have e := inside_l0 P false 0 (p - 1) (selB (outC p)) (fun d hd hlo => by
    have := H.ends d hd
    unfold selB outC
    rw [decide_eq_true_iff]
    constructor
    · rintro ⟨q1, q2, q3⟩
      exact ⟨by omega, fun q => by cases q.1⟩
    · rintro ⟨q1, q2⟩
      exact ⟨fun q => by rw [q] at hlo; exact absurd hlo (by show ¬ ((0 : Int) ≤ -1); omega), by show (-1 : Int) ≤ d.f0; omega, by show d.f1 ≤ p; omega⟩) (Int.le_refl 0) (by omega) hl (p - 1 - 0).toNat 0 [0] [] [p - 1] (Int.le_refl _) (by omega) (by simp; omega) (by simp; omega) (by simp; omega)
  rcases edge_cases H (.inl rfl) with ⟨_, e1, e2⟩ | ⟨_, q, _⟩
  · unfold ptsW chsW arcsW qOf
    rw [e1, e2, if_pos rfl, if_pos rfl]
    refine Ev.step (fun k => by rw [impl_regionInside.j0]) ?_
    exact e
  · exact absurd rfl q
end
end Go.Proofs.Ytdeenfpcmaadcaa.M
/- The regions in order: the reference's rows are the program's. -/
namespace Go.Proofs.Ytdeenfpcmaadcaa.M
open Go.RowKit Go.Proofs.YtdeenfpcmaadcaaW.PrintWords Go.Proofs.Ytdeenfpcmaadcaa.Pr
theorem backK_spec (r : List Int) (os : List (List Int)) : ∀ k, k ≤ os.length → (∀ i (hi : i < os.length), backK lexB r os k ≤ i → i < k → lexB r os[i] = true) ∧ (backK lexB r os k = 0 ∨ ∃ i, ∃ hi : i < os.length, backK lexB r os k = i + 1 ∧ lexB r os[i] = false)
  | 0, _ => ⟨fun i hi h1 h2 => by omega, .inl rfl⟩
  | k + 1, hk => by
    have ih := backK_spec r os k (by omega)
    have hg : os.getD k [] = os[k] := by rw [List.getD_eq_getElem?_getD, List.getElem?_eq_getElem (by omega)]; rfl
    rw [backK, hg]
    by_cases h : lexB r os[k] = true
    · rw [if_pos h]
      refine ⟨fun i hi h1 h2 => ?_, ih.2⟩
      by_cases e : i = k
      · subst e; exact h
      · exact ih.1 i hi h1 (by omega)
    · rw [if_neg h]
      exact ⟨fun i hi h1 h2 => by omega, .inr ⟨k, by omega, rfl, by simpa using h⟩⟩
theorem insB_perm (os : List (List Int)) (r : List Int) : (insB lexB os r).Perm (r :: os) := by
  unfold insB
  refine List.perm_middle.trans ?_
  rw [List.take_append_drop]
theorem insB_sorted (os : List (List Int)) (r : List Int) (h : LS os) : LS (insB lexB os r) := by
  obtain ⟨h1, h2⟩ := backK_spec r os os.length (Nat.le_refl _)
  have hle := backK_le lexB r os os.length
  unfold insB
  obtain ⟨K, hK⟩ : ∃ K, K = backK lexB r os os.length := ⟨_, rfl⟩
  rw [← hK] at h1 h2 hle ⊢
  have hp := List.pairwise_iff_getElem.1 h
  have hs : LS (os.take K ++ os.drop K) := by rw [List.take_append_drop]; exact h
  obtain ⟨s1, s2, s3⟩ := List.pairwise_append.1 hs
  refine List.pairwise_append.2 ⟨s1, List.pairwise_cons.2 ⟨fun y hy => ?_, s2⟩, fun x hx y hy => ?_⟩
  · obtain ⟨i, hi, rfl⟩ := List.getElem_of_mem hy
    rw [List.getElem_drop]
    rw [List.length_drop] at hi
    have ht := h1 (K + i) (by omega) (by omega) (by omega)
    cases e : lexB os[K + i] r with
    | false => rfl
    | true =>
      have := lexB_trans _ _ _ e ht
      rw [lexB_irrefl] at this
      cases this
  · rcases List.mem_cons.1 hy with rfl | hy
    · obtain ⟨i, hi, rfl⟩ := List.getElem_of_mem hx
      rw [List.getElem_take]
      rw [List.length_take] at hi
      rcases h2 with h2 | ⟨m, hm, e, hf⟩
      · omega
      · by_cases him : i = m
        · subst him; exact hf
        · exact lexB_ge_trans (hp i m (by omega) hm (by omega)) hf
    · exact s3 x hx y hy
theorem foldB_gen : ∀ (l acc : List (List Int)), LS acc → (l.foldl (insB lexB) acc).Perm (acc ++ l) ∧ LS (l.foldl (insB lexB) acc)
  | [], acc, h => ⟨by rw [List.append_nil]; exact List.Perm.refl _, h⟩
  | r :: l, acc, h => by
    obtain ⟨h1, h2⟩ := foldB_gen l (insB lexB acc r) (insB_sorted acc r h)
    refine ⟨h1.trans (((insB_perm acc r).append_right l).trans ?_), h2⟩
    exact List.perm_middle.symm
theorem ptsTo_nil (p : Int) (hp : 3 ≤ p) : regN p [] (outC p) = ptsTo p := by
  unfold regN
  rw [List.filter_eq_self.2 (fun x hx => by
    rw [inR_iff]
    have := mem_ptsTo.1 hx
    exact ⟨by show (-1 : Int) ≤ x; omega, by show x ≤ p; omega, fun d hd => by cases hd⟩)]
section
variable {p : Int} {P : List Ch} (H : PlaneP p P)
include H
/-- The reference's rows: a sorted permutation of the regions. -/
theorem ref_perm : ((foldR P [ptsTo p]).foldl (insB lexB) []).Perm ((outC p :: P).map (regN p P)) ∧ LS ((foldR P [ptsTo p]).foldl (insB lexB) []) := by
  obtain ⟨h1, h2⟩ := foldB_gen (foldR P [ptsTo p]) [] List.Pairwise.nil
  refine ⟨h1.trans ?_, h2⟩
  obtain ⟨ds, hd, e⟩ := foldR_regs P [] (by simpa using H.pl) (by simpa using H.ends) (by simpa using H.nd) [outC p] (List.Perm.refl _)
  rw [List.nil_append] at hd e
  rw [List.map_cons, List.map_nil, ptsTo_nil p H.hp] at e
  rw [List.nil_append, e]
  exact hd.map _
theorem regN_inj {c d : Ch} (hc : c = outC p ∨ c ∈ P) (hd : d = outC p ∨ d ∈ P) (e : regN p P c = regN p P d) : c = d := by
  have hm : ∀ x, ((0 ≤ x ∧ x < p) ∧ InR P c x) ↔ ((0 ≤ x ∧ x < p) ∧ InR P d x) := fun x => by rw [← mem_regN, ← mem_regN, e]
  have hm2 : ∀ x, (lowE c ≤ x ∧ x ≤ topE p c ∧ Free (qOf P c) x) ↔ (lowE d ≤ x ∧ x ≤ topE p d ∧ Free (qOf P d) x) := fun x => by rw [← free_iff H hc, ← free_iff H hd]; exact hm x
  have lc := low_le H hc
  have ld := low_le H hd
  have a1 := (hm2 (lowE c)).1 ⟨Int.le_refl _, by omega, low_free H hc⟩
  have a2 := (hm2 (lowE d)).2 ⟨Int.le_refl _, by omega, low_free H hd⟩
  have a3 := (hm2 (topE p c)).1 ⟨by omega, Int.le_refl _, top_free H hc⟩
  have a4 := (hm2 (topE p d)).2 ⟨by omega, Int.le_refl _, top_free H hd⟩
  have key : ∀ d : Ch, d ∈ P → d ≠ outC p → d.f0 = 0 → d.f1 = p - 1 → (∀ x, ((0 ≤ x ∧ x < p) ∧ InR P (outC p) x) ↔ ((0 ≤ x ∧ x < p) ∧ InR P d x)) → False := fun d hdP hdo e0 e1 hx => by
    have h3 := H.hp
    have hd : d = outC p ∨ d ∈ P := .inr hdP
    rcases edge_cases H hd with ⟨q, _⟩ | ⟨_, _, l1, l2, _⟩
    · exact hdo q
    have hlt := low_le H hd
    have g1 := nxt_gt (q_low H hd) (lowE d)
    have g2 := nxt_le (q_low H hd) hlt
    have g3 := nxt_free (q_low H hd) (q_no H) (low_free H hd)
    have g4 : nxt (qOf P d) (lowE d) ≠ p - 1 := fun q => by
      unfold nxt at q
      split at q
      · rcases nxF_mem (lowE d) (qOf P d) (lowE d) with e' | ⟨x, hxq, x0, x1⟩
        · omega
        · have hq := q_in H hxq
          exact hq.2.1 (by cases x; cases d; simp only [S47.mk.injEq] at *; omega)
      · omega
    have m1 := (hx (nxt (qOf P d) (lowE d))).2 ((free_iff H hd _).2 ⟨by omega, g2, g3⟩)
    exact m1.2.2.2 d hdP hdo (by show (-1 : Int) ≤ d.f0; omega) (by show d.f1 ≤ p; omega) ⟨by omega, by omega⟩
  rcases edge_cases H hc with ⟨rfl, c1, c2⟩ | ⟨hcP, hco, c1, c2, _⟩
  · rcases edge_cases H hd with ⟨rfl, d1, d2⟩ | ⟨hdP, hdo, d1, d2, _⟩
    · rfl
    · exact (key d hdP hdo (by omega) (by omega) hm).elim
  · rcases edge_cases H hd with ⟨rfl, d1, d2⟩ | ⟨hdP, hdo, d1, d2, _⟩
    · exact (key c hcP hco (by omega) (by omega) (fun x => (hm x).symm)).elim
    · cases c; cases d
      simp only [S47.mk.injEq] at *
      omega
theorem out_not : outC p ∉ P := fun h => by
  have := (H.ends _ h).1
  exact absurd this (by show ¬ ((0 : Int) ≤ -1); omega)
theorem regs_nodup : ((outC p :: P).map (regN p P)).Nodup := by
  have hn : (outC p :: P).Nodup := List.nodup_cons.2 ⟨out_not H, H.nd⟩
  unfold List.Nodup at *
  rw [List.pairwise_map]
  refine (List.pairwise_iff_forall_sublist.2 ?_)
  intro a b hab e
  have ha : a ∈ outC p :: P := hab.subset (by simp)
  have hb : b ∈ outC p :: P := hab.subset (by simp)
  have hne := List.pairwise_iff_forall_sublist.1 hn hab
  exact hne (regN_inj H (List.mem_cons.1 ha) (List.mem_cons.1 hb) e)
end
end Go.Proofs.Ytdeenfpcmaadcaa.M
