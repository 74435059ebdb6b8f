/- The program's MakePuzzle returns what the reference's returns, for all arguments. (Part 4 of 6.) -/
import Derived.Shelf.GgSortFunc.RowK
import Derived.Shelf.SlSortFuncK.RowK2
import Derived.Sort.Grow
import Derived.Shelf.SlSortCmp.InsertionK
import Derived.RegionTactic
import Derived.Lib.SlicesCompact
import Derived.Lib.SliceRun
import Derived.Sort.WalkB12
import Derived.Shelf.SlGeneric
import Derived.Shelf.SlSortCmp.WholeK
import Derived.Ground.SlsfProg
import Derived.Test.YtcfcjpcoofjckaaProg
import Derived.RowKit
import Derived.Shelf.SlSortCmp.NoneTotal
import Derived.Test.YtcfcjpcoofjckaaKFnExactMakePuzzle0
import Derived.Test.YtcfcjpcoofjckaaKFnExactMakePuzzle1
import Derived.Test.YtcfcjpcoofjckaaKFnExactMakePuzzle2
set_option linter.unusedVariables false
set_option linter.unusedSimpArgs false
namespace Go.Proofs.Ytcfcjpcoofjckaa.Pr
open Go.RowKit Go.Proofs.YtcfcjpcoofjckaaW.PrintWords Go.Proofs.YtcfcjpcoofjckaaW.PrintLast Go.Proofs.YtcfcjpcoofjckaaW.PrintMore
attribute [local go_sem] max2_int min2_int max_two min_two max_three min_three max_four min_four
def impl_divisor.l0 : Nat → Int → Int → Option (Int)
 | 0, _, _ => none
 | k + 1, x0, x1 => if x1 > 0 then (if x1 = 0 then (none) else (impl_divisor.l0 k x1 (Int.tmod x0 x1))) else (some x0)
def impl_divisor.f (k : Nat) (a0 : Int) (a1 : Int) : Option (Int) := impl_divisor.l0 k a0 a1
theorem impl_divisor.mono_l : ∀ k, (∀ y0 y1, LeO (impl_divisor.l0 k y0 y1) (impl_divisor.l0 (k + 1) y0 y1))
 | 0 => fun _ _ r h => by simp [impl_divisor.l0] at h
 | k + 1 => by
  have ih0 := impl_divisor.mono_l k
  ·intro y0 y1
   unfold impl_divisor.l0
   repeat' first
   | (with_reducible exact ih0 _ _)
   | (with_reducible exact LeO.refl _)
   | (with_reducible exact LeO.none _)
   | (with_reducible refine LeO.ite ?_ ?_)
   | (with_reducible refine LeO.bind ?_ (fun _ => ?_))
   | exact ih0 _ _
   | exact LeO.none _
   | refine LeO.ite ?_ ?_
   | refine LeO.bind ?_ (fun _ => ?_)
theorem impl_divisor.mono : ∀ a0 a1 k, LeO (impl_divisor.f k a0 a1) (impl_divisor.f (k + 1) a0 a1) := by
 intro a0 a1 k
 have ih0 := impl_divisor.mono_l k
 unfold impl_divisor.f
 repeat' first
   | (with_reducible exact ih0 _ _)
   | (with_reducible exact LeO.refl _)
   | (with_reducible exact LeO.none _)
   | (with_reducible refine LeO.ite ?_ ?_)
   | (with_reducible refine LeO.bind ?_ (fun _ => ?_))
   | exact ih0 _ _
   | exact LeO.none _
   | refine LeO.ite ?_ ?_
   | refine LeO.bind ?_ (fun _ => ?_)
set_option maxHeartbeats 8000000 in
set_option maxRecDepth 100000 in
theorem impl_divisor.calls (k : Nat) (a0 : Int) (a1 : Int) (r : Int) (w : World) (h : impl_divisor.f k a0 a1 = some r) :
  Calls Try.prog 64 #[.int .i64 a0, .int .i64 a1] w fun e w' => e = .returned (.int .i64 r) ∧ Drawn0 w w' := by
 have H : (impl_divisor.l0 k a0 a1) = some r := h
 clear h
 have H' := Aside0.mk H
 clear H
 go_enter Try.func64, Try.ntmps64
 go_wp2
 repeat (go_quiet (fail); try go_wp2)
 go_loopg [0, 1] k (fun kq v0 v1 w' => ∃ (x0_1 : Int) (x1_1 : Int), v0 = .int .i64 x0_1 ∧ v1 = .int .i64 x1_1 ∧ Aside0 (impl_divisor.l0 kq x0_1 x1_1 = some r) ∧ Aside0 (kq ≤ k) ∧ Drawn0 w w')
 case atStart => exact ⟨(a0), (a1), (by first | rfl | (simp; done) | (simp [*]; done)), (by first | rfl | (simp; done) | (simp [*]; done)), H', ⟨Nat.le_refl _⟩, by repeat (first | exact Drawn0.refl _ | apply Drawn0.step)⟩
 case round =>
  clear H'
  try clear p2
  obtain ⟨x0_1, x1_1, rfl, rfl, HA, HK1, ⟨m1, rfl⟩⟩ := hrel
  cases gk with
  | zero => exact absurd HA.out (by simp [impl_divisor.l0])
  | succ k1 =>
   have H := HA.out
   clear HA
   simp only [impl_divisor.l0] at H
   by_cases c3 : x1_1 > 0
   ·rw [if_pos c3] at H
    have c3b0 : decide (0 < x1_1) = true := decide_eq_true c3
    clear c3
    by_cases c4 : x1_1 = 0
    ·rw [if_pos c4] at H
     exact absurd H (by simp)
    ·rw [if_neg c4] at H
     have c4b0 : (x1_1 == 0) = false := beq_eq_false_iff_ne.mpr c4
     have c4b1 : (x1_1 != 0) = true := bne_iff_ne.mpr c4
     have H' := Aside0.mk H
     clear H
     go_wp2
     repeat (go_quiet (fail); try go_wp2)
     go_roundg k1
     case measure => have := HK1.out; omega
     case rel => exact ⟨(x1_1), (Int.tmod x0_1 x1_1), (by first | rfl | (simp; done) | (simp [*]; done)), (by first | rfl | (simp; done) | (simp [*]; done)), H', ⟨by have := HK1.out; omega⟩, by repeat (first | exact Drawn0.refl _ | apply Drawn0.step)⟩
   ·rw [if_neg c3] at H
    have c3b0 : decide (0 < x1_1) = false := decide_eq_false c3
    clear c3
    obtain rfl := oI H
    go_wp2
    repeat (go_quiet (fail); try go_wp2)
    go_ret
    exact ⟨by first | rfl | (simp; done) | (simp [*]; done), by repeat (first | exact Drawn0.refl _ | apply Drawn0.step)⟩
def impl_Star_strings.f (k : Nat) (a0_0 : Int) (a0_1 : Int) : Option (Int) := (impl_divisor.f k a0_0 a0_1).bind fun t114 => (some t114)
theorem impl_Star_strings.mono : ∀ a0 a1 k, LeO (impl_Star_strings.f k a0 a1) (impl_Star_strings.f (k + 1) a0 a1) := by
 intro a0 a1 k
 unfold impl_Star_strings.f
 repeat' first
   | (with_reducible exact impl_divisor.mono _ _ _)
   | (with_reducible exact LeO.refl _)
   | (with_reducible exact LeO.none _)
   | (with_reducible refine LeO.ite ?_ ?_)
   | (with_reducible refine LeO.bind ?_ (fun _ => ?_))
   | exact impl_divisor.mono _ _ _
   | exact LeO.none _
   | refine LeO.ite ?_ ?_
   | refine LeO.bind ?_ (fun _ => ?_)
set_option maxHeartbeats 8000000 in
set_option maxRecDepth 100000 in
theorem impl_Star_strings.calls (k : Nat) (a0_0 : Int) (a0_1 : Int) (r : Int) (w : World) (h : impl_Star_strings.f k a0_0 a0_1 = some r) :
  Calls Try.prog 56 #[.agg #[.int .i64 a0_0, .int .i64 a0_1]] w fun e w' => e = .returned (.int .i64 r) ∧ Below w.heap.size w w' := by
 have hu49 := Try.underlying49
 have HB := Aside0.mk (Below.refl w.heap.size w)
 have H : ((impl_divisor.f k a0_0 a0_1).bind fun t114 => (some t114)) = some r := h
 clear h
 replace H := bI H
 obtain ⟨t114, A20, H⟩ := H
 replace H : (some t114) = some r := H
 have A2 := Aside0.mk A20
 clear A20
 obtain rfl := oI H
 go_enter Try.func56, Try.ntmps56
 go_wp2_with (first | ((with_reducible refine gate_dst (N := 1) rfl ?_); refine box_event ?hg (N := 1) ?hd (cs := #[.int .i64 a0_0, .int .i64 a0_1]) (t := 49) ?hr ?_; (case hd => rfl); (case hg => rfl); (case hr => first | (go_simp; done) | (go_simp; rfl)); intro gb113 hg w3 hbox hb; have n0_ := Aside0.mk (below_step hb_ hb); have n1_ := Aside0.mk (hbox); have n2_ := Aside0.mk ((by rw [hg]; exact (below_size hb_) : w.heap.size ≤ gb113)); have n3_ := Aside0.mk ((by rw [hg]; exact (below_size hb_) : w.heap.size ≤ gb113)); clear HB; have HB := n0_; have BK113 := n1_; have GW113 := n2_; have GE113 := n3_; clear n0_ n1_ n2_ n3_; clear hb hbox hg; have hcz4_0 : w3.cell? ⟨gb113, 0, none⟩ = some (.int .i64 a0_0) := bc_ BK113 0; have hcz4_1 : w3.cell? ⟨gb113, 1, none⟩ = some (.int .i64 a0_1) := bc_ BK113 1; have hfz4_0 := blk_frozen BK113.out 0; have hfz4_1 := blk_frozen BK113.out 1) | ((with_reducible refine gate_callee (f := 64) rfl ?_); refine goesL_ (some 7) rfl rfl Try.func64 (by kernel_rfl) rfl #[.int .i64 a0_0, .int .i64 a0_1] rfl ar_ ?_; (with_reducible refine (impl_divisor.calls k a0_0 a0_1 t114 _ A2.out).mono ?_); rintro e w' ⟨rfl, ⟨nd, rfl⟩⟩; refine ⟨_, rfl, ?_⟩))
 go_ret
 exact ⟨by first | rfl | (simp [errW_none, errW_some] <;> rfl) | (simp [*, errW_none, errW_some] <;> rfl), hs_ GE113.out⟩
def impl_crossing.f (a0_0 : Int) (a0_1 : Int) (a1_0 : Int) (a1_1 : Int) : Option (Bool) := if a0_0 < a1_0 then (if a1_0 < a0_1 then (if a0_1 < a1_1 then (some true) else (if a1_0 < a0_0 then (if a0_0 < a1_1 then (some (decide (a1_1 < a0_1))) else (some false)) else (some false))) else (if a1_0 < a0_0 then (if a0_0 < a1_1 then (some (decide (a1_1 < a0_1))) else (some false)) else (some false))) else (if a1_0 < a0_0 then (if a0_0 < a1_1 then (some (decide (a1_1 < a0_1))) else (some false)) else (some false))
set_option maxHeartbeats 8000000 in
set_option maxRecDepth 100000 in
theorem impl_crossing.calls (a0_0 : Int) (a0_1 : Int) (a1_0 : Int) (a1_1 : Int) (r : Bool) (w : World) (h : impl_crossing.f a0_0 a0_1 a1_0 a1_1 = some r) :
  Calls Try.prog 71 #[.agg #[.int .i64 a0_0, .int .i64 a0_1], .agg #[.int .i64 a1_0, .int .i64 a1_1]] w fun e w' => e = .returned (.bool r) ∧ Below w.heap.size w w' := by
 have hu80 := Try.underlying80
 have HB := Aside0.mk (Below.refl w.heap.size w)
 have H : (if a0_0 < a1_0 then (if a1_0 < a0_1 then (if a0_1 < a1_1 then (some true) else (if a1_0 < a0_0 then (if a0_0 < a1_1 then (some (decide (a1_1 < a0_1))) else (some false)) else (some false))) else (if a1_0 < a0_0 then (if a0_0 < a1_1 then (some (decide (a1_1 < a0_1))) else (some false)) else (some false))) else (if a1_0 < a0_0 then (if a0_0 < a1_1 then (some (decide (a1_1 < a0_1))) else (some false)) else (some false))) = some r := h
 clear h
 by_cases c3 : a0_0 < a1_0
 ·rw [if_pos c3] at H
  have c3b0 : decide (a0_0 < a1_0) = true := decide_eq_true c3
  clear c3
  by_cases c4 : a1_0 < a0_1
  ·rw [if_pos c4] at H
   have c4b0 : decide (a1_0 < a0_1) = true := decide_eq_true c4
   clear c4
   by_cases c5 : a0_1 < a1_1
   ·rw [if_pos c5] at H
    have c5b0 : decide (a0_1 < a1_1) = true := decide_eq_true c5
    clear c5
    obtain rfl := oI H
    go_enter Try.func71, Try.ntmps71
    go_wp2_with (first | ((with_reducible refine gate_dst (N := 2) rfl ?_); refine box_event ?hg (N := 2) ?hd (cs := #[.int .i64 a0_0, .int .i64 a0_1]) (t := 80) ?hr ?_; (case hd => rfl); (case hg => rfl); (case hr => first | (go_simp; done) | (go_simp; rfl)); intro gb115 hg w6 hbox hb; have n0_ := Aside0.mk (below_step hb_ hb); have n1_ := Aside0.mk (hbox); have n2_ := Aside0.mk ((by rw [hg]; exact (below_size hb_) : w.heap.size ≤ gb115)); have n3_ := Aside0.mk ((by rw [hg]; exact (below_size hb_) : w.heap.size ≤ gb115)); clear HB; have HB := n0_; have BK115 := n1_; have GW115 := n2_; have GE115 := n3_; clear n0_ n1_ n2_ n3_; clear hb hbox hg) | ((with_reducible refine gate_dst (N := 3) rfl ?_); refine box_event ?hg (N := 3) ?hd (cs := #[.int .i64 a1_0, .int .i64 a1_1]) (t := 80) ?hr ?_; (case hd => rfl); (case hg => rfl); (case hr => first | (go_simp; done) | (go_simp; rfl)); intro gb116 hg w7 hbox hb; have n0_ := Aside0.mk (blk_below (g := gb115) (o := .cells #[.int .i64 a0_0, .int .i64 a0_1] 80 (0, 0)) (kx_ BK115.out) hb); have n1_ := Aside0.mk (below_step (hs_ GE115.out) hb); have n2_ := Aside0.mk (hbox); have n3_ := Aside0.mk ((by rw [hg]; exact (below_size (hs_ GE115.out)) : w.heap.size ≤ gb116)); have n4_ := Aside0.mk ((by rw [hg]; exact (below_size (hs_ GE115.out)) : w.heap.size ≤ gb116)); have n5_ := Aside0.mk ((by rw [hg]; exact Nat.ne_of_lt (blk_lt (g := gb115) (o := .cells #[.int .i64 a0_0, .int .i64 a0_1] 80 (0, 0)) (kx_ BK115.out)) : gb115 ≠ gb116)); have n6_ := Aside0.mk ((by rw [hg]; exact Nat.ne_of_gt (blk_lt (g := gb115) (o := .cells #[.int .i64 a0_0, .int .i64 a0_1] 80 (0, 0)) (kx_ BK115.out)) : gb116 ≠ gb115)); clear BK115; clear HB; have BK115 := n0_; have HB := n1_; have BK116 := n2_; have GW116 := n3_; have GE116 := n4_; have NB115_116 := n5_; have NB116_115 := n6_; clear n0_ n1_ n2_ n3_ n4_ n5_ n6_; clear hb hbox hg; have hnb8 := NB115_116.out; have hnc8 := NB116_115.out; have hcz9_0 : w7.cell? ⟨gb115, 0, none⟩ = some (.int .i64 a0_0) := bc_ BK115 0; have hcz9_1 : w7.cell? ⟨gb115, 1, none⟩ = some (.int .i64 a0_1) := bc_ BK115 1; have hfz9_0 := blk_frozen BK115.out 0; have hfz9_1 := blk_frozen BK115.out 1; have hcz10_0 : w7.cell? ⟨gb116, 0, none⟩ = some (.int .i64 a1_0) := bc_ BK116 0; have hcz10_1 : w7.cell? ⟨gb116, 1, none⟩ = some (.int .i64 a1_1) := bc_ BK116 1; have hfz10_0 := blk_frozen BK116.out 0; have hfz10_1 := blk_frozen BK116.out 1))
    go_ret
    exact ⟨by first | rfl | (simp [errW_none, errW_some] <;> rfl) | (simp [*, errW_none, errW_some] <;> rfl), hm_⟩
   ·rw [if_neg c5] at H
    have c5b0 : decide (a0_1 < a1_1) = false := decide_eq_false c5
    clear c5
    by_cases c11 : a1_0 < a0_0
    ·rw [if_pos c11] at H
     have c11b0 : decide (a1_0 < a0_0) = true := decide_eq_true c11
     clear c11
     by_cases c12 : a0_0 < a1_1
     ·rw [if_pos c12] at H
      have c12b0 : decide (a0_0 < a1_1) = true := decide_eq_true c12
      clear c12
      obtain rfl := oI H
      go_enter Try.func71, Try.ntmps71
      go_wp2_with (first | ((with_reducible refine gate_dst (N := 2) rfl ?_); refine box_event ?hg (N := 2) ?hd (cs := #[.int .i64 a0_0, .int .i64 a0_1]) (t := 80) ?hr ?_; (case hd => rfl); (case hg => rfl); (case hr => first | (go_simp; done) | (go_simp; rfl)); intro gb115 hg w13 hbox hb; have n0_ := Aside0.mk (below_step hb_ hb); have n1_ := Aside0.mk (hbox); have n2_ := Aside0.mk ((by rw [hg]; exact (below_size hb_) : w.heap.size ≤ gb115)); have n3_ := Aside0.mk ((by rw [hg]; exact (below_size hb_) : w.heap.size ≤ gb115)); clear HB; have HB := n0_; have BK115 := n1_; have GW115 := n2_; have GE115 := n3_; clear n0_ n1_ n2_ n3_; clear hb hbox hg) | ((with_reducible refine gate_dst (N := 3) rfl ?_); refine box_event ?hg (N := 3) ?hd (cs := #[.int .i64 a1_0, .int .i64 a1_1]) (t := 80) ?hr ?_; (case hd => rfl); (case hg => rfl); (case hr => first | (go_simp; done) | (go_simp; rfl)); intro gb116 hg w14 hbox hb; have n0_ := Aside0.mk (blk_below (g := gb115) (o := .cells #[.int .i64 a0_0, .int .i64 a0_1] 80 (0, 0)) (kx_ BK115.out) hb); have n1_ := Aside0.mk (below_step (hs_ GE115.out) hb); have n2_ := Aside0.mk (hbox); have n3_ := Aside0.mk ((by rw [hg]; exact (below_size (hs_ GE115.out)) : w.heap.size ≤ gb116)); have n4_ := Aside0.mk ((by rw [hg]; exact (below_size (hs_ GE115.out)) : w.heap.size ≤ gb116)); have n5_ := Aside0.mk ((by rw [hg]; exact Nat.ne_of_lt (blk_lt (g := gb115) (o := .cells #[.int .i64 a0_0, .int .i64 a0_1] 80 (0, 0)) (kx_ BK115.out)) : gb115 ≠ gb116)); have n6_ := Aside0.mk ((by rw [hg]; exact Nat.ne_of_gt (blk_lt (g := gb115) (o := .cells #[.int .i64 a0_0, .int .i64 a0_1] 80 (0, 0)) (kx_ BK115.out)) : gb116 ≠ gb115)); clear BK115; clear HB; have BK115 := n0_; have HB := n1_; have BK116 := n2_; have GW116 := n3_; have GE116 := n4_; have NB115_116 := n5_; have NB116_115 := n6_; clear n0_ n1_ n2_ n3_ n4_ n5_ n6_; clear hb hbox hg; have hnb15 := NB115_116.out; have hnc15 := NB116_115.out; have hcz16_0 : w14.cell? ⟨gb115, 0, none⟩ = some (.int .i64 a0_0) := bc_ BK115 0; have hcz16_1 : w14.cell? ⟨gb115, 1, none⟩ = some (.int .i64 a0_1) := bc_ BK115 1; have hfz16_0 := blk_frozen BK115.out 0; have hfz16_1 := blk_frozen BK115.out 1; have hcz17_0 : w14.cell? ⟨gb116, 0, none⟩ = some (.int .i64 a1_0) := bc_ BK116 0; have hcz17_1 : w14.cell? ⟨gb116, 1, none⟩ = some (.int .i64 a1_1) := bc_ BK116 1; have hfz17_0 := blk_frozen BK116.out 0; have hfz17_1 := blk_frozen BK116.out 1))
      go_ret
      exact ⟨by first | rfl | (simp [errW_none, errW_some] <;> rfl) | (simp [*, errW_none, errW_some] <;> rfl), hm_⟩
     ·rw [if_neg c12] at H
      have c12b0 : decide (a0_0 < a1_1) = false := decide_eq_false c12
      clear c12
      obtain rfl := oI H
      go_enter Try.func71, Try.ntmps71
      go_wp2_with (first | ((with_reducible refine gate_dst (N := 2) rfl ?_); refine box_event ?hg (N := 2) ?hd (cs := #[.int .i64 a0_0, .int .i64 a0_1]) (t := 80) ?hr ?_; (case hd => rfl); (case hg => rfl); (case hr => first | (go_simp; done) | (go_simp; rfl)); intro gb115 hg w18 hbox hb; have n0_ := Aside0.mk (below_step hb_ hb); have n1_ := Aside0.mk (hbox); have n2_ := Aside0.mk ((by rw [hg]; exact (below_size hb_) : w.heap.size ≤ gb115)); have n3_ := Aside0.mk ((by rw [hg]; exact (below_size hb_) : w.heap.size ≤ gb115)); clear HB; have HB := n0_; have BK115 := n1_; have GW115 := n2_; have GE115 := n3_; clear n0_ n1_ n2_ n3_; clear hb hbox hg) | ((with_reducible refine gate_dst (N := 3) rfl ?_); refine box_event ?hg (N := 3) ?hd (cs := #[.int .i64 a1_0, .int .i64 a1_1]) (t := 80) ?hr ?_; (case hd => rfl); (case hg => rfl); (case hr => first | (go_simp; done) | (go_simp; rfl)); intro gb116 hg w19 hbox hb; have n0_ := Aside0.mk (blk_below (g := gb115) (o := .cells #[.int .i64 a0_0, .int .i64 a0_1] 80 (0, 0)) (kx_ BK115.out) hb); have n1_ := Aside0.mk (below_step (hs_ GE115.out) hb); have n2_ := Aside0.mk (hbox); have n3_ := Aside0.mk ((by rw [hg]; exact (below_size (hs_ GE115.out)) : w.heap.size ≤ gb116)); have n4_ := Aside0.mk ((by rw [hg]; exact (below_size (hs_ GE115.out)) : w.heap.size ≤ gb116)); have n5_ := Aside0.mk ((by rw [hg]; exact Nat.ne_of_lt (blk_lt (g := gb115) (o := .cells #[.int .i64 a0_0, .int .i64 a0_1] 80 (0, 0)) (kx_ BK115.out)) : gb115 ≠ gb116)); have n6_ := Aside0.mk ((by rw [hg]; exact Nat.ne_of_gt (blk_lt (g := gb115) (o := .cells #[.int .i64 a0_0, .int .i64 a0_1] 80 (0, 0)) (kx_ BK115.out)) : gb116 ≠ gb115)); clear BK115; clear HB; have BK115 := n0_; have HB := n1_; have BK116 := n2_; have GW116 := n3_; have GE116 := n4_; have NB115_116 := n5_; have NB116_115 := n6_; clear n0_ n1_ n2_ n3_ n4_ n5_ n6_; clear hb hbox hg; have hnb20 := NB115_116.out; have hnc20 := NB116_115.out; have hcz21_0 : w19.cell? ⟨gb115, 0, none⟩ = some (.int .i64 a0_0) := bc_ BK115 0; have hcz21_1 : w19.cell? ⟨gb115, 1, none⟩ = some (.int .i64 a0_1) := bc_ BK115 1; have hfz21_0 := blk_frozen BK115.out 0; have hfz21_1 := blk_frozen BK115.out 1; have hcz22_0 : w19.cell? ⟨gb116, 0, none⟩ = some (.int .i64 a1_0) := bc_ BK116 0; have hcz22_1 : w19.cell? ⟨gb116, 1, none⟩ = some (.int .i64 a1_1) := bc_ BK116 1; have hfz22_0 := blk_frozen BK116.out 0; have hfz22_1 := blk_frozen BK116.out 1))
      go_ret
      exact ⟨by first | rfl | (simp [errW_none, errW_some] <;> rfl) | (simp [*, errW_none, errW_some] <;> rfl), hm_⟩
    ·rw [if_neg c11] at H
     have c11b0 : decide (a1_0 < a0_0) = false := decide_eq_false c11
     clear c11
     obtain rfl := oI H
     go_enter Try.func71, Try.ntmps71
     go_wp2_with (first | ((with_reducible refine gate_dst (N := 2) rfl ?_); refine box_event ?hg (N := 2) ?hd (cs := #[.int .i64 a0_0, .int .i64 a0_1]) (t := 80) ?hr ?_; (case hd => rfl); (case hg => rfl); (case hr => first | (go_simp; done) | (go_simp; rfl)); intro gb115 hg w23 hbox hb; have n0_ := Aside0.mk (below_step hb_ hb); have n1_ := Aside0.mk (hbox); have n2_ := Aside0.mk ((by rw [hg]; exact (below_size hb_) : w.heap.size ≤ gb115)); have n3_ := Aside0.mk ((by rw [hg]; exact (below_size hb_) : w.heap.size ≤ gb115)); clear HB; have HB := n0_; have BK115 := n1_; have GW115 := n2_; have GE115 := n3_; clear n0_ n1_ n2_ n3_; clear hb hbox hg) | ((with_reducible refine gate_dst (N := 3) rfl ?_); refine box_event ?hg (N := 3) ?hd (cs := #[.int .i64 a1_0, .int .i64 a1_1]) (t := 80) ?hr ?_; (case hd => rfl); (case hg => rfl); (case hr => first | (go_simp; done) | (go_simp; rfl)); intro gb116 hg w24 hbox hb; have n0_ := Aside0.mk (blk_below (g := gb115) (o := .cells #[.int .i64 a0_0, .int .i64 a0_1] 80 (0, 0)) (kx_ BK115.out) hb); have n1_ := Aside0.mk (below_step (hs_ GE115.out) hb); have n2_ := Aside0.mk (hbox); have n3_ := Aside0.mk ((by rw [hg]; exact (below_size (hs_ GE115.out)) : w.heap.size ≤ gb116)); have n4_ := Aside0.mk ((by rw [hg]; exact (below_size (hs_ GE115.out)) : w.heap.size ≤ gb116)); have n5_ := Aside0.mk ((by rw [hg]; exact Nat.ne_of_lt (blk_lt (g := gb115) (o := .cells #[.int .i64 a0_0, .int .i64 a0_1] 80 (0, 0)) (kx_ BK115.out)) : gb115 ≠ gb116)); have n6_ := Aside0.mk ((by rw [hg]; exact Nat.ne_of_gt (blk_lt (g := gb115) (o := .cells #[.int .i64 a0_0, .int .i64 a0_1] 80 (0, 0)) (kx_ BK115.out)) : gb116 ≠ gb115)); clear BK115; clear HB; have BK115 := n0_; have HB := n1_; have BK116 := n2_; have GW116 := n3_; have GE116 := n4_; have NB115_116 := n5_; have NB116_115 := n6_; clear n0_ n1_ n2_ n3_ n4_ n5_ n6_; clear hb hbox hg; have hnb25 := NB115_116.out; have hnc25 := NB116_115.out; have hcz26_0 : w24.cell? ⟨gb115, 0, none⟩ = some (.int .i64 a0_0) := bc_ BK115 0; have hcz26_1 : w24.cell? ⟨gb115, 1, none⟩ = some (.int .i64 a0_1) := bc_ BK115 1; have hfz26_0 := blk_frozen BK115.out 0; have hfz26_1 := blk_frozen BK115.out 1; have hcz27_0 : w24.cell? ⟨gb116, 0, none⟩ = some (.int .i64 a1_0) := bc_ BK116 0; have hcz27_1 : w24.cell? ⟨gb116, 1, none⟩ = some (.int .i64 a1_1) := bc_ BK116 1; have hfz27_0 := blk_frozen BK116.out 0; have hfz27_1 := blk_frozen BK116.out 1))
     go_ret
     exact ⟨by first | rfl | (simp [errW_none, errW_some] <;> rfl) | (simp [*, errW_none, errW_some] <;> rfl), hm_⟩
  ·rw [if_neg c4] at H
   have c4b0 : decide (a1_0 < a0_1) = false := decide_eq_false c4
   clear c4
   by_cases c28 : a1_0 < a0_0
   ·rw [if_pos c28] at H
    have c28b0 : decide (a1_0 < a0_0) = true := decide_eq_true c28
    clear c28
    by_cases c29 : a0_0 < a1_1
    ·rw [if_pos c29] at H
     have c29b0 : decide (a0_0 < a1_1) = true := decide_eq_true c29
     clear c29
     obtain rfl := oI H
     go_enter Try.func71, Try.ntmps71
     go_wp2_with (first | ((with_reducible refine gate_dst (N := 2) rfl ?_); refine box_event ?hg (N := 2) ?hd (cs := #[.int .i64 a0_0, .int .i64 a0_1]) (t := 80) ?hr ?_; (case hd => rfl); (case hg => rfl); (case hr => first | (go_simp; done) | (go_simp; rfl)); intro gb115 hg w30 hbox hb; have n0_ := Aside0.mk (below_step hb_ hb); have n1_ := Aside0.mk (hbox); have n2_ := Aside0.mk ((by rw [hg]; exact (below_size hb_) : w.heap.size ≤ gb115)); have n3_ := Aside0.mk ((by rw [hg]; exact (below_size hb_) : w.heap.size ≤ gb115)); clear HB; have HB := n0_; have BK115 := n1_; have GW115 := n2_; have GE115 := n3_; clear n0_ n1_ n2_ n3_; clear hb hbox hg) | ((with_reducible refine gate_dst (N := 3) rfl ?_); refine box_event ?hg (N := 3) ?hd (cs := #[.int .i64 a1_0, .int .i64 a1_1]) (t := 80) ?hr ?_; (case hd => rfl); (case hg => rfl); (case hr => first | (go_simp; done) | (go_simp; rfl)); intro gb116 hg w31 hbox hb; have n0_ := Aside0.mk (blk_below (g := gb115) (o := .cells #[.int .i64 a0_0, .int .i64 a0_1] 80 (0, 0)) (kx_ BK115.out) hb); have n1_ := Aside0.mk (below_step (hs_ GE115.out) hb); have n2_ := Aside0.mk (hbox); have n3_ := Aside0.mk ((by rw [hg]; exact (below_size (hs_ GE115.out)) : w.heap.size ≤ gb116)); have n4_ := Aside0.mk ((by rw [hg]; exact (below_size (hs_ GE115.out)) : w.heap.size ≤ gb116)); have n5_ := Aside0.mk ((by rw [hg]; exact Nat.ne_of_lt (blk_lt (g := gb115) (o := .cells #[.int .i64 a0_0, .int .i64 a0_1] 80 (0, 0)) (kx_ BK115.out)) : gb115 ≠ gb116)); have n6_ := Aside0.mk ((by rw [hg]; exact Nat.ne_of_gt (blk_lt (g := gb115) (o := .cells #[.int .i64 a0_0, .int .i64 a0_1] 80 (0, 0)) (kx_ BK115.out)) : gb116 ≠ gb115)); clear BK115; clear HB; have BK115 := n0_; have HB := n1_; have BK116 := n2_; have GW116 := n3_; have GE116 := n4_; have NB115_116 := n5_; have NB116_115 := n6_; clear n0_ n1_ n2_ n3_ n4_ n5_ n6_; clear hb hbox hg; have hnb32 := NB115_116.out; have hnc32 := NB116_115.out; have hcz33_0 : w31.cell? ⟨gb115, 0, none⟩ = some (.int .i64 a0_0) := bc_ BK115 0; have hcz33_1 : w31.cell? ⟨gb115, 1, none⟩ = some (.int .i64 a0_1) := bc_ BK115 1; have hfz33_0 := blk_frozen BK115.out 0; have hfz33_1 := blk_frozen BK115.out 1; have hcz34_0 : w31.cell? ⟨gb116, 0, none⟩ = some (.int .i64 a1_0) := bc_ BK116 0; have hcz34_1 : w31.cell? ⟨gb116, 1, none⟩ = some (.int .i64 a1_1) := bc_ BK116 1; have hfz34_0 := blk_frozen BK116.out 0; have hfz34_1 := blk_frozen BK116.out 1))
     go_ret
     exact ⟨by first | rfl | (simp [errW_none, errW_some] <;> rfl) | (simp [*, errW_none, errW_some] <;> rfl), hm_⟩
    ·rw [if_neg c29] at H
     have c29b0 : decide (a0_0 < a1_1) = false := decide_eq_false c29
     clear c29
     obtain rfl := oI H
     go_enter Try.func71, Try.ntmps71
     go_wp2_with (first | ((with_reducible refine gate_dst (N := 2) rfl ?_); refine box_event ?hg (N := 2) ?hd (cs := #[.int .i64 a0_0, .int .i64 a0_1]) (t := 80) ?hr ?_; (case hd => rfl); (case hg => rfl); (case hr => first | (go_simp; done) | (go_simp; rfl)); intro gb115 hg w35 hbox hb; have n0_ := Aside0.mk (below_step hb_ hb); have n1_ := Aside0.mk (hbox); have n2_ := Aside0.mk ((by rw [hg]; exact (below_size hb_) : w.heap.size ≤ gb115)); have n3_ := Aside0.mk ((by rw [hg]; exact (below_size hb_) : w.heap.size ≤ gb115)); clear HB; have HB := n0_; have BK115 := n1_; have GW115 := n2_; have GE115 := n3_; clear n0_ n1_ n2_ n3_; clear hb hbox hg) | ((with_reducible refine gate_dst (N := 3) rfl ?_); refine box_event ?hg (N := 3) ?hd (cs := #[.int .i64 a1_0, .int .i64 a1_1]) (t := 80) ?hr ?_; (case hd => rfl); (case hg => rfl); (case hr => first | (go_simp; done) | (go_simp; rfl)); intro gb116 hg w36 hbox hb; have n0_ := Aside0.mk (blk_below (g := gb115) (o := .cells #[.int .i64 a0_0, .int .i64 a0_1] 80 (0, 0)) (kx_ BK115.out) hb); have n1_ := Aside0.mk (below_step (hs_ GE115.out) hb); have n2_ := Aside0.mk (hbox); have n3_ := Aside0.mk ((by rw [hg]; exact (below_size (hs_ GE115.out)) : w.heap.size ≤ gb116)); have n4_ := Aside0.mk ((by rw [hg]; exact (below_size (hs_ GE115.out)) : w.heap.size ≤ gb116)); have n5_ := Aside0.mk ((by rw [hg]; exact Nat.ne_of_lt (blk_lt (g := gb115) (o := .cells #[.int .i64 a0_0, .int .i64 a0_1] 80 (0, 0)) (kx_ BK115.out)) : gb115 ≠ gb116)); have n6_ := Aside0.mk ((by rw [hg]; exact Nat.ne_of_gt (blk_lt (g := gb115) (o := .cells #[.int .i64 a0_0, .int .i64 a0_1] 80 (0, 0)) (kx_ BK115.out)) : gb116 ≠ gb115)); clear BK115; clear HB; have BK115 := n0_; have HB := n1_; have BK116 := n2_; have GW116 := n3_; have GE116 := n4_; have NB115_116 := n5_; have NB116_115 := n6_; clear n0_ n1_ n2_ n3_ n4_ n5_ n6_; clear hb hbox hg; have hnb37 := NB115_116.out; have hnc37 := NB116_115.out; have hcz38_0 : w36.cell? ⟨gb115, 0, none⟩ = some (.int .i64 a0_0) := bc_ BK115 0; have hcz38_1 : w36.cell? ⟨gb115, 1, none⟩ = some (.int .i64 a0_1) := bc_ BK115 1; have hfz38_0 := blk_frozen BK115.out 0; have hfz38_1 := blk_frozen BK115.out 1; have hcz39_0 : w36.cell? ⟨gb116, 0, none⟩ = some (.int .i64 a1_0) := bc_ BK116 0; have hcz39_1 : w36.cell? ⟨gb116, 1, none⟩ = some (.int .i64 a1_1) := bc_ BK116 1; have hfz39_0 := blk_frozen BK116.out 0; have hfz39_1 := blk_frozen BK116.out 1))
     go_ret
     exact ⟨by first | rfl | (simp [errW_none, errW_some] <;> rfl) | (simp [*, errW_none, errW_some] <;> rfl), hm_⟩
   ·rw [if_neg c28] at H
    have c28b0 : decide (a1_0 < a0_0) = false := decide_eq_false c28
    clear c28
    obtain rfl := oI H
    go_enter Try.func71, Try.ntmps71
    go_wp2_with (first | ((with_reducible refine gate_dst (N := 2) rfl ?_); refine box_event ?hg (N := 2) ?hd (cs := #[.int .i64 a0_0, .int .i64 a0_1]) (t := 80) ?hr ?_; (case hd => rfl); (case hg => rfl); (case hr => first | (go_simp; done) | (go_simp; rfl)); intro gb115 hg w40 hbox hb; have n0_ := Aside0.mk (below_step hb_ hb); have n1_ := Aside0.mk (hbox); have n2_ := Aside0.mk ((by rw [hg]; exact (below_size hb_) : w.heap.size ≤ gb115)); have n3_ := Aside0.mk ((by rw [hg]; exact (below_size hb_) : w.heap.size ≤ gb115)); clear HB; have HB := n0_; have BK115 := n1_; have GW115 := n2_; have GE115 := n3_; clear n0_ n1_ n2_ n3_; clear hb hbox hg) | ((with_reducible refine gate_dst (N := 3) rfl ?_); refine box_event ?hg (N := 3) ?hd (cs := #[.int .i64 a1_0, .int .i64 a1_1]) (t := 80) ?hr ?_; (case hd => rfl); (case hg => rfl); (case hr => first | (go_simp; done) | (go_simp; rfl)); intro gb116 hg w41 hbox hb; have n0_ := Aside0.mk (blk_below (g := gb115) (o := .cells #[.int .i64 a0_0, .int .i64 a0_1] 80 (0, 0)) (kx_ BK115.out) hb); have n1_ := Aside0.mk (below_step (hs_ GE115.out) hb); have n2_ := Aside0.mk (hbox); have n3_ := Aside0.mk ((by rw [hg]; exact (below_size (hs_ GE115.out)) : w.heap.size ≤ gb116)); have n4_ := Aside0.mk ((by rw [hg]; exact (below_size (hs_ GE115.out)) : w.heap.size ≤ gb116)); have n5_ := Aside0.mk ((by rw [hg]; exact Nat.ne_of_lt (blk_lt (g := gb115) (o := .cells #[.int .i64 a0_0, .int .i64 a0_1] 80 (0, 0)) (kx_ BK115.out)) : gb115 ≠ gb116)); have n6_ := Aside0.mk ((by rw [hg]; exact Nat.ne_of_gt (blk_lt (g := gb115) (o := .cells #[.int .i64 a0_0, .int .i64 a0_1] 80 (0, 0)) (kx_ BK115.out)) : gb116 ≠ gb115)); clear BK115; clear HB; have BK115 := n0_; have HB := n1_; have BK116 := n2_; have GW116 := n3_; have GE116 := n4_; have NB115_116 := n5_; have NB116_115 := n6_; clear n0_ n1_ n2_ n3_ n4_ n5_ n6_; clear hb hbox hg; have hnb42 := NB115_116.out; have hnc42 := NB116_115.out; have hcz43_0 : w41.cell? ⟨gb115, 0, none⟩ = some (.int .i64 a0_0) := bc_ BK115 0; have hcz43_1 : w41.cell? ⟨gb115, 1, none⟩ = some (.int .i64 a0_1) := bc_ BK115 1; have hfz43_0 := blk_frozen BK115.out 0; have hfz43_1 := blk_frozen BK115.out 1; have hcz44_0 : w41.cell? ⟨gb116, 0, none⟩ = some (.int .i64 a1_0) := bc_ BK116 0; have hcz44_1 : w41.cell? ⟨gb116, 1, none⟩ = some (.int .i64 a1_1) := bc_ BK116 1; have hfz44_0 := blk_frozen BK116.out 0; have hfz44_1 := blk_frozen BK116.out 1))
    go_ret
    exact ⟨by first | rfl | (simp [errW_none, errW_some] <;> rfl) | (simp [*, errW_none, errW_some] <;> rfl), hm_⟩
 ·rw [if_neg c3] at H
  have c3b0 : decide (a0_0 < a1_0) = false := decide_eq_false c3
  clear c3
  by_cases c45 : a1_0 < a0_0
  ·rw [if_pos c45] at H
   have c45b0 : decide (a1_0 < a0_0) = true := decide_eq_true c45
   clear c45
   by_cases c46 : a0_0 < a1_1
   ·rw [if_pos c46] at H
    have c46b0 : decide (a0_0 < a1_1) = true := decide_eq_true c46
    clear c46
    obtain rfl := oI H
    go_enter Try.func71, Try.ntmps71
    go_wp2_with (first | ((with_reducible refine gate_dst (N := 2) rfl ?_); refine box_event ?hg (N := 2) ?hd (cs := #[.int .i64 a0_0, .int .i64 a0_1]) (t := 80) ?hr ?_; (case hd => rfl); (case hg => rfl); (case hr => first | (go_simp; done) | (go_simp; rfl)); intro gb115 hg w47 hbox hb; have n0_ := Aside0.mk (below_step hb_ hb); have n1_ := Aside0.mk (hbox); have n2_ := Aside0.mk ((by rw [hg]; exact (below_size hb_) : w.heap.size ≤ gb115)); have n3_ := Aside0.mk ((by rw [hg]; exact (below_size hb_) : w.heap.size ≤ gb115)); clear HB; have HB := n0_; have BK115 := n1_; have GW115 := n2_; have GE115 := n3_; clear n0_ n1_ n2_ n3_; clear hb hbox hg) | ((with_reducible refine gate_dst (N := 3) rfl ?_); refine box_event ?hg (N := 3) ?hd (cs := #[.int .i64 a1_0, .int .i64 a1_1]) (t := 80) ?hr ?_; (case hd => rfl); (case hg => rfl); (case hr => first | (go_simp; done) | (go_simp; rfl)); intro gb116 hg w48 hbox hb; have n0_ := Aside0.mk (blk_below (g := gb115) (o := .cells #[.int .i64 a0_0, .int .i64 a0_1] 80 (0, 0)) (kx_ BK115.out) hb); have n1_ := Aside0.mk (below_step (hs_ GE115.out) hb); have n2_ := Aside0.mk (hbox); have n3_ := Aside0.mk ((by rw [hg]; exact (below_size (hs_ GE115.out)) : w.heap.size ≤ gb116)); have n4_ := Aside0.mk ((by rw [hg]; exact (below_size (hs_ GE115.out)) : w.heap.size ≤ gb116)); have n5_ := Aside0.mk ((by rw [hg]; exact Nat.ne_of_lt (blk_lt (g := gb115) (o := .cells #[.int .i64 a0_0, .int .i64 a0_1] 80 (0, 0)) (kx_ BK115.out)) : gb115 ≠ gb116)); have n6_ := Aside0.mk ((by rw [hg]; exact Nat.ne_of_gt (blk_lt (g := gb115) (o := .cells #[.int .i64 a0_0, .int .i64 a0_1] 80 (0, 0)) (kx_ BK115.out)) : gb116 ≠ gb115)); clear BK115; clear HB; have BK115 := n0_; have HB := n1_; have BK116 := n2_; have GW116 := n3_; have GE116 := n4_; have NB115_116 := n5_; have NB116_115 := n6_; clear n0_ n1_ n2_ n3_ n4_ n5_ n6_; clear hb hbox hg; have hnb49 := NB115_116.out; have hnc49 := NB116_115.out; have hcz50_0 : w48.cell? ⟨gb115, 0, none⟩ = some (.int .i64 a0_0) := bc_ BK115 0; have hcz50_1 : w48.cell? ⟨gb115, 1, none⟩ = some (.int .i64 a0_1) := bc_ BK115 1; have hfz50_0 := blk_frozen BK115.out 0; have hfz50_1 := blk_frozen BK115.out 1; have hcz51_0 : w48.cell? ⟨gb116, 0, none⟩ = some (.int .i64 a1_0) := bc_ BK116 0; have hcz51_1 : w48.cell? ⟨gb116, 1, none⟩ = some (.int .i64 a1_1) := bc_ BK116 1; have hfz51_0 := blk_frozen BK116.out 0; have hfz51_1 := blk_frozen BK116.out 1))
    go_ret
    exact ⟨by first | rfl | (simp [errW_none, errW_some] <;> rfl) | (simp [*, errW_none, errW_some] <;> rfl), hm_⟩
   ·rw [if_neg c46] at H
    have c46b0 : decide (a0_0 < a1_1) = false := decide_eq_false c46
    clear c46
    obtain rfl := oI H
    go_enter Try.func71, Try.ntmps71
    go_wp2_with (first | ((with_reducible refine gate_dst (N := 2) rfl ?_); refine box_event ?hg (N := 2) ?hd (cs := #[.int .i64 a0_0, .int .i64 a0_1]) (t := 80) ?hr ?_; (case hd => rfl); (case hg => rfl); (case hr => first | (go_simp; done) | (go_simp; rfl)); intro gb115 hg w52 hbox hb; have n0_ := Aside0.mk (below_step hb_ hb); have n1_ := Aside0.mk (hbox); have n2_ := Aside0.mk ((by rw [hg]; exact (below_size hb_) : w.heap.size ≤ gb115)); have n3_ := Aside0.mk ((by rw [hg]; exact (below_size hb_) : w.heap.size ≤ gb115)); clear HB; have HB := n0_; have BK115 := n1_; have GW115 := n2_; have GE115 := n3_; clear n0_ n1_ n2_ n3_; clear hb hbox hg) | ((with_reducible refine gate_dst (N := 3) rfl ?_); refine box_event ?hg (N := 3) ?hd (cs := #[.int .i64 a1_0, .int .i64 a1_1]) (t := 80) ?hr ?_; (case hd => rfl); (case hg => rfl); (case hr => first | (go_simp; done) | (go_simp; rfl)); intro gb116 hg w53 hbox hb; have n0_ := Aside0.mk (blk_below (g := gb115) (o := .cells #[.int .i64 a0_0, .int .i64 a0_1] 80 (0, 0)) (kx_ BK115.out) hb); have n1_ := Aside0.mk (below_step (hs_ GE115.out) hb); have n2_ := Aside0.mk (hbox); have n3_ := Aside0.mk ((by rw [hg]; exact (below_size (hs_ GE115.out)) : w.heap.size ≤ gb116)); have n4_ := Aside0.mk ((by rw [hg]; exact (below_size (hs_ GE115.out)) : w.heap.size ≤ gb116)); have n5_ := Aside0.mk ((by rw [hg]; exact Nat.ne_of_lt (blk_lt (g := gb115) (o := .cells #[.int .i64 a0_0, .int .i64 a0_1] 80 (0, 0)) (kx_ BK115.out)) : gb115 ≠ gb116)); have n6_ := Aside0.mk ((by rw [hg]; exact Nat.ne_of_gt (blk_lt (g := gb115) (o := .cells #[.int .i64 a0_0, .int .i64 a0_1] 80 (0, 0)) (kx_ BK115.out)) : gb116 ≠ gb115)); clear BK115; clear HB; have BK115 := n0_; have HB := n1_; have BK116 := n2_; have GW116 := n3_; have GE116 := n4_; have NB115_116 := n5_; have NB116_115 := n6_; clear n0_ n1_ n2_ n3_ n4_ n5_ n6_; clear hb hbox hg; have hnb54 := NB115_116.out; have hnc54 := NB116_115.out; have hcz55_0 : w53.cell? ⟨gb115, 0, none⟩ = some (.int .i64 a0_0) := bc_ BK115 0; have hcz55_1 : w53.cell? ⟨gb115, 1, none⟩ = some (.int .i64 a0_1) := bc_ BK115 1; have hfz55_0 := blk_frozen BK115.out 0; have hfz55_1 := blk_frozen BK115.out 1; have hcz56_0 : w53.cell? ⟨gb116, 0, none⟩ = some (.int .i64 a1_0) := bc_ BK116 0; have hcz56_1 : w53.cell? ⟨gb116, 1, none⟩ = some (.int .i64 a1_1) := bc_ BK116 1; have hfz56_0 := blk_frozen BK116.out 0; have hfz56_1 := blk_frozen BK116.out 1))
    go_ret
    exact ⟨by first | rfl | (simp [errW_none, errW_some] <;> rfl) | (simp [*, errW_none, errW_some] <;> rfl), hm_⟩
  ·rw [if_neg c45] at H
   have c45b0 : decide (a1_0 < a0_0) = false := decide_eq_false c45
   clear c45
   obtain rfl := oI H
   go_enter Try.func71, Try.ntmps71
   go_wp2_with (first | ((with_reducible refine gate_dst (N := 2) rfl ?_); refine box_event ?hg (N := 2) ?hd (cs := #[.int .i64 a0_0, .int .i64 a0_1]) (t := 80) ?hr ?_; (case hd => rfl); (case hg => rfl); (case hr => first | (go_simp; done) | (go_simp; rfl)); intro gb115 hg w57 hbox hb; have n0_ := Aside0.mk (below_step hb_ hb); have n1_ := Aside0.mk (hbox); have n2_ := Aside0.mk ((by rw [hg]; exact (below_size hb_) : w.heap.size ≤ gb115)); have n3_ := Aside0.mk ((by rw [hg]; exact (below_size hb_) : w.heap.size ≤ gb115)); clear HB; have HB := n0_; have BK115 := n1_; have GW115 := n2_; have GE115 := n3_; clear n0_ n1_ n2_ n3_; clear hb hbox hg) | ((with_reducible refine gate_dst (N := 3) rfl ?_); refine box_event ?hg (N := 3) ?hd (cs := #[.int .i64 a1_0, .int .i64 a1_1]) (t := 80) ?hr ?_; (case hd => rfl); (case hg => rfl); (case hr => first | (go_simp; done) | (go_simp; rfl)); intro gb116 hg w58 hbox hb; have n0_ := Aside0.mk (blk_below (g := gb115) (o := .cells #[.int .i64 a0_0, .int .i64 a0_1] 80 (0, 0)) (kx_ BK115.out) hb); have n1_ := Aside0.mk (below_step (hs_ GE115.out) hb); have n2_ := Aside0.mk (hbox); have n3_ := Aside0.mk ((by rw [hg]; exact (below_size (hs_ GE115.out)) : w.heap.size ≤ gb116)); have n4_ := Aside0.mk ((by rw [hg]; exact (below_size (hs_ GE115.out)) : w.heap.size ≤ gb116)); have n5_ := Aside0.mk ((by rw [hg]; exact Nat.ne_of_lt (blk_lt (g := gb115) (o := .cells #[.int .i64 a0_0, .int .i64 a0_1] 80 (0, 0)) (kx_ BK115.out)) : gb115 ≠ gb116)); have n6_ := Aside0.mk ((by rw [hg]; exact Nat.ne_of_gt (blk_lt (g := gb115) (o := .cells #[.int .i64 a0_0, .int .i64 a0_1] 80 (0, 0)) (kx_ BK115.out)) : gb116 ≠ gb115)); clear BK115; clear HB; have BK115 := n0_; have HB := n1_; have BK116 := n2_; have GW116 := n3_; have GE116 := n4_; have NB115_116 := n5_; have NB116_115 := n6_; clear n0_ n1_ n2_ n3_ n4_ n5_ n6_; clear hb hbox hg; have hnb59 := NB115_116.out; have hnc59 := NB116_115.out; have hcz60_0 : w58.cell? ⟨gb115, 0, none⟩ = some (.int .i64 a0_0) := bc_ BK115 0; have hcz60_1 : w58.cell? ⟨gb115, 1, none⟩ = some (.int .i64 a0_1) := bc_ BK115 1; have hfz60_0 := blk_frozen BK115.out 0; have hfz60_1 := blk_frozen BK115.out 1; have hcz61_0 : w58.cell? ⟨gb116, 0, none⟩ = some (.int .i64 a1_0) := bc_ BK116 0; have hcz61_1 : w58.cell? ⟨gb116, 1, none⟩ = some (.int .i64 a1_1) := bc_ BK116 1; have hfz61_0 := blk_frozen BK116.out 0; have hfz61_1 := blk_frozen BK116.out 1))
   go_ret
   exact ⟨by first | rfl | (simp [errW_none, errW_some] <;> rfl) | (simp [*, errW_none, errW_some] <;> rfl), hm_⟩
def impl_crossed.l0 : Nat → Int → List (S80) → Int → Int → Int → Int → Option (Int)
 | 0, _, _, _, _, _, _ => none
 | k + 1, x5, x8, x9, x10, x118000, x118001 => if x10 < x9 then (if 0 ≤ x10 then (if x10 < (x8.length : Int) then ((impl_crossing.f x118000 x118001 ((rd_T80 x8 x10).f0) ((rd_T80 x8 x10).f1)).bind fun t120 => (if t120 = true then (impl_crossed.l0 k (wrap64 (x5 + 1)) x8 x9 (wrap64 (x10 + 1)) x118000 x118001) else (impl_crossed.l0 k x5 x8 x9 (wrap64 (x10 + 1)) x118000 x118001))) else (none)) else (none)) else (some x5)
def impl_crossed.f (k : Nat) (l0 : List (S80)) (a1_0 : Int) (a1_1 : Int) : Option (Int) := impl_crossed.l0 k 0 l0 (l0.length : Int) 0 a1_0 a1_1
theorem impl_crossed.mono_l : ∀ k, (∀ y0 y1 y2 y3 y4 y5, LeO (impl_crossed.l0 k y0 y1 y2 y3 y4 y5) (impl_crossed.l0 (k + 1) y0 y1 y2 y3 y4 y5))
 | 0 => fun _ _ _ _ _ _ r h => by simp [impl_crossed.l0] at h
 | k + 1 => by
  have ih0 := impl_crossed.mono_l k
  ·intro y0 y1 y2 y3 y4 y5
   unfold impl_crossed.l0
   repeat' first
   | (with_reducible exact ih0 _ _ _ _ _ _)
   | (with_reducible exact LeO.refl _)
   | (with_reducible exact LeO.none _)
   | (with_reducible refine LeO.ite ?_ ?_)
   | (with_reducible refine LeO.bind ?_ (fun _ => ?_))
   | exact ih0 _ _ _ _ _ _
   | exact LeO.none _
   | refine LeO.ite ?_ ?_
   | refine LeO.bind ?_ (fun _ => ?_)
theorem impl_crossed.mono : ∀ a0 a1 a2 k, LeO (impl_crossed.f k a0 a1 a2) (impl_crossed.f (k + 1) a0 a1 a2) := by
 intro a0 a1 a2 k
 have ih0 := impl_crossed.mono_l k
 unfold impl_crossed.f
 repeat' first
   | (with_reducible exact ih0 _ _ _ _ _ _)
   | (with_reducible exact LeO.refl _)
   | (with_reducible exact LeO.none _)
   | (with_reducible refine LeO.ite ?_ ?_)
   | (with_reducible refine LeO.bind ?_ (fun _ => ?_))
   | exact ih0 _ _ _ _ _ _
   | exact LeO.none _
   | refine LeO.ite ?_ ?_
   | refine LeO.bind ?_ (fun _ => ?_)
set_option maxHeartbeats 8000000 in
set_option maxRecDepth 100000 in
theorem impl_crossed.calls (k : Nat) (A0 : Option Addr) (c0 : Nat) (l0 : List (S80)) (a1_0 : Int) (a1_1 : Int) (r : Int) (w : World) (hr0 : Kd.C k80 w A0 l0.length l0) (hc0 : l0.length ≤ c0) (h : impl_crossed.f k l0 a1_0 a1_1 = some r) :
  Calls Try.prog 65 #[.slice A0 l0.length c0, .agg #[.int .i64 a1_0, .int .i64 a1_1]] w fun e w' => e = .returned (.int .i64 r) ∧ Below w.heap.size w w' := by
 have hu80 := Try.underlying80
 have HR0 := Aside0.mk hr0
 have HC0 := Aside0.mk hc0
 clear hr0 hc0
 have HB := Aside0.mk (Below.refl w.heap.size w)
 have H : (impl_crossed.l0 k 0 l0 (l0.length : Int) 0 a1_0 a1_1) = some r := h
 clear h
 have H' := Aside0.mk H
 clear H
 go_enter Try.func65, Try.ntmps65
 go_wp2_with (first | ((with_reducible refine gate_dst (N := 3) rfl ?_); refine box_event ?hg (N := 3) ?hd (cs := #[.int .i64 a1_0, .int .i64 a1_1]) (t := 80) ?hr ?_; (case hd => rfl); (case hg => rfl); (case hr => first | (go_simp; done) | (go_simp; rfl)); intro gb117 hg w3 hbox hb; have n0_ := Aside0.mk (below_step hb_ hb); have n1_ := Aside0.mk (hbox); have n2_ := Aside0.mk ((by rw [hg]; exact (below_size hb_) : w.heap.size ≤ gb117)); have n3_ := Aside0.mk ((by rw [hg]; exact (below_size hb_) : w.heap.size ≤ gb117)); clear HB; have HB := n0_; have BK117 := n1_; have GW117 := n2_; have GE117 := n3_; clear n0_ n1_ n2_ n3_; clear hb hbox hg))
 go_loopg [5, 10] k (fun kq v5 v10 w' => ∃ (x5_1 : Int) (x10_1 : Int), v5 = .int .i64 x5_1 ∧ v10 = .int .i64 x10_1 ∧ Aside0 (impl_crossed.l0 kq x5_1 l0 (l0.length : Int) x10_1 a1_0 a1_1 = some r) ∧ Aside0 (kq ≤ k) ∧ Aside0 (w'.heap[gb117]? = some (.cells #[.int .i64 a1_0, .int .i64 a1_1] 80 (0, 0))) ∧ Aside0 (Below w.heap.size w w'))
 case atStart => exact ⟨(0), (0), (by first | rfl | (simp; done) | (simp [*]; done)), (by first | rfl | (simp; done) | (simp [*]; done)), H', ⟨Nat.le_refl _⟩, ⟨by (with_reducible repeat (first | refine kN ?_ _ | refine kD ?_ | refine kA ?_ _)); exact BK117.out⟩, ⟨hs_ GE117.out⟩⟩
 case round =>
  clear H'
  try clear p2
  obtain ⟨x5_1, x10_1, rfl, rfl, HA, HK1, BK117, HB⟩ := hrel
  cases gk with
  | zero => exact absurd HA.out (by simp [impl_crossed.l0])
  | succ k1 =>
   have H := HA.out
   clear HA
   simp only [impl_crossed.l0] at H
   by_cases c4 : x10_1 < (l0.length : Int)
   ·rw [if_pos c4] at H
    have c4b0 : decide (x10_1 < (l0.length : Int)) = true := decide_eq_true c4
    clear c4
    by_cases c5 : 0 ≤ x10_1
    ·rw [if_pos c5] at H
     have c5b0 : decide (0 ≤ x10_1) = true := decide_eq_true c5
     clear c5
     by_cases c6 : x10_1 < (l0.length : Int)
     ·rw [if_pos c6] at H
      have c6b0 : decide (x10_1 < (l0.length : Int)) = true := decide_eq_true c6
      clear c6
      replace H := bI H
      obtain ⟨t120, A70, H⟩ := H
      replace H : (if t120 = true then (impl_crossed.l0 k1 (wrap64 (x5_1 + 1)) l0 (l0.length : Int) (wrap64 (x10_1 + 1)) a1_0 a1_1) else (impl_crossed.l0 k1 x5_1 l0 (l0.length : Int) (wrap64 (x10_1 + 1)) a1_0 a1_1)) = some r := H
      have A7 := Aside0.mk A70
      clear A70
      by_cases c8 : t120 = true
      ·subst c8
       have H1 : (impl_crossed.l0 k1 (wrap64 (x5_1 + 1)) l0 (l0.length : Int) (wrap64 (x10_1 + 1)) a1_0 a1_1) = some r := by rw [if_pos rfl] at H; exact H
       clear H
       have H := H1
       clear H1
       have H' := Aside0.mk H
       clear H
       have p118 : 0 ≤ (x10_1 : Int) := of_decide_eq_true (by assumption)
       have q118 : x10_1 < (l0.length : Int) := of_decide_eq_true (by assumption)
       obtain ⟨ad118, e118, hx118_0, hx118_1⟩ := at_T80 HR0.out x10_1 p118 q118
       cases e118
       replace hx118_0 := (HB.out.cell (World.block_lt_of_cell? w _ hx118_0)).trans hx118_0
       replace hx118_1 := (HB.out.cell (World.block_lt_of_cell? w _ hx118_1)).trans hx118_1
       replace p118 := eq_true p118
       replace q118 := eq_true q118
       go_wp2_with (first | ((with_reducible refine gate_dst (N := 7) rfl ?_); refine box_event ?hg (N := 7) ?hd (cs := #[.int .i64 0, .int .i64 0]) (t := 80) ?hr ?_; (case hd => rfl); (case hg => rfl); (case hr => first | (go_simp; done) | (go_simp; rfl)); intro gb119 hg w9 hbox hb; have n0_ := Aside0.mk (blk_below (g := gb117) (o := .cells #[.int .i64 a1_0, .int .i64 a1_1] 80 (0, 0)) (kx_ BK117.out) hb); have n1_ := Aside0.mk (below_step (hs_ GE117.out) hb); have n2_ := Aside0.mk (hbox); have n3_ := Aside0.mk ((by rw [hg]; exact (below_size (hs_ GE117.out)) : w.heap.size ≤ gb119)); have n4_ := Aside0.mk ((by rw [hg]; exact (below_size (hs_ GE117.out)) : w.heap.size ≤ gb119)); have n5_ := Aside0.mk ((by rw [hg]; exact Nat.ne_of_lt (blk_lt (g := gb117) (o := .cells #[.int .i64 a1_0, .int .i64 a1_1] 80 (0, 0)) (kx_ BK117.out)) : gb117 ≠ gb119)); have n6_ := Aside0.mk ((by rw [hg]; exact Nat.ne_of_gt (blk_lt (g := gb117) (o := .cells #[.int .i64 a1_0, .int .i64 a1_1] 80 (0, 0)) (kx_ BK117.out)) : gb119 ≠ gb117)); clear BK117; clear HB; have BK117 := n0_; have HB := n1_; have BK119 := n2_; have GW119 := n3_; have GE119 := n4_; have NB117_119 := n5_; have NB119_117 := n6_; clear n0_ n1_ n2_ n3_ n4_ n5_ n6_; clear hb hbox hg; have hnb10 := NB119_117.out; have hnc10 := NB117_119.out; have hcz11_0 : w9.cell? ⟨gb119, 0, none⟩ = some (.int .i64 0) := bc_ BK119 0; have hcz11_1 : w9.cell? ⟨gb119, 1, none⟩ = some (.int .i64 0) := bc_ BK119 1; have hfz11_0 := blk_frozen BK119.out 0; have hfz11_1 := blk_frozen BK119.out 1; have hcz12_0 : w9.cell? ⟨gb117, 0, none⟩ = some (.int .i64 a1_0) := bc_ BK117 0; have hcz12_1 : w9.cell? ⟨gb117, 1, none⟩ = some (.int .i64 a1_1) := bc_ BK117 1; have hfz12_0 := blk_frozen BK117.out 0; have hfz12_1 := blk_frozen BK117.out 1) | ((with_reducible refine gate_callee (f := 71) rfl ?_); refine goesL_ (some 16) rfl rfl Try.func71 (by kernel_rfl) rfl #[.agg #[.int .i64 a1_0, .int .i64 a1_1], .agg #[.int .i64 ((rd_T80 l0 x10_1).f0), .int .i64 ((rd_T80 l0 x10_1).f1)]] rfl ar_ ?_; (with_reducible refine (impl_crossing.calls a1_0 a1_1 ((rd_T80 l0 x10_1).f0) ((rd_T80 l0 x10_1).f1) true _ A7.out).mono ?_); rintro e w13 ⟨rfl, hb⟩; refine ⟨_, rfl, ?_⟩; have n0_ := Aside0.mk (blk_below (g := gb117) (o := .cells #[.int .i64 a1_0, .int .i64 a1_1] 80 (0, 0)) (by (with_reducible repeat (first | refine kN ?_ _ | refine kD ?_ | refine kA ?_ _)); refine blk_far ?_ NB117_119.out _; (with_reducible repeat (first | refine kN ?_ _ | refine kD ?_ | refine kA ?_ _)); refine blk_far ?_ NB117_119.out _; (with_reducible repeat (first | refine kN ?_ _ | refine kD ?_ | refine kA ?_ _)); exact BK117.out) hb); have n1_ := Aside0.mk (blk_below (g := gb119) (o := .cells #[.int .i64 ((rd_T80 l0 x10_1).f0), .int .i64 ((rd_T80 l0 x10_1).f1)] 80 (0, 0)) (by (with_reducible repeat (first | refine kN ?_ _ | refine kD ?_ | refine kA ?_ _)); refine blk_put (cs := #[.int .i64 ((rd_T80 l0 x10_1).f0), .int .i64 0]) ?_ 1 _ rfl; (with_reducible repeat (first | refine kN ?_ _ | refine kD ?_ | refine kA ?_ _)); refine blk_put (cs := #[.int .i64 0, .int .i64 0]) ?_ 0 _ rfl; (with_reducible repeat (first | refine kN ?_ _ | refine kD ?_ | refine kA ?_ _)); exact BK119.out) hb); have n2_ := Aside0.mk (below_step (hm_) hb); clear BK117; clear BK119; clear HB; have BK117 := n0_; have BK119 := n1_; have HB := n2_; clear n0_ n1_ n2_; (try clear hb); (try clear hb2); (try clear hk); (try clear hi)))
       go_roundg k1
       case measure => have := HK1.out; omega
       case rel => exact ⟨(wrap64 (x5_1 + 1)), (wrap64 (x10_1 + 1)), (by first | rfl | (simp; done) | (simp [*]; done)), (by first | rfl | (simp; done) | (simp [*]; done)), H', ⟨by have := HK1.out; omega⟩, ⟨by (with_reducible repeat (first | refine kN ?_ _ | refine kD ?_ | refine kA ?_ _)); exact BK117.out⟩, ⟨hm_⟩⟩
      ·replace c8 := Bool.eq_false_iff.mpr c8
       subst c8
       have H1 : (impl_crossed.l0 k1 x5_1 l0 (l0.length : Int) (wrap64 (x10_1 + 1)) a1_0 a1_1) = some r := by rw [if_neg (show ¬ (false = true) by decide)] at H; exact H
       clear H
       have H := H1
       clear H1
       have H' := Aside0.mk H
       clear H
       have p118 : 0 ≤ (x10_1 : Int) := of_decide_eq_true (by assumption)
       have q118 : x10_1 < (l0.length : Int) := of_decide_eq_true (by assumption)
       obtain ⟨ad118, e118, hx118_0, hx118_1⟩ := at_T80 HR0.out x10_1 p118 q118
       cases e118
       replace hx118_0 := (HB.out.cell (World.block_lt_of_cell? w _ hx118_0)).trans hx118_0
       replace hx118_1 := (HB.out.cell (World.block_lt_of_cell? w _ hx118_1)).trans hx118_1
       replace p118 := eq_true p118
       replace q118 := eq_true q118
       go_wp2_with (first | ((with_reducible refine gate_dst (N := 7) rfl ?_); refine box_event ?hg (N := 7) ?hd (cs := #[.int .i64 0, .int .i64 0]) (t := 80) ?hr ?_; (case hd => rfl); (case hg => rfl); (case hr => first | (go_simp; done) | (go_simp; rfl)); intro gb119 hg w14 hbox hb; have n0_ := Aside0.mk (blk_below (g := gb117) (o := .cells #[.int .i64 a1_0, .int .i64 a1_1] 80 (0, 0)) (kx_ BK117.out) hb); have n1_ := Aside0.mk (below_step (hs_ GE117.out) hb); have n2_ := Aside0.mk (hbox); have n3_ := Aside0.mk ((by rw [hg]; exact (below_size (hs_ GE117.out)) : w.heap.size ≤ gb119)); have n4_ := Aside0.mk ((by rw [hg]; exact (below_size (hs_ GE117.out)) : w.heap.size ≤ gb119)); have n5_ := Aside0.mk ((by rw [hg]; exact Nat.ne_of_lt (blk_lt (g := gb117) (o := .cells #[.int .i64 a1_0, .int .i64 a1_1] 80 (0, 0)) (kx_ BK117.out)) : gb117 ≠ gb119)); have n6_ := Aside0.mk ((by rw [hg]; exact Nat.ne_of_gt (blk_lt (g := gb117) (o := .cells #[.int .i64 a1_0, .int .i64 a1_1] 80 (0, 0)) (kx_ BK117.out)) : gb119 ≠ gb117)); clear BK117; clear HB; have BK117 := n0_; have HB := n1_; have BK119 := n2_; have GW119 := n3_; have GE119 := n4_; have NB117_119 := n5_; have NB119_117 := n6_; clear n0_ n1_ n2_ n3_ n4_ n5_ n6_; clear hb hbox hg; have hnb15 := NB119_117.out; have hnc15 := NB117_119.out; have hcz16_0 : w14.cell? ⟨gb119, 0, none⟩ = some (.int .i64 0) := bc_ BK119 0; have hcz16_1 : w14.cell? ⟨gb119, 1, none⟩ = some (.int .i64 0) := bc_ BK119 1; have hfz16_0 := blk_frozen BK119.out 0; have hfz16_1 := blk_frozen BK119.out 1; have hcz17_0 : w14.cell? ⟨gb117, 0, none⟩ = some (.int .i64 a1_0) := bc_ BK117 0; have hcz17_1 : w14.cell? ⟨gb117, 1, none⟩ = some (.int .i64 a1_1) := bc_ BK117 1; have hfz17_0 := blk_frozen BK117.out 0; have hfz17_1 := blk_frozen BK117.out 1) | ((with_reducible refine gate_callee (f := 71) rfl ?_); refine goesL_ (some 16) rfl rfl Try.func71 (by kernel_rfl) rfl #[.agg #[.int .i64 a1_0, .int .i64 a1_1], .agg #[.int .i64 ((rd_T80 l0 x10_1).f0), .int .i64 ((rd_T80 l0 x10_1).f1)]] rfl ar_ ?_; (with_reducible refine (impl_crossing.calls a1_0 a1_1 ((rd_T80 l0 x10_1).f0) ((rd_T80 l0 x10_1).f1) false _ A7.out).mono ?_); rintro e w18 ⟨rfl, hb⟩; refine ⟨_, rfl, ?_⟩; have n0_ := Aside0.mk (blk_below (g := gb117) (o := .cells #[.int .i64 a1_0, .int .i64 a1_1] 80 (0, 0)) (by (with_reducible repeat (first | refine kN ?_ _ | refine kD ?_ | refine kA ?_ _)); refine blk_far ?_ NB117_119.out _; (with_reducible repeat (first | refine kN ?_ _ | refine kD ?_ | refine kA ?_ _)); refine blk_far ?_ NB117_119.out _; (with_reducible repeat (first | refine kN ?_ _ | refine kD ?_ | refine kA ?_ _)); exact BK117.out) hb); have n1_ := Aside0.mk (blk_below (g := gb119) (o := .cells #[.int .i64 ((rd_T80 l0 x10_1).f0), .int .i64 ((rd_T80 l0 x10_1).f1)] 80 (0, 0)) (by (with_reducible repeat (first | refine kN ?_ _ | refine kD ?_ | refine kA ?_ _)); refine blk_put (cs := #[.int .i64 ((rd_T80 l0 x10_1).f0), .int .i64 0]) ?_ 1 _ rfl; (with_reducible repeat (first | refine kN ?_ _ | refine kD ?_ | refine kA ?_ _)); refine blk_put (cs := #[.int .i64 0, .int .i64 0]) ?_ 0 _ rfl; (with_reducible repeat (first | refine kN ?_ _ | refine kD ?_ | refine kA ?_ _)); exact BK119.out) hb); have n2_ := Aside0.mk (below_step (hm_) hb); clear BK117; clear BK119; clear HB; have BK117 := n0_; have BK119 := n1_; have HB := n2_; clear n0_ n1_ n2_; (try clear hb); (try clear hb2); (try clear hk); (try clear hi)))
       go_roundg k1
       case measure => have := HK1.out; omega
       case rel => exact ⟨(x5_1), (wrap64 (x10_1 + 1)), (by first | rfl | (simp; done) | (simp [*]; done)), (by first | rfl | (simp; done) | (simp [*]; done)), H', ⟨by have := HK1.out; omega⟩, ⟨by (with_reducible repeat (first | refine kN ?_ _ | refine kD ?_ | refine kA ?_ _)); exact BK117.out⟩, ⟨hm_⟩⟩
     ·rw [if_neg c6] at H
      exact absurd H (by simp)
    ·rw [if_neg c5] at H
     exact absurd H (by simp)
   ·rw [if_neg c4] at H
    have c4b0 : decide (x10_1 < (l0.length : Int)) = false := decide_eq_false c4
    clear c4
    obtain rfl := oI H
    go_wp2
    go_ret
    exact ⟨by first | rfl | (simp [errW_none, errW_some] <;> rfl) | (simp [*, errW_none, errW_some] <;> rfl), hs_ GE117.out⟩
def impl_crossings.l0 : Nat → List (S80) → Int → List (S80) → Int → Int → Option (Int)
 | 0, _, _, _, _, _ => none
 | k + 1, x0, x3, x6, x7, x8 => if x8 < x7 then (if 0 ≤ x8 then (if x8 < (x6.length : Int) then (if x8 ≤ (x0.length : Int) then ((impl_crossed.f k (x0.take (x8 : Int).toNat) ((rd_T80 x6 x8).f0) ((rd_T80 x6 x8).f1)).bind fun t127 => (impl_crossings.l0 k x0 (wrap64 (x3 + t127)) x6 x7 (wrap64 (x8 + 1)))) else (none)) else (none)) else (none)) else (some x3)
def impl_crossings.f (k : Nat) (l0 : List (S80)) : Option (Int) := impl_crossings.l0 k l0 0 l0 (l0.length : Int) 0
theorem impl_crossings.mono_l : ∀ k, (∀ y0 y1 y2 y3 y4, LeO (impl_crossings.l0 k y0 y1 y2 y3 y4) (impl_crossings.l0 (k + 1) y0 y1 y2 y3 y4))
 | 0 => fun _ _ _ _ _ r h => by simp [impl_crossings.l0] at h
 | k + 1 => by
  have ih0 := impl_crossings.mono_l k
  ·intro y0 y1 y2 y3 y4
   unfold impl_crossings.l0
   repeat' first
   | (with_reducible exact ih0 _ _ _ _ _)
   | (with_reducible exact impl_crossed.mono _ _ _ _)
   | (with_reducible exact LeO.refl _)
   | (with_reducible exact LeO.none _)
   | (with_reducible refine LeO.ite ?_ ?_)
   | (with_reducible refine LeO.bind ?_ (fun _ => ?_))
   | exact ih0 _ _ _ _ _
   | exact impl_crossed.mono _ _ _ _
   | exact LeO.none _
   | refine LeO.ite ?_ ?_
   | refine LeO.bind ?_ (fun _ => ?_)
theorem impl_crossings.mono : ∀ a0 k, LeO (impl_crossings.f k a0) (impl_crossings.f (k + 1) a0) := by
 intro a0 k
 have ih0 := impl_crossings.mono_l k
 unfold impl_crossings.f
 repeat' first
   | (with_reducible exact ih0 _ _ _ _ _)
   | (with_reducible exact impl_crossed.mono _ _ _ _)
   | (with_reducible exact LeO.refl _)
   | (with_reducible exact LeO.none _)
   | (with_reducible refine LeO.ite ?_ ?_)
   | (with_reducible refine LeO.bind ?_ (fun _ => ?_))
   | exact ih0 _ _ _ _ _
   | exact impl_crossed.mono _ _ _ _
   | exact LeO.none _
   | refine LeO.ite ?_ ?_
   | refine LeO.bind ?_ (fun _ => ?_)
def impl_crossings.T5 : Bool × List (List Nat × List Nat) := (true, [([], []), ([], []), ([], []), ([1, 2], [1, 2]), ([], []), ([3, 4], [3, 4]), ([0, 5], [0, 5]), ([6, 5, 0, 1, 2, 3, 4, 5, 6], [0, 6])])
def impl_crossings.B5 : List Nat := [0, 0, 0, 6, 0, 30, 63, 127]
theorem impl_crossings.tab5 : rtab .any (opsOf Try.f57 5) = impl_crossings.T5 := by kernel_rfl
theorem impl_crossings.bits5 : waitsOk impl_crossings.T5.2 impl_crossings.B5 = true := by kernel_rfl
set_option maxHeartbeats 8000000 in
set_option maxRecDepth 100000 in
theorem impl_crossings.calls (k : Nat) (A0 : Option Addr) (c0 : Nat) (l0 : List (S80)) (r : Int) (w : World) (hr0 : Kd.C k80 w A0 l0.length l0) (hc0 : l0.length ≤ c0) (h : impl_crossings.f k l0 = some r) :
  Calls Try.prog 57 #[.slice A0 l0.length c0] w fun e w' => e = .returned (.int .i64 r) ∧ Below w.heap.size w w' := by
 have hu80 := Try.underlying80
 have HR0 := Aside0.mk hr0
 have HC0 := Aside0.mk hc0
 clear hr0 hc0
 have HB := Aside0.mk (Below.refl w.heap.size w)
 have H : (impl_crossings.l0 k l0 0 l0 (l0.length : Int) 0) = some r := h
 clear h
 have H' := Aside0.mk H
 clear H
 go_enter Try.func57, Try.ntmps57
 go_wp2
 go_loopg [3, 8] k (fun kq v3 v8 w' => ∃ (x3_1 : Int) (x8_1 : Int), v3 = .int .i64 x3_1 ∧ v8 = .int .i64 x8_1 ∧ Aside0 (impl_crossings.l0 kq l0 x3_1 l0 (l0.length : Int) x8_1 = some r) ∧ Aside0 (kq ≤ k) ∧ Aside0 (Below w.heap.size w w'))
 case atStart => exact ⟨(0), (0), (by first | rfl | (simp; done) | (simp [*]; done)), (by first | rfl | (simp; done) | (simp [*]; done)), H', ⟨Nat.le_refl _⟩, ⟨hb_⟩⟩
 case round =>
  clear H'
  obtain ⟨x3_1, x8_1, rfl, rfl, HA, HK1, HB⟩ := hrel
  cases gk with
  | zero => exact absurd HA.out (by simp [impl_crossings.l0])
  | succ k1 =>
   have H := HA.out
   clear HA
   simp only [impl_crossings.l0] at H
   by_cases c2 : x8_1 < (l0.length : Int)
   ·rw [if_pos c2] at H
    have c2b0 : decide (x8_1 < (l0.length : Int)) = true := decide_eq_true c2
    clear c2
    by_cases c3 : 0 ≤ x8_1
    ·rw [if_pos c3] at H
     have c3b0 : decide (0 ≤ x8_1) = true := decide_eq_true c3
     clear c3
     by_cases c4 : x8_1 < (l0.length : Int)
     ·rw [if_pos c4] at H
      have c4b0 : decide (x8_1 < (l0.length : Int)) = true := decide_eq_true c4
      clear c4
      have c5b0 := eq_true (of_decide_eq_true (by assumption) : 0 ≤ x8_1)
      by_cases c6 : x8_1 ≤ (l0.length : Int)
      ·rw [if_pos c6] at H
       have c6b0 := eq_true c6
       have c6b1 : decide (x8_1 ≤ (l0.length : Int)) = true := decide_eq_true c6
       clear c6
       obtain ⟨y123, hy123⟩ : ∃ y_ : List (S80), y_ = (l0.take (x8_1 : Int).toNat) := ⟨_, rfl⟩
       replace H : ((impl_crossed.f k1 y123 ((rd_T80 l0 x8_1).f0) ((rd_T80 l0 x8_1).f1)).bind fun t127 => (impl_crossings.l0 k1 l0 (wrap64 (x3_1 + t127)) l0 (l0.length : Int) (wrap64 (x8_1 + 1)))) = some r := by first | (rw [hy123]; with_reducible exact H) | (have H2_ := (Option.bind_some _ _).symm.trans H; rw [hy123]; with_reducible exact H2_) | (have H2_ := (Option.bind_some _ _).symm.trans H; with_reducible exact H2_) | with_reducible exact H | (rw [hy123]; exact H) | exact H
       have Ny123 := Aside0.mk hy123
       clear hy123
       replace H := bI H
       obtain ⟨t127, A70, H⟩ := H
       replace H : (impl_crossings.l0 k1 l0 (wrap64 (x3_1 + t127)) l0 (l0.length : Int) (wrap64 (x8_1 + 1))) = some r := H
       have A7 := Aside0.mk A70
       clear A70
       have H' := Aside0.mk H
       clear H
       have p121 : 0 ≤ (x8_1 : Int) := of_decide_eq_true (by assumption)
       have q121 : x8_1 < (l0.length : Int) := of_decide_eq_true (by assumption)
       obtain ⟨ad121, e121, hx121_0, hx121_1⟩ := at_T80 HR0.out x8_1 p121 q121
       cases e121
       replace hx121_0 := (HB.out.cell (World.block_lt_of_cell? w _ hx121_0)).trans hx121_0
       replace hx121_1 := (HB.out.cell (World.block_lt_of_cell? w _ hx121_1)).trans hx121_1
       replace p121 := eq_true p121
       replace q121 := eq_true q121
       try go_wp2_with (first | ((with_reducible refine gate_dst (N := 5) rfl ?_); refine box_event ?hg (N := 5) ?hd (cs := #[.int .i64 0, .int .i64 0]) (t := 80) ?hr ?_; (case hd => rfl); (case hg => rfl); (case hr => first | (go_simp; done) | (go_simp; rfl)); intro gb122 hg w8 hbox hb; have n0_ := Aside0.mk (below_step hb_ hb); have n1_ := Aside0.mk (hbox); have n2_ := Aside0.mk ((by rw [hg]; exact (below_size hb_) : w.heap.size ≤ gb122)); have n3_ := Aside0.mk ((by rw [hg]; exact (below_size hb_) : w.heap.size ≤ gb122)); clear HB; have HB := n0_; have BK122 := n1_; have GW122 := n2_; have GE122 := n3_; clear n0_ n1_ n2_ n3_; clear hb hbox hg; have hcz9_0 : w8.cell? ⟨gb122, 0, none⟩ = some (.int .i64 0) := bc_ BK122 0; have hcz9_1 : w8.cell? ⟨gb122, 1, none⟩ = some (.int .i64 0) := bc_ BK122 1; have hfz9_0 := blk_frozen BK122.out 0; have hfz9_1 := blk_frozen BK122.out 1))
       have n0_ : Aside0 (((w8.setCell ⟨gb122, 0, none⟩ (.int .i64 ((rd_T80 l0 x8_1).f0))).setCell ⟨gb122, 1, none⟩ (.int .i64 ((rd_T80 l0 x8_1).f1))).heap[gb122]? = some (.cells #[.int .i64 ((rd_T80 l0 x8_1).f0), .int .i64 ((rd_T80 l0 x8_1).f1)] 80 (0, 0))) := ⟨by (with_reducible repeat (first | refine kN ?_ _ | refine kD ?_ | refine kA ?_ _)); refine blk_put (cs := #[.int .i64 ((rd_T80 l0 x8_1).f0), .int .i64 0]) ?_ 1 _ rfl; (with_reducible repeat (first | refine kN ?_ _ | refine kD ?_ | refine kA ?_ _)); refine blk_put (cs := #[.int .i64 0, .int .i64 0]) ?_ 0 _ rfl; (with_reducible repeat (first | refine kN ?_ _ | refine kD ?_ | refine kA ?_ _)); exact BK122.out⟩
       have n1_ : Aside0 (Below w.heap.size w ((w8.setCell ⟨gb122, 0, none⟩ (.int .i64 ((rd_T80 l0 x8_1).f0))).setCell ⟨gb122, 1, none⟩ (.int .i64 ((rd_T80 l0 x8_1).f1)))) := ⟨hs_ GE122.out⟩
       (try clear BK122)
       (try clear HB)
       generalize ((w8.setCell ⟨gb122, 0, none⟩ (.int .i64 ((rd_T80 l0 x8_1).f0))).setCell ⟨gb122, 1, none⟩ (.int .i64 ((rd_T80 l0 x8_1).f1))) = w10 at n0_ n1_ ⊢
       have BK122 := n0_
       have HB := n1_
       clear n0_ n1_
       have n0_ := Aside0.mk (blk_drew BK122.out)
       have n1_ := Aside0.mk (below_drew1 HB.out)
       clear BK122
       clear HB
       have BK122 := n0_
       have HB := n1_
       clear n0_ n1_
       have q12 : (x8_1 : Int) ≤ ((l0.length : Int) : Int) := of_decide_eq_true (by assumption)
       obtain ⟨i012, hi012, _, hsz12, _⟩ := info_parts info80
       have hroom12 : l0.length ≤ c0 := HC0.out
       have hC12 : Kd.C k80 _ (some ad121) l0.length l0 := HR0.out
       have hcut12 := cut_to (P := Try.prog) 74 80 .i64 Try.underlying74 hi012 (some ad121) l0.length c0 x8_1 (of_decide_eq_true (by assumption)) q12 hroom12
       have hr12 := Kd.C_take (m := (x8_1 : Int).toNat) hC12 (by omega)
       have hy12 : y123.length = (x8_1 : Int).toNat := (by rw [Ny123.out, List.length_take]; omega)
       rw [← Ny123.out] at hr12
       rw [← hy12] at hcut12
       have HR126 := Aside0.mk hr12
       have HC126 := Aside0.mk (show y123.length ≤ c0 from by omega)
       clear hr12 hC12 hroom12 hi012 hsz12
       have KY12 := Aside0.mk hy12
       clear hy12
       replace q12 := eq_true q12
       refine start_ (n := 8) (S := fun w' => w'.cell? ⟨gb122, 0, none⟩ = some (.int .i64 ((rd_T80 l0 x8_1).f0)) ∧ w'.cell? ⟨gb122, 1, none⟩ = some (.int .i64 ((rd_T80 l0 x8_1).f1))) (ds := []) #[false, false, false, false, false, false, false, false] (by kernel_rfl) rfl rfl ⟨bc_ BK122 0, bc_ BK122 1⟩ (fun hHeld => ?_); refine with_tabW impl_crossings.tab5 impl_crossings.bits5 (fun HT_ HW_ => ?_)
       generalize w10.drew = w11 at BK122 HB HR126 hHeld ⊢
       refine pure_ (i := 0) (N := some 13) (v := ?_) (a' := ?_) #[true, false, false, false, false, false, false, false] rfl rfl (any_of HT_.out (by kernel_rfl)) (fun _ _ _ h => h) (Or.inl ⟨by rfl, ?_⟩) ?_ ?_
       rotate_left
       ·intro w'
        go_simp
        with_reducible rfl
       rotate_left
       ·simp only [Act.put, sT, sZ, sS, i64_w, i32_w]
        rfl
       refine pure_ (i := 1) (N := some 14) (v := ?_) (a' := ?_) #[true, true, false, false, false, false, false, false] rfl rfl (any_of HT_.out (by kernel_rfl)) (fun _ _ _ h => h) (Or.inl ⟨by rfl, ?_⟩) ?_ ?_
       rotate_left
       ·intro w'
        go_simp
        with_reducible rfl
       rotate_left
       ·simp only [Act.put, sT, sZ, sS, i64_w, i32_w]
        rfl
       refine pure_ (i := 2) (N := some 15) (v := ?_) (a' := ?_) #[true, true, true, false, false, false, false, false] rfl rfl (any_of HT_.out (by kernel_rfl)) (fun _ _ _ h => h) (Or.inl ⟨by rfl, ?_⟩) ?_ ?_
       rotate_left
       ·intro w'
        go_simp
        with_reducible rfl
       rotate_left
       ·simp only [Act.put, sT, sZ, sS, i64_w, i32_w]
        rfl
       refine pure_ (i := 3) (N := some 16) (v := ?_) (a' := ?_) #[true, true, true, true, false, false, false, false] rfl rfl (any_of HT_.out (by kernel_rfl)) (fun _ _ _ h => h) (Or.inl ⟨by rfl, ?_⟩) ?_ ?_
       rotate_left
       ·intro w'
        go_simp
        with_reducible rfl
       rotate_left
       ·simp only [Act.put, sT, sZ, sS, i64_w, i32_w]
        rfl
       refine take_ (i := 4) (N := some 17) (v := ?_) (a' := ?_) #[true, true, true, true, true, false, false, false] rfl rfl (take_ofW HT_.out HW_.out (by kernel_rfl)) (fun _ _ _ h => h) (Or.inl ⟨by rfl, ?_⟩) hHeld ?_ ?_
       rotate_left
       ·rintro w' ⟨s0, s1⟩
        go_simp
        with_reducible rfl
       rotate_left
       ·simp only [Act.put, sT, sZ, sS, i64_w, i32_w]
        rfl
       refine one_ (i := 5) (N := some 18) #[true, true, true, true, true, true, false, false] rfl rfl (one_of HT_.out (by kernel_rfl)) (by decide) (fun K hK => ?_)
       refine goes_ Try.func65 (by kernel_rfl) rfl #[.slice (some ad121) y123.length c0, .agg #[.int .i64 ((rd_T80 l0 x8_1).f0), .int .i64 ((rd_T80 l0 x8_1).f1)]] (by rfl) rfl rfl ar_ ?_
       with_reducible refine (impl_crossed.calls k1 _ _ y123 ((rd_T80 l0 x8_1).f0) ((rd_T80 l0 x8_1).f1) t127 _ ?side1 ?side2 A7.out).mono ?_
       (case side1 => repeat (first | exact (Kd.C_below HR126.out HB.out) | (with_reducible refine Kd.C_alloc ?_ _) | (with_reducible refine Kd.C_drewN ?_ _) | (with_reducible refine Kd.C_drew ?_)))
       (case side2 => exact HC126.out)
       rintro e w13 ⟨rfl, hb⟩
       refine ⟨_, rfl, ?_⟩
       have n0_ := Aside0.mk (blk_below (g := gb122) (o := .cells #[.int .i64 ((rd_T80 l0 x8_1).f0), .int .i64 ((rd_T80 l0 x8_1).f1)] 80 (0, 0)) (kx_ BK122.out) hb)
       have n1_ := Aside0.mk (below_step (hs_ GE122.out) hb)
       clear BK122
       clear HB
       have BK122 := n0_
       have HB := n1_
       clear n0_ n1_
       (try clear hb)
       (try clear hb2)
       (try clear hk)
       (try clear hi)
       refine hK.out _ _ ⟨bc_ BK122 0, bc_ BK122 1⟩ (fun hHeld => ?_)
       clear hK K
       refine norm_ (a' := ?_) ?_ ?_
       rotate_left
       ·show Act.put _ (some 18) _ = _
        simp only [Act.put, sT, sZ, sS, i64_w, i32_w]
        rfl
       refine pure_ (i := 6) (N := some 19) (v := ?_) (a' := ?_) #[true, true, true, true, true, true, true, false] rfl rfl (any_of HT_.out (by kernel_rfl)) (fun _ _ _ h => h) (Or.inl ⟨by rfl, ?_⟩) ?_ ?_
       rotate_left
       ·intro w'
        go_simp
        with_reducible rfl
       rotate_left
       ·simp only [Act.put, sT, sZ, sS, i64_w, i32_w]
        rfl
       refine pure_ (i := 7) (N := some 3) (v := ?_) (a' := ?_) #[true, true, true, true, true, true, true, true] rfl rfl (any_of HT_.out (by kernel_rfl)) (fun _ _ _ h => h) (Or.inl ⟨by rfl, ?_⟩) ?_ ?_
       rotate_left
       ·intro w'
        go_simp
        with_reducible rfl
       rotate_left
       ·simp only [Act.put, sT, sZ, sS, i64_w, i32_w]
        rfl
       refine done_ (done_of HT_.out (by kernel_rfl)) ?_
       try go_wp2
       go_roundg k1
       case measure => have := HK1.out; omega
       case rel => exact ⟨(wrap64 (x3_1 + t127)), (wrap64 (x8_1 + 1)), (by first | rfl | (simp; done) | (simp [*]; done)), (by first | rfl | (simp; done) | (simp [*]; done)), H', ⟨by have := HK1.out; omega⟩, ⟨hs_ GE122.out⟩⟩
      ·rw [if_neg c6] at H
       exact absurd H (by simp)
     ·rw [if_neg c4] at H
      exact absurd H (by simp)
    ·rw [if_neg c3] at H
     exact absurd H (by simp)
   ·rw [if_neg c2] at H
    have c2b0 : decide (x8_1 < (l0.length : Int)) = false := decide_eq_false c2
    clear c2
    obtain rfl := oI H
    go_wp2
    go_ret
    exact ⟨by first | rfl | (simp [errW_none, errW_some] <;> rfl) | (simp [*, errW_none, errW_some] <;> rfl), hb_⟩
def impl_chord.f (a0 : Int) (a1 : Int) : Option (Int × Int) := some (mn a0 a1, mx a0 a1)
set_option maxHeartbeats 8000000 in
set_option maxRecDepth 100000 in
theorem impl_chord.calls (a0 : Int) (a1 : Int) (r1 : Int) (r2 : Int) (w : World) (h : impl_chord.f a0 a1 = some (r1, r2)) :
  Calls Try.prog 66 #[.int .i64 a0, .int .i64 a1] w fun e w' => e = .returned (.agg #[.int .i64 r1, .int .i64 r2]) ∧ Below w.heap.size w w' := by
 have hu80 := Try.underlying80
 have HB := Aside0.mk (Below.refl w.heap.size w)
 have H : (some (mn a0 a1, mx a0 a1)) = some (r1, r2) := h
 clear h
 obtain ⟨ji3, hji3⟩ : ∃ j_ : Int, (mn a0 a1) = j_ := ⟨_, rfl⟩
 replace H : (some (ji3, mx a0 a1)) = some (r1, r2) := by first | (rw [hji3] at H; exact H) | (simp only [hji3] at H ⊢; exact H)
 have hji3_ : (if a1 < a0 then a1 else a0) = ji3 := hji3
 obtain ⟨ji4, hji4⟩ : ∃ j_ : Int, (mx a0 a1) = j_ := ⟨_, rfl⟩
 replace H : (some (ji3, ji4)) = some (r1, r2) := by first | (rw [hji4] at H; exact H) | (simp only [hji4] at H ⊢; exact H)
 have hji4_ : (if a0 < a1 then a1 else a0) = ji4 := hji4
 simp only [Option.some.injEq, Prod.mk.injEq] at H
 obtain ⟨rfl, rfl⟩ := H
 go_enter Try.func66, Try.ntmps66
 go_wp2_with (first | ((with_reducible refine gate_dst (N := 4) rfl ?_); refine box_event ?hg (N := 4) ?hd (cs := #[.int .i64 0, .int .i64 0]) (t := 80) ?hr ?_; (case hd => rfl); (case hg => rfl); (case hr => first | (go_simp; done) | (go_simp; rfl)); intro gb128 hg w5 hbox hb; have n0_ := Aside0.mk (below_step hb_ hb); have n1_ := Aside0.mk (hbox); have n2_ := Aside0.mk ((by rw [hg]; exact (below_size hb_) : w.heap.size ≤ gb128)); have n3_ := Aside0.mk ((by rw [hg]; exact (below_size hb_) : w.heap.size ≤ gb128)); clear HB; have HB := n0_; have BK128 := n1_; have GW128 := n2_; have GE128 := n3_; clear n0_ n1_ n2_ n3_; clear hb hbox hg; have hcz6_0 : w5.cell? ⟨gb128, 0, none⟩ = some (.int .i64 0) := bc_ BK128 0; have hcz6_1 : w5.cell? ⟨gb128, 1, none⟩ = some (.int .i64 0) := bc_ BK128 1; have hfz6_0 := blk_frozen BK128.out 0; have hfz6_1 := blk_frozen BK128.out 1))
 refine bodyPost_ret (results_cell_row rfl _ _ gb128 80 #[.int .i64 ji3, .int .i64 ji4] (0, 0) _ rfl (by (with_reducible repeat (first | refine kN ?_ _ | refine kD ?_ | refine kA ?_ _)); refine blk_put (cs := #[.int .i64 ji3, .int .i64 0]) ?_ 1 _ rfl; (with_reducible repeat (first | refine kN ?_ _ | refine kD ?_ | refine kA ?_ _)); refine blk_put (cs := #[.int .i64 0, .int .i64 0]) ?_ 0 _ rfl; (with_reducible repeat (first | refine kN ?_ _ | refine kD ?_ | refine kA ?_ _)); exact BK128.out) Try.underlying80 rfl (by kernel_rfl)) rfl ?_
 exact ⟨by first | rfl | (simp [errW_none, errW_some] <;> rfl) | (simp only [← hji3, ← hji4]; first | rfl | (simp [errW_none, errW_some] <;> rfl)) | (simp [*, errW_none, errW_some] <;> rfl), hs_ GE128.out⟩
end Go.Proofs.Ytcfcjpcoofjckaa.Pr
/- What a world is behind a row that is laid anew, and behind blocks that are made. -/
namespace Go.Proofs.Ytcfcjpcoofjckaa.Pr
open Go.RowKit Go.Sort Go.Proofs.YtcfcjpcoofjckaaW.PrintWords Go.Proofs.YtcfcjpcoofjckaaW.PrintLast Go.Proofs.YtcfcjpcoofjckaaW.PrintMore
theorem blk_putRow {w : World} {g : Nat} {cur : Array Value} {ty : TypeId} {fr : Nat × Nat} (F : Array Value) (hb : w.heap[g]? = some (.cells cur ty fr)) : (putRow id w g 0 F).heap[g]? = some (.cells (putCells id 0 F cur) ty fr) := by
  show (w.heap.modify g (onCells (putCells id 0 F)))[g]? = _
  rw [Array.getElem?_modify, if_pos rfl, hb]
  rfl
theorem below_putRow {w : World} {g base : Nat} (F : Array Value) (hg : base ≤ g) : Below base w (putRow id w g 0 F) :=
  ⟨rfl, rfl, rfl, by rw [show (putRow id w g 0 F).heap.size = w.heap.size from by simp [putRow, mapBlock]]; exact Nat.le_refl _, fun k hk => by
    show (w.heap.modify g (onCells (putCells id 0 F)))[k]? = _
    rw [Array.getElem?_modify, if_neg (by omega)]⟩
theorem below_grow {w : World} {base : Nat} (os : Array Obj) (hb : base ≤ w.heap.size) : Below base w (grow w os) :=
  ⟨rfl, rfl, rfl, by show _ ≤ (w.heap ++ os).size; simp, fun k hk => by
    show (w.heap ++ os)[k]? = _
    rw [Array.getElem?_append_left (by omega)]⟩
theorem kept_putRow {w : World} {g : Nat} {S : Nat → Prop} (F : Array Value) (hg : S g) : Kept w (putRow id w g 0 F) S :=
  ⟨by rw [show (putRow id w g 0 F).heap.size = w.heap.size from by simp [putRow, mapBlock]]; exact Nat.le_refl _, fun k hk hn => by
    show (w.heap.modify g (onCells (putCells id 0 F)))[k]? = _
    rw [Array.getElem?_modify, if_neg (fun e : g = k => hn (e ▸ hg))]⟩
theorem kept_grow {w : World} {S : Nat → Prop} (os : Array Obj) : Kept w (grow w os) S :=
  ⟨by show _ ≤ (w.heap ++ os).size; simp, fun k hk hn => by
    show (w.heap ++ os)[k]? = _
    rw [Array.getElem?_append_left hk]⟩
theorem kept_ahead {w : World} {S : Nat → Prop} (n : Nat) : Kept w (Sort.ahead w n) S := ⟨Nat.le_refl _, fun _ _ _ => rfl⟩
theorem below_ahead {w : World} {base : Nat} (n : Nat) : Below base w (Sort.ahead w n) := ⟨rfl, rfl, rfl, Nat.le_refl _, fun _ _ => rfl⟩
theorem unfrozen {w : World} {g : Nat} {cur : Array Value} {ty : TypeId} (hb : w.heap[g]? = some (.cells cur ty (0, 0))) (j : Nat) : w.frozen? ⟨g, j, none⟩ = false := by
  unfold World.frozen?
  simp [hb]
theorem size_putCells_id (off : Nat) (F c : Array Value) : (putCells id off F c).size = c.size := by simp [putCells]
end Go.Proofs.Ytcfcjpcoofjckaa.Pr
namespace Go.Proofs.Ytcfcjpcoofjckaa.Pr
open Go.RowKit Go.Proofs.YtcfcjpcoofjckaaW.PrintWords Go.Proofs.YtcfcjpcoofjckaaW.PrintLast Go.Proofs.YtcfcjpcoofjckaaW.PrintMore
attribute [local go_sem] max2_int min2_int max_two min_two max_three min_three max_four min_four
def cmp_Or_int.l0 : Nat → Int → List Int → Int → Int → Option (Int)
 | 0, _, _, _, _ => none
 | k + 1, x3, x6, x7, x8 => if x8 < x7 then (if 0 ≤ x8 then (if x8 < (x6.length : Int) then (if (rd x6 x8) = x3 then (cmp_Or_int.l0 k x3 x6 x7 (wrap64 (x8 + 1))) else (some (rd x6 x8))) else (none)) else (none)) else (some x3)
def cmp_Or_int.f (k : Nat) (l0 : List Int) : Option (Int) := cmp_Or_int.l0 k 0 l0 (l0.length : Int) 0
theorem cmp_Or_int.mono_l : ∀ k, (∀ y0 y1 y2 y3, LeO (cmp_Or_int.l0 k y0 y1 y2 y3) (cmp_Or_int.l0 (k + 1) y0 y1 y2 y3))
 | 0 => fun _ _ _ _ r h => by simp [cmp_Or_int.l0] at h
 | k + 1 => by
  have ih0 := cmp_Or_int.mono_l k
  ·intro y0 y1 y2 y3
   unfold cmp_Or_int.l0
   repeat' first
   | (with_reducible exact ih0 _ _ _ _)
   | (with_reducible exact LeO.refl _)
   | (with_reducible exact LeO.none _)
   | (with_reducible refine LeO.ite ?_ ?_)
   | (with_reducible refine LeO.bind ?_ (fun _ => ?_))
   | exact ih0 _ _ _ _
   | exact LeO.none _
   | refine LeO.ite ?_ ?_
   | refine LeO.bind ?_ (fun _ => ?_)
theorem cmp_Or_int.mono : ∀ a0 k, LeO (cmp_Or_int.f k a0) (cmp_Or_int.f (k + 1) a0) := by
 intro a0 k
 have ih0 := cmp_Or_int.mono_l k
 unfold cmp_Or_int.f
 repeat' first
   | (with_reducible exact ih0 _ _ _ _)
   | (with_reducible exact LeO.refl _)
   | (with_reducible exact LeO.none _)
   | (with_reducible refine LeO.ite ?_ ?_)
   | (with_reducible refine LeO.bind ?_ (fun _ => ?_))
   | exact ih0 _ _ _ _
   | exact LeO.none _
   | refine LeO.ite ?_ ?_
   | refine LeO.bind ?_ (fun _ => ?_)
set_option maxHeartbeats 8000000 in
set_option maxRecDepth 100000 in
theorem cmp_Or_int.calls (k : Nat) (A0 : Option Addr) (c0 : Nat) (l0 : List Int) (r : Int) (w : World) (hr0 : Kd.C (Kd.int .i64) w A0 l0.length l0) (hc0 : l0.length ≤ c0) (h : cmp_Or_int.f k l0 = some r) :
  Calls Try.prog 80 #[.slice A0 l0.length c0] w fun e w' => e = .returned (.int .i64 r) ∧ Drawn0 w w' := by
 have HR0 := Aside0.mk hr0
 have HC0 := Aside0.mk hc0
 clear hr0 hc0
 have H : (cmp_Or_int.l0 k 0 l0 (l0.length : Int) 0) = some r := h
 clear h
 have H' := Aside0.mk H
 clear H
 go_enter Try.func80, Try.ntmps80
 go_wp2
 go_loopg [8] k (fun kq v8 w' => ∃ (x8_1 : Int), v8 = .int .i64 x8_1 ∧ Aside0 (cmp_Or_int.l0 kq 0 l0 (l0.length : Int) x8_1 = some r) ∧ Aside0 (kq ≤ k) ∧ Drawn0 w w')
 case atStart => exact ⟨(0), (by first | rfl | (simp; done) | (simp [*]; done)), H', ⟨Nat.le_refl _⟩, by repeat (first | exact Drawn0.refl _ | apply Drawn0.step)⟩
 case round =>
  clear H'
  obtain ⟨x8_1, rfl, HA, HK1, ⟨m1, rfl⟩⟩ := hrel
  cases gk with
  | zero => exact absurd HA.out (by simp [cmp_Or_int.l0])
  | succ k1 =>
   have H := HA.out
   clear HA
   simp only [cmp_Or_int.l0] at H
   by_cases c2 : x8_1 < (l0.length : Int)
   ·rw [if_pos c2] at H
    have c2b0 : decide (x8_1 < (l0.length : Int)) = true := decide_eq_true c2
    clear c2
    by_cases c3 : 0 ≤ x8_1
    ·rw [if_pos c3] at H
     have c3b0 : decide (0 ≤ x8_1) = true := decide_eq_true c3
     clear c3
     by_cases c4 : x8_1 < (l0.length : Int)
     ·rw [if_pos c4] at H
      have c4b0 : decide (x8_1 < (l0.length : Int)) = true := decide_eq_true c4
      clear c4
      by_cases c5 : (rd l0 x8_1) = 0
      ·rw [if_pos c5] at H
       have c5b0 : ((rd l0 x8_1) == 0) = true := beq_iff_eq.mpr c5
       have c5b1 : ((rd l0 x8_1) != 0) = false := bne_eq_false_iff_eq.mpr c5
       clear c5
       have H' := Aside0.mk H
       clear H
       have p131 : 0 ≤ (x8_1 : Int) := of_decide_eq_true (by assumption)
       have q131 : x8_1 < (l0.length : Int) := of_decide_eq_true (by assumption)
       obtain ⟨ad131, e131, hx131_0⟩ := Kd.at_int HR0.out x8_1 p131 q131
       cases e131
       replace p131 := eq_true p131
       replace q131 := eq_true q131
       go_wp2
       go_roundg k1
       case measure => have := HK1.out; omega
       case rel => exact ⟨(wrap64 (x8_1 + 1)), (by first | rfl | (simp; done) | (simp [*]; done)), H', ⟨by have := HK1.out; omega⟩, by repeat (first | exact Drawn0.refl _ | apply Drawn0.step)⟩
      ·rw [if_neg c5] at H
       have c5b0 : ((rd l0 x8_1) == 0) = false := beq_eq_false_iff_ne.mpr c5
       have c5b1 : ((rd l0 x8_1) != 0) = true := bne_iff_ne.mpr c5
       obtain rfl := oI H
       have p131 : 0 ≤ (x8_1 : Int) := of_decide_eq_true (by assumption)
       have q131 : x8_1 < (l0.length : Int) := of_decide_eq_true (by assumption)
       obtain ⟨ad131, e131, hx131_0⟩ := Kd.at_int HR0.out x8_1 p131 q131
       cases e131
       replace p131 := eq_true p131
       replace q131 := eq_true q131
       go_wp2
       go_ret
       exact ⟨by first | rfl | (simp; done) | (simp [*]; done), by repeat (first | exact Drawn0.refl _ | apply Drawn0.step)⟩
     ·rw [if_neg c4] at H
      exact absurd H (by simp)
    ·rw [if_neg c3] at H
     exact absurd H (by simp)
   ·rw [if_neg c2] at H
    have c2b0 : decide (x8_1 < (l0.length : Int)) = false := decide_eq_false c2
    clear c2
    obtain rfl := oI H
    go_wp2
    go_ret
    exact ⟨by first | rfl | (simp; done) | (simp [*]; done), by repeat (first | exact Drawn0.refl _ | apply Drawn0.step)⟩
def cmp_isNaN_int.f (a0 : Int) : Option (Bool) := some (a0 != a0)
set_option maxHeartbeats 8000000 in
set_option maxRecDepth 100000 in
theorem cmp_isNaN_int.calls (a0 : Int) (r : Bool) (w : World) (h : cmp_isNaN_int.f a0 = some r) :
  Calls Try.prog 92 #[.int .i64 a0] w fun e w' => e = .returned (.bool r) ∧ Drawn0 w w' := by
 have H : (some (a0 != a0)) = some r := h
 clear h
 obtain rfl := oI H
 go_enter Try.func92, Try.ntmps92
 go_wp2
 go_ret
 exact ⟨by first | rfl | (simp; done) | (simp [*]; done), by repeat (first | exact Drawn0.refl _ | apply Drawn0.step)⟩
def cmp_Compare_int.f (a0 : Int) (a1 : Int) : Option (Int) := (cmp_isNaN_int.f a0).bind fun t132 => ((cmp_isNaN_int.f a1).bind fun t133 => (if t132 = true then (if t133 = true then (some 0) else (some (-1))) else (if t133 = true then (some 1) else (if a0 < a1 then (some (-1)) else (if a0 > a1 then (some 1) else (some 0))))))
set_option maxHeartbeats 8000000 in
set_option maxRecDepth 100000 in
theorem cmp_Compare_int.calls (a0 : Int) (a1 : Int) (r : Int) (w : World) (h : cmp_Compare_int.f a0 a1 = some r) :
  Calls Try.prog 81 #[.int .i64 a0, .int .i64 a1] w fun e w' => e = .returned (.int .i64 r) ∧ Drawn0 w w' := by
 have H : ((cmp_isNaN_int.f a0).bind fun t132 => ((cmp_isNaN_int.f a1).bind fun t133 => (if t132 = true then (if t133 = true then (some 0) else (some (-1))) else (if t133 = true then (some 1) else (if a0 < a1 then (some (-1)) else (if a0 > a1 then (some 1) else (some 0))))))) = some r := h
 clear h
 replace H := bI H
 obtain ⟨t132, A30, H⟩ := H
 replace H : ((cmp_isNaN_int.f a1).bind fun t133 => (if t132 = true then (if t133 = true then (some 0) else (some (-1))) else (if t133 = true then (some 1) else (if a0 < a1 then (some (-1)) else (if a0 > a1 then (some 1) else (some 0)))))) = some r := H
 have A3 := Aside0.mk A30
 clear A30
 replace H := bI H
 obtain ⟨t133, A40, H⟩ := H
 replace H : (if t132 = true then (if t133 = true then (some 0) else (some (-1))) else (if t133 = true then (some 1) else (if a0 < a1 then (some (-1)) else (if a0 > a1 then (some 1) else (some 0))))) = some r := H
 have A4 := Aside0.mk A40
 clear A40
 by_cases c5 : t132 = true
 ·subst c5
  have H1 : (if t133 = true then (some 0) else (some (-1))) = some r := by rw [if_pos rfl] at H; exact H
  clear H
  have H := H1
  clear H1
  by_cases c6 : t133 = true
  ·subst c6
   have H1 : (some 0) = some r := by rw [if_pos rfl] at H; exact H
   clear H
   have H := H1
   clear H1
   obtain rfl := oI H
   go_enter Try.func81, Try.ntmps81
   go_wp2_with (first | ((with_reducible refine gate_callee (f := 92) rfl ?_); refine goesL_ (some 8) rfl rfl Try.func92 (by kernel_rfl) rfl #[.int .i64 a0] rfl ar_ ?_; (with_reducible refine (cmp_isNaN_int.calls a0 true _ A3.out).mono ?_); rintro e w' ⟨rfl, ⟨nd, rfl⟩⟩; refine ⟨_, rfl, ?_⟩) | ((with_reducible refine gate_callee (f := 92) rfl ?_); refine goesL_ (some 10) rfl rfl Try.func92 (by kernel_rfl) rfl #[.int .i64 a1] rfl ar_ ?_; (with_reducible refine (cmp_isNaN_int.calls a1 true _ A4.out).mono ?_); rintro e w' ⟨rfl, ⟨nd, rfl⟩⟩; refine ⟨_, rfl, ?_⟩))
   go_ret
   exact ⟨by first | rfl | (simp; done) | (simp [*]; done), by repeat (first | exact Drawn0.refl _ | apply Drawn0.step)⟩
  ·replace c6 := Bool.eq_false_iff.mpr c6
   subst c6
   have H1 : (some (-1)) = some r := by rw [if_neg (show ¬ (false = true) by decide)] at H; exact H
   clear H
   have H := H1
   clear H1
   obtain rfl := oI H
   go_enter Try.func81, Try.ntmps81
   go_wp2_with (first | ((with_reducible refine gate_callee (f := 92) rfl ?_); refine goesL_ (some 8) rfl rfl Try.func92 (by kernel_rfl) rfl #[.int .i64 a0] rfl ar_ ?_; (with_reducible refine (cmp_isNaN_int.calls a0 true _ A3.out).mono ?_); rintro e w' ⟨rfl, ⟨nd, rfl⟩⟩; refine ⟨_, rfl, ?_⟩) | ((with_reducible refine gate_callee (f := 92) rfl ?_); refine goesL_ (some 10) rfl rfl Try.func92 (by kernel_rfl) rfl #[.int .i64 a1] rfl ar_ ?_; (with_reducible refine (cmp_isNaN_int.calls a1 false _ A4.out).mono ?_); rintro e w' ⟨rfl, ⟨nd, rfl⟩⟩; refine ⟨_, rfl, ?_⟩))
   go_ret
   exact ⟨by first | rfl | (simp; done) | (simp [*]; done), by repeat (first | exact Drawn0.refl _ | apply Drawn0.step)⟩
 ·replace c5 := Bool.eq_false_iff.mpr c5
  subst c5
  have H1 : (if t133 = true then (some 1) else (if a0 < a1 then (some (-1)) else (if a0 > a1 then (some 1) else (some 0)))) = some r := by rw [if_neg (show ¬ (false = true) by decide)] at H; exact H
  clear H
  have H := H1
  clear H1
  by_cases c7 : t133 = true
  ·subst c7
   have H1 : (some 1) = some r := by rw [if_pos rfl] at H; exact H
   clear H
   have H := H1
   clear H1
   obtain rfl := oI H
   go_enter Try.func81, Try.ntmps81
   go_wp2_with (first | ((with_reducible refine gate_callee (f := 92) rfl ?_); refine goesL_ (some 8) rfl rfl Try.func92 (by kernel_rfl) rfl #[.int .i64 a0] rfl ar_ ?_; (with_reducible refine (cmp_isNaN_int.calls a0 false _ A3.out).mono ?_); rintro e w' ⟨rfl, ⟨nd, rfl⟩⟩; refine ⟨_, rfl, ?_⟩) | ((with_reducible refine gate_callee (f := 92) rfl ?_); refine goesL_ (some 10) rfl rfl Try.func92 (by kernel_rfl) rfl #[.int .i64 a1] rfl ar_ ?_; (with_reducible refine (cmp_isNaN_int.calls a1 true _ A4.out).mono ?_); rintro e w' ⟨rfl, ⟨nd, rfl⟩⟩; refine ⟨_, rfl, ?_⟩))
   go_ret
   exact ⟨by first | rfl | (simp; done) | (simp [*]; done), by repeat (first | exact Drawn0.refl _ | apply Drawn0.step)⟩
  ·replace c7 := Bool.eq_false_iff.mpr c7
   subst c7
   have H1 : (if a0 < a1 then (some (-1)) else (if a0 > a1 then (some 1) else (some 0))) = some r := by rw [if_neg (show ¬ (false = true) by decide)] at H; exact H
   clear H
   have H := H1
   clear H1
   by_cases c8 : a0 < a1
   ·rw [if_pos c8] at H
    have c8b0 : decide (a0 < a1) = true := decide_eq_true c8
    clear c8
    obtain rfl := oI H
    go_enter Try.func81, Try.ntmps81
    go_wp2_with (first | ((with_reducible refine gate_callee (f := 92) rfl ?_); refine goesL_ (some 8) rfl rfl Try.func92 (by kernel_rfl) rfl #[.int .i64 a0] rfl ar_ ?_; (with_reducible refine (cmp_isNaN_int.calls a0 false _ A3.out).mono ?_); rintro e w' ⟨rfl, ⟨nd, rfl⟩⟩; refine ⟨_, rfl, ?_⟩) | ((with_reducible refine gate_callee (f := 92) rfl ?_); refine goesL_ (some 10) rfl rfl Try.func92 (by kernel_rfl) rfl #[.int .i64 a1] rfl ar_ ?_; (with_reducible refine (cmp_isNaN_int.calls a1 false _ A4.out).mono ?_); rintro e w' ⟨rfl, ⟨nd, rfl⟩⟩; refine ⟨_, rfl, ?_⟩))
    go_ret
    exact ⟨by first | rfl | (simp; done) | (simp [*]; done), by repeat (first | exact Drawn0.refl _ | apply Drawn0.step)⟩
   ·rw [if_neg c8] at H
    have c8b0 : decide (a0 < a1) = false := decide_eq_false c8
    clear c8
    by_cases c9 : a0 > a1
    ·rw [if_pos c9] at H
     have c9b0 : decide (a1 < a0) = true := decide_eq_true c9
     clear c9
     obtain rfl := oI H
     go_enter Try.func81, Try.ntmps81
     go_wp2_with (first | ((with_reducible refine gate_callee (f := 92) rfl ?_); refine goesL_ (some 8) rfl rfl Try.func92 (by kernel_rfl) rfl #[.int .i64 a0] rfl ar_ ?_; (with_reducible refine (cmp_isNaN_int.calls a0 false _ A3.out).mono ?_); rintro e w' ⟨rfl, ⟨nd, rfl⟩⟩; refine ⟨_, rfl, ?_⟩) | ((with_reducible refine gate_callee (f := 92) rfl ?_); refine goesL_ (some 10) rfl rfl Try.func92 (by kernel_rfl) rfl #[.int .i64 a1] rfl ar_ ?_; (with_reducible refine (cmp_isNaN_int.calls a1 false _ A4.out).mono ?_); rintro e w' ⟨rfl, ⟨nd, rfl⟩⟩; refine ⟨_, rfl, ?_⟩))
     go_ret
     exact ⟨by first | rfl | (simp; done) | (simp [*]; done), by repeat (first | exact Drawn0.refl _ | apply Drawn0.step)⟩
    ·rw [if_neg c9] at H
     have c9b0 : decide (a1 < a0) = false := decide_eq_false c9
     clear c9
     obtain rfl := oI H
     go_enter Try.func81, Try.ntmps81
     go_wp2_with (first | ((with_reducible refine gate_callee (f := 92) rfl ?_); refine goesL_ (some 8) rfl rfl Try.func92 (by kernel_rfl) rfl #[.int .i64 a0] rfl ar_ ?_; (with_reducible refine (cmp_isNaN_int.calls a0 false _ A3.out).mono ?_); rintro e w' ⟨rfl, ⟨nd, rfl⟩⟩; refine ⟨_, rfl, ?_⟩) | ((with_reducible refine gate_callee (f := 92) rfl ?_); refine goesL_ (some 10) rfl rfl Try.func92 (by kernel_rfl) rfl #[.int .i64 a1] rfl ar_ ?_; (with_reducible refine (cmp_isNaN_int.calls a1 false _ A4.out).mono ?_); rintro e w' ⟨rfl, ⟨nd, rfl⟩⟩; refine ⟨_, rfl, ?_⟩))
     go_ret
     exact ⟨by first | rfl | (simp; done) | (simp [*]; done), by repeat (first | exact Drawn0.refl _ | apply Drawn0.step)⟩
def impl_compareChords.f (k : Nat) (a0_0 : Int) (a0_1 : Int) (a1_0 : Int) (a1_1 : Int) : Option (Int) := (cmp_Compare_int.f a0_0 a1_0).bind fun t136 => ((cmp_Compare_int.f a0_1 a1_1).bind fun t137 => ((cmp_Or_int.f k (([t136, t137] : List Int))).bind fun t141 => (some t141)))
theorem impl_compareChords.mono : ∀ a0 a1 a2 a3 k, LeO (impl_compareChords.f k a0 a1 a2 a3) (impl_compareChords.f (k + 1) a0 a1 a2 a3) := by
 intro a0 a1 a2 a3 k
 unfold impl_compareChords.f
 repeat' first
   | (with_reducible exact cmp_Or_int.mono _ _)
   | (with_reducible exact LeO.refl _)
   | (with_reducible exact LeO.none _)
   | (with_reducible refine LeO.ite ?_ ?_)
   | (with_reducible refine LeO.bind ?_ (fun _ => ?_))
   | exact cmp_Or_int.mono _ _
   | exact LeO.none _
   | refine LeO.ite ?_ ?_
   | refine LeO.bind ?_ (fun _ => ?_)
def impl_compareChords.T1 : Bool × List (List Nat × List Nat) := (true, [([], []), ([0], [0]), ([], []), ([2], [2]), ([1, 3], [1, 3]), ([], []), ([5], [5]), ([], []), ([7], [7]), ([6, 8, 4], [6, 8]), ([4, 9], [4, 9]), ([10, 9], [10]), ([11, 11, 0, 1, 2, 3, 4, 5, 6, 7, 8, 9, 10, 11], [11])])
def impl_compareChords.B1 : List Nat := [0, 1, 0, 4, 15, 0, 32, 0, 128, 511, 1023, 2047, 4095]
theorem impl_compareChords.tab1 : rtab .any (opsOf Try.f73 1) = impl_compareChords.T1 := by kernel_rfl
theorem impl_compareChords.bits1 : waitsOk impl_compareChords.T1.2 impl_compareChords.B1 = true := by kernel_rfl
set_option maxHeartbeats 8000000 in
set_option maxRecDepth 100000 in
theorem impl_compareChords.calls (k : Nat) (a0_0 : Int) (a0_1 : Int) (a1_0 : Int) (a1_1 : Int) (r : Int) (w : World) (h : impl_compareChords.f k a0_0 a0_1 a1_0 a1_1 = some r) :
  Calls Try.prog 73 #[.agg #[.int .i64 a0_0, .int .i64 a0_1], .agg #[.int .i64 a1_0, .int .i64 a1_1]] w fun e w' => e = .returned (.int .i64 r) ∧ Below w.heap.size w w' := by
 have hu80 := Try.underlying80
 have HB := Aside0.mk (Below.refl w.heap.size w)
 have H : ((cmp_Compare_int.f a0_0 a1_0).bind fun t136 => ((cmp_Compare_int.f a0_1 a1_1).bind fun t137 => ((cmp_Or_int.f k (([t136, t137] : List Int))).bind fun t141 => (some t141)))) = some r := h
 clear h
 replace H := bI H
 obtain ⟨t136, A30, H⟩ := H
 replace H : ((cmp_Compare_int.f a0_1 a1_1).bind fun t137 => ((cmp_Or_int.f k (([t136, t137] : List Int))).bind fun t141 => (some t141))) = some r := H
 have A3 := Aside0.mk A30
 clear A30
 replace H := bI H
 obtain ⟨t137, A40, H⟩ := H
 replace H : ((cmp_Or_int.f k (([t136, t137] : List Int))).bind fun t141 => (some t141)) = some r := H
 have A4 := Aside0.mk A40
 clear A40
 obtain ⟨y138, hy138⟩ : ∃ y_ : List Int, y_ = (([t136, t137] : List Int)) := ⟨_, rfl⟩
 replace H : ((cmp_Or_int.f k y138).bind fun t141 => (some t141)) = some r := by first | (rw [hy138]; with_reducible exact H) | (have H2_ := (Option.bind_some _ _).symm.trans H; rw [hy138]; with_reducible exact H2_) | (have H2_ := (Option.bind_some _ _).symm.trans H; with_reducible exact H2_) | with_reducible exact H | (rw [hy138]; exact H) | exact H
 have Ny138 := Aside0.mk hy138
 clear hy138
 replace H := bI H
 obtain ⟨t141, A50, H⟩ := H
 replace H : (some t141) = some r := H
 have A5 := Aside0.mk A50
 clear A50
 obtain rfl := oI H
 go_enter Try.func73, Try.ntmps73
 try go_wp2_with (first | ((with_reducible refine gate_dst (N := 2) rfl ?_); refine box_event ?hg (N := 2) ?hd (cs := #[.int .i64 a0_0, .int .i64 a0_1]) (t := 80) ?hr ?_; (case hd => rfl); (case hg => rfl); (case hr => first | (go_simp; done) | (go_simp; rfl)); intro gb134 hg w6 hbox hb; have n0_ := Aside0.mk (below_step hb_ hb); have n1_ := Aside0.mk (hbox); have n2_ := Aside0.mk ((by rw [hg]; exact (below_size hb_) : w.heap.size ≤ gb134)); have n3_ := Aside0.mk ((by rw [hg]; exact (below_size hb_) : w.heap.size ≤ gb134)); clear HB; have HB := n0_; have BK134 := n1_; have GW134 := n2_; have GE134 := n3_; clear n0_ n1_ n2_ n3_; clear hb hbox hg) | ((with_reducible refine gate_dst (N := 3) rfl ?_); refine box_event ?hg (N := 3) ?hd (cs := #[.int .i64 a1_0, .int .i64 a1_1]) (t := 80) ?hr ?_; (case hd => rfl); (case hg => rfl); (case hr => first | (go_simp; done) | (go_simp; rfl)); intro gb135 hg w7 hbox hb; have n0_ := Aside0.mk (blk_below (g := gb134) (o := .cells #[.int .i64 a0_0, .int .i64 a0_1] 80 (0, 0)) (kx_ BK134.out) hb); have n1_ := Aside0.mk (below_step (hs_ GE134.out) hb); have n2_ := Aside0.mk (hbox); have n3_ := Aside0.mk ((by rw [hg]; exact (below_size (hs_ GE134.out)) : w.heap.size ≤ gb135)); have n4_ := Aside0.mk ((by rw [hg]; exact (below_size (hs_ GE134.out)) : w.heap.size ≤ gb135)); have n5_ := Aside0.mk ((by rw [hg]; exact Nat.ne_of_lt (blk_lt (g := gb134) (o := .cells #[.int .i64 a0_0, .int .i64 a0_1] 80 (0, 0)) (kx_ BK134.out)) : gb134 ≠ gb135)); have n6_ := Aside0.mk ((by rw [hg]; exact Nat.ne_of_gt (blk_lt (g := gb134) (o := .cells #[.int .i64 a0_0, .int .i64 a0_1] 80 (0, 0)) (kx_ BK134.out)) : gb135 ≠ gb134)); clear BK134; clear HB; have BK134 := n0_; have HB := n1_; have BK135 := n2_; have GW135 := n3_; have GE135 := n4_; have NB134_135 := n5_; have NB135_134 := n6_; clear n0_ n1_ n2_ n3_ n4_ n5_ n6_; clear hb hbox hg))
 have n0_ := Aside0.mk (blk_drew BK134.out)
 have n1_ := Aside0.mk (blk_drew BK135.out)
 have n2_ := Aside0.mk (below_drew1 HB.out)
 clear BK134
 clear BK135
 clear HB
 have BK134 := n0_
 have BK135 := n1_
 have HB := n2_
 clear n0_ n1_ n2_
 refine start_ (n := 13) (S := fun w' => w'.cell? ⟨gb134, 0, none⟩ = some (.int .i64 a0_0) ∧ w'.cell? ⟨gb134, 1, none⟩ = some (.int .i64 a0_1) ∧ w'.cell? ⟨gb135, 0, none⟩ = some (.int .i64 a1_0) ∧ w'.cell? ⟨gb135, 1, none⟩ = some (.int .i64 a1_1)) (ds := []) #[false, false, false, false, false, false, false, false, false, false, false, false, false] (by kernel_rfl) rfl rfl ⟨bc_ BK134 0, bc_ BK134 1, bc_ BK135 0, bc_ BK135 1⟩ (fun hHeld => ?_); refine with_tabW impl_compareChords.tab1 impl_compareChords.bits1 (fun HT_ HW_ => ?_)
 generalize w7.drew = w8 at BK134 BK135 HB hHeld ⊢
 refine pure_ (i := 0) (N := some 5) (v := ?_) (a' := ?_) #[true, false, false, false, false, false, false, false, false, false, false, false, false] rfl rfl (any_of HT_.out (by kernel_rfl)) (fun _ _ _ h => h) (Or.inl ⟨by rfl, ?_⟩) ?_ ?_
 rotate_left
 ·intro w'
  go_simp
  with_reducible rfl
 rotate_left
 ·simp only [Act.put, sT, sZ, sS, i64_w, i32_w]
  rfl
 refine pure_ (i := 2) (N := some 7) (v := ?_) (a' := ?_) #[true, false, true, false, false, false, false, false, false, false, false, false, false] rfl rfl (any_of HT_.out (by kernel_rfl)) (fun _ _ _ h => h) (Or.inl ⟨by rfl, ?_⟩) ?_ ?_
 rotate_left
 ·intro w'
  go_simp
  with_reducible rfl
 rotate_left
 ·simp only [Act.put, sT, sZ, sS, i64_w, i32_w]
  rfl
 refine pure_ (i := 5) (N := some 10) (v := ?_) (a' := ?_) #[true, false, true, false, false, true, false, false, false, false, false, false, false] rfl rfl (any_of HT_.out (by kernel_rfl)) (fun _ _ _ h => h) (Or.inl ⟨by rfl, ?_⟩) ?_ ?_
 rotate_left
 ·intro w'
  go_simp
  with_reducible rfl
 rotate_left
 ·simp only [Act.put, sT, sZ, sS, i64_w, i32_w]
  rfl
 refine pure_ (i := 7) (N := some 12) (v := ?_) (a' := ?_) #[true, false, true, false, false, true, false, true, false, false, false, false, false] rfl rfl (any_of HT_.out (by kernel_rfl)) (fun _ _ _ h => h) (Or.inl ⟨by rfl, ?_⟩) ?_ ?_
 rotate_left
 ·intro w'
  go_simp
  with_reducible rfl
 rotate_left
 ·simp only [Act.put, sT, sZ, sS, i64_w, i32_w]
  rfl
 refine take_ (i := 1) (N := some 6) (v := ?_) (a' := ?_) #[true, true, true, false, false, true, false, true, false, false, false, false, false] rfl rfl (take_ofW HT_.out HW_.out (by kernel_rfl)) (fun _ _ _ h => h) (Or.inl ⟨by rfl, ?_⟩) hHeld ?_ ?_
 rotate_left
 ·rintro w' ⟨s0, s1, s2, s3⟩
  go_simp
  with_reducible rfl
 rotate_left
 ·simp only [Act.put, sT, sZ, sS, i64_w, i32_w]
  rfl
 refine take_ (i := 3) (N := some 8) (v := ?_) (a' := ?_) #[true, true, true, true, false, true, false, true, false, false, false, false, false] rfl rfl (take_ofW HT_.out HW_.out (by kernel_rfl)) (fun _ _ _ h => h) (Or.inl ⟨by rfl, ?_⟩) hHeld ?_ ?_
 rotate_left
 ·rintro w' ⟨s0, s1, s2, s3⟩
  go_simp
  with_reducible rfl
 rotate_left
 ·simp only [Act.put, sT, sZ, sS, i64_w, i32_w]
  rfl
 refine take_ (i := 6) (N := some 11) (v := ?_) (a' := ?_) #[true, true, true, true, false, true, true, true, false, false, false, false, false] rfl rfl (take_ofW HT_.out HW_.out (by kernel_rfl)) (fun _ _ _ h => h) (Or.inl ⟨by rfl, ?_⟩) hHeld ?_ ?_
 rotate_left
 ·rintro w' ⟨s0, s1, s2, s3⟩
  go_simp
  with_reducible rfl
 rotate_left
 ·simp only [Act.put, sT, sZ, sS, i64_w, i32_w]
  rfl
 refine take_ (i := 8) (N := some 13) (v := ?_) (a' := ?_) #[true, true, true, true, false, true, true, true, true, false, false, false, false] rfl rfl (take_ofW HT_.out HW_.out (by kernel_rfl)) (fun _ _ _ h => h) (Or.inl ⟨by rfl, ?_⟩) hHeld ?_ ?_
 rotate_left
 ·rintro w' ⟨s0, s1, s2, s3⟩
  go_simp
  with_reducible rfl
 rotate_left
 ·simp only [Act.put, sT, sZ, sS, i64_w, i32_w]
  rfl
 refine one_ (i := 4) (N := some 9) #[true, true, true, true, true, true, true, true, true, false, false, false, false] rfl rfl (one_of HT_.out (by kernel_rfl)) (by decide) (fun K hK => ?_)
 refine goes_ Try.func81 (by kernel_rfl) rfl #[.int .i64 a0_0, .int .i64 a1_0] (by rfl) rfl rfl ar_ ?_
 with_reducible refine (cmp_Compare_int.calls a0_0 a1_0 t136 _ A3.out).mono ?_
 rintro e w' ⟨rfl, ⟨nd, rfl⟩⟩
 refine ⟨_, rfl, ?_⟩
 refine hK.out _ _ ⟨bc_ BK134 0, bc_ BK134 1, bc_ BK135 0, bc_ BK135 1⟩ (fun hHeld => ?_)
 clear hK K
 refine norm_ (a' := ?_) ?_ ?_
 rotate_left
 ·show Act.put _ (some 9) _ = _
  simp only [Act.put, sT, sZ, sS, i64_w, i32_w]
  rfl
 refine one_ (i := 9) (N := some 14) #[true, true, true, true, true, true, true, true, true, true, false, false, false] rfl rfl (one_of HT_.out (by kernel_rfl)) (by decide) (fun K hK => ?_)
 refine goes_ Try.func81 (by kernel_rfl) rfl #[.int .i64 a0_1, .int .i64 a1_1] (by rfl) rfl rfl ar_ ?_
 with_reducible refine (cmp_Compare_int.calls a0_1 a1_1 t137 _ A4.out).mono ?_
 rintro e w' ⟨rfl, ⟨nd, rfl⟩⟩
 refine ⟨_, rfl, ?_⟩
 refine hK.out _ _ ⟨bc_ BK134 0, bc_ BK134 1, bc_ BK135 0, bc_ BK135 1⟩ (fun hHeld => ?_)
 clear hK K
 refine norm_ (a' := ?_) ?_ ?_
 rotate_left
 ·show Act.put _ (some 14) _ = _
  simp only [Act.put, sT, sZ, sS, i64_w, i32_w]
  rfl
 refine one_ (i := 10) (N := some 15) #[true, true, true, true, true, true, true, true, true, true, true, false, false] rfl rfl (one_of HT_.out (by kernel_rfl)) (by decide) (fun K hK => ?_)
 refine Kd.R_lit_step (Kd.int .i64) _ 3 ?hg (N := 15) ?hd (xs := ([t136, t137] : List Int)) (inner := [.int .i64 t136, .int .i64 t137]) (ok := fun _ => True) (okp := fun _ => True) ?hr ?hp (fun _ hk => hk) trivial (Below.refl _ _) (Nat.le_refl _) (by simp) ?_; (case hd => rfl); (case hg => rfl); (case hr => first | (go_simp; done) | (go_simp; rfl)); (case hp => exact (Reps.one (show Kd.M (Kd.int .i64) _ _ _ t136 [.int .i64 t136] from rfl) (Reps.one (show Kd.M (Kd.int .i64) _ _ _ t137 [.int .i64 t137] from rfl) (Reps.none _ _))))
 intro v139 w9 ho10 hb hg_ hnew_
 clear hg_ hnew_
 (first | rw [← Ny138.out] at ho10 | (simp only [Int.reduceToNat] at ho10; rw [← Ny138.out] at ho10))
 have n0_ := Aside0.mk (Kd.R_lower ho10 (below_size (hm_)))
 have n1_ := Aside0.mk (blk_below (g := gb134) (o := .cells #[.int .i64 a0_0, .int .i64 a0_1] 80 (0, 0)) (kx_ BK134.out) hb)
 have n2_ := Aside0.mk (blk_below (g := gb135) (o := .cells #[.int .i64 a1_0, .int .i64 a1_1] 80 (0, 0)) (kx_ BK135.out) hb)
 have n3_ := Aside0.mk (below_step (hm_) hb)
 clear BK134
 clear BK135
 clear HB
 have HO140 := n0_
 have BK134 := n1_
 have BK135 := n2_
 have HB := n3_
 clear n0_ n1_ n2_ n3_
 clear hb ho10
 obtain ⟨Ao11, co11, eo11⟩ := Kd.R_slice HO140.out
 (first | subst eo11 | (injection eo11 with f1_ f2_ f3_; have f4_ := f1_.symm; have f5_ := f3_.symm; clear f1_ f2_ f3_; subst f4_; subst f5_))
 refine hK.out _ _ ⟨bc_ BK134 0, bc_ BK134 1, bc_ BK135 0, bc_ BK135 1⟩ (fun hHeld => ?_)
 clear hK K
 refine norm_ (a' := ?_) ?_ ?_
 rotate_left
 ·show Act.put _ (some 15) _ = _
  simp only [Act.put, sT, sZ, sS, i64_w, i32_w]
  rfl
 refine one_ (i := 11) (N := some 16) #[true, true, true, true, true, true, true, true, true, true, true, true, false] rfl rfl (one_of HT_.out (by kernel_rfl)) (by decide) (fun K hK => ?_)
 refine goes_ Try.func80 (by kernel_rfl) rfl #[.slice Ao11 y138.length co11] (by rfl) rfl rfl ar_ ?_
 with_reducible refine (cmp_Or_int.calls k _ _ y138 t141 _ ?side1 ?side2 A5.out).mono ?_
 (case side1 => repeat (first | exact (Kd.R_reads' HO140.out).2.2 | (with_reducible refine Kd.C_alloc ?_ _) | (with_reducible refine Kd.C_drewN ?_ _) | (with_reducible refine Kd.C_drew ?_)))
 (case side2 => exact (Kd.R_reads' HO140.out).2.1)
 rintro e w' ⟨rfl, ⟨nd, rfl⟩⟩
 refine ⟨_, rfl, ?_⟩
 refine hK.out _ _ ⟨bc_ BK134 0, bc_ BK134 1, bc_ BK135 0, bc_ BK135 1⟩ (fun hHeld => ?_)
 clear hK K
 refine norm_ (a' := ?_) ?_ ?_
 rotate_left
 ·show Act.put _ (some 16) _ = _
  simp only [Act.put, sT, sZ, sS, i64_w, i32_w]
  rfl
 refine pure_ (i := 12) (N := some 4) (v := ?_) (a' := ?_) #[true, true, true, true, true, true, true, true, true, true, true, true, true] rfl rfl (any_of HT_.out (by kernel_rfl)) (fun _ _ _ h => h) (Or.inl ⟨by rfl, ?_⟩) ?_ ?_
 rotate_left
 ·intro w'
  go_simp
  with_reducible rfl
 rotate_left
 ·simp only [Act.put, sT, sZ, sS, i64_w, i32_w]
  rfl
 refine done_ (done_of HT_.out (by kernel_rfl)) ?_
 try go_wp2
 go_ret
 exact ⟨by first | rfl | (simp [errW_none, errW_some] <;> rfl) | (simp [*, errW_none, errW_some] <;> rfl), hm_⟩
end Go.Proofs.Ytcfcjpcoofjckaa.Pr
/- What the comparison of two chords does to the world: it draws, and lays blocks of its own, nothing else. -/
namespace Go.Proofs.Ytcfcjpcoofjckaa.Pr
open Go.RowKit Go.Proofs.YtcfcjpcoofjckaaW.PrintWords Go.Proofs.YtcfcjpcoofjckaaW.PrintLast Go.Proofs.YtcfcjpcoofjckaaW.PrintMore
def Gr (w w' : World) : Prop := ∃ q os', w' = Sort.grow (w.drewN q) os'
theorem Gr.refl (w : World) : Gr w w := ⟨0, #[], by simp [Sort.grow, World.drewN]⟩
theorem Gr.drewN {w w' : World} (h : Gr w w') (n : Nat) : Gr w (w'.drewN n) := by
  obtain ⟨q, os, rfl⟩ := h
  exact ⟨q + n, os, by simp [Sort.grow, World.drewN, Nat.add_assoc]⟩
theorem Gr.drew {w w' : World} (h : Gr w w') : Gr w w'.drew := h.drewN 1
theorem Gr.alloc {w w' : World} (h : Gr w w') (o : Obj) : Gr w (w'.alloc o) := by
  obtain ⟨q, os, rfl⟩ := h
  exact ⟨q, os ++ #[o], by rw [Sort.alloc_eq_grow, Sort.grow_grow]⟩
theorem two_reads (X : World) (a b : Int) : Kd.C (Kd.int .i64) (X.alloc (.cells #[.int .i64 a, .int .i64 b] 3)) (some ⟨X.heap.size, 0, none⟩) 2 [a, b] := by
  refine ⟨rfl, by simp, fun _ => ⟨_, rfl, fun j p hj => ⟨[.int .i64 p], rfl, rfl, fun i u hu => ?_⟩⟩⟩
  have hi : i = 0 := by
    have := (List.getElem?_eq_some_iff.1 hu).1
    simp at this
    exact this
  subst hi
  obtain rfl := oI hu
  have h0 : (X.alloc (.cells #[.int .i64 a, .int .i64 b] 3)).cell? ⟨X.heap.size, 0, none⟩ = some (.int .i64 a) := by simp
  have h1 : (X.alloc (.cells #[.int .i64 a, .int .i64 b] 3)).cell? ⟨X.heap.size, 1, none⟩ = some (.int .i64 b) := by simp
  match j, hj with
  | 0, hj => (obtain rfl := oI hj; exact h0)
  | 1, hj => (obtain rfl := oI hj; exact h1)
  | j + 2, hj => simp at hj
set_option maxHeartbeats 8000000 in
set_option maxRecDepth 100000 in
theorem compareChords_grow (k : Nat) (x y : S80) (t163 t164 t168 : Int) (w : World) (h1 : cmp_Compare_int.f x.f0 y.f0 = some t163) (h2 : cmp_Compare_int.f x.f1 y.f1 = some t164) (h3 : cmp_Or_int.f k [t163, t164] = some t168) :
    Calls Try.prog 73 #[.agg #[.int .i64 x.f0, .int .i64 x.f1], .agg #[.int .i64 y.f0, .int .i64 y.f1]] w fun e w' => e = .returned (.int .i64 t168) ∧ Gr w w' := by
  have hu60 := Try.underlying80
  have A3 := Aside0.mk h1
  have A4 := Aside0.mk h2
  have A5 := Aside0.mk h3
  clear h1 h2 h3
  go_enter Try.func73, Try.ntmps73
  go_wp2
  obtain ⟨W7, hW7⟩ : ∃ W7, (w.alloc (.cells #[.int .i64 x.f0, .int .i64 x.f1] 80)).alloc (.cells #[.int .i64 y.f0, .int .i64 y.f1] 80) = W7 := ⟨_, rfl⟩
  have G7 := Aside0.mk (show Gr w W7 from hW7 ▸ ((Gr.refl w).alloc _).alloc _)
  have FA0 : W7.cell? ⟨w.heap.size, 0, none⟩ = some (.int .i64 x.f0) := by rw [← hW7]; simp
  have FA1 : W7.cell? ⟨w.heap.size, 1, none⟩ = some (.int .i64 x.f1) := by rw [← hW7]; simp
  have FB0 : W7.cell? ⟨w.heap.size + 1, 0, none⟩ = some (.int .i64 y.f0) := by rw [← hW7]; simp
  have FB1 : W7.cell? ⟨w.heap.size + 1, 1, none⟩ = some (.int .i64 y.f1) := by rw [← hW7]; simp
  rw [hW7]
  clear hW7
  refine start_ (n := 13) (S := fun w' => w'.cell? ⟨w.heap.size, 0, none⟩ = some (.int .i64 x.f0) ∧ w'.cell? ⟨w.heap.size, 1, none⟩ = some (.int .i64 x.f1) ∧ w'.cell? ⟨(w.heap.size + 1), 0, none⟩ = some (.int .i64 y.f0) ∧ w'.cell? ⟨(w.heap.size + 1), 1, none⟩ = some (.int .i64 y.f1)) (ds := []) #[false, false, false, false, false, false, false, false, false, false, false, false, false] (by kernel_rfl) rfl rfl ⟨FA0, FA1, FB0, FB1⟩ (fun hHeld => ?_); refine with_tabW impl_compareChords.tab1 impl_compareChords.bits1 (fun HT_ HW_ => ?_)
  refine pure_ (i := 0) (N := some 5) (v := ?_) (a' := ?_) #[true, false, false, false, false, false, false, false, false, false, false, false, false] rfl rfl (any_of HT_.out (by kernel_rfl)) (fun _ _ _ h => h) (Or.inl ⟨by rfl, ?_⟩) ?_ ?_
  rotate_left
  · intro w'
    go_simp
    with_reducible rfl
  rotate_left
  · simp only [Act.put, sT, sZ, sS, i64_w, i32_w]
    rfl
  refine pure_ (i := 2) (N := some 7) (v := ?_) (a' := ?_) #[true, false, true, false, false, false, false, false, false, false, false, false, false] rfl rfl (any_of HT_.out (by kernel_rfl)) (fun _ _ _ h => h) (Or.inl ⟨by rfl, ?_⟩) ?_ ?_
  rotate_left
  · intro w'
    go_simp
    with_reducible rfl
  rotate_left
  · simp only [Act.put, sT, sZ, sS, i64_w, i32_w]
    rfl
  refine pure_ (i := 5) (N := some 10) (v := ?_) (a' := ?_) #[true, false, true, false, false, true, false, false, false, false, false, false, false] rfl rfl (any_of HT_.out (by kernel_rfl)) (fun _ _ _ h => h) (Or.inl ⟨by rfl, ?_⟩) ?_ ?_
  rotate_left
  · intro w'
    go_simp
    with_reducible rfl
  rotate_left
  · simp only [Act.put, sT, sZ, sS, i64_w, i32_w]
    rfl
  refine pure_ (i := 7) (N := some 12) (v := ?_) (a' := ?_) #[true, false, true, false, false, true, false, true, false, false, false, false, false] rfl rfl (any_of HT_.out (by kernel_rfl)) (fun _ _ _ h => h) (Or.inl ⟨by rfl, ?_⟩) ?_ ?_
  rotate_left
  · intro w'
    go_simp
    with_reducible rfl
  rotate_left
  · simp only [Act.put, sT, sZ, sS, i64_w, i32_w]
    rfl
  refine take_ (i := 1) (N := some 6) (v := ?_) (a' := ?_) #[true, true, true, false, false, true, false, true, false, false, false, false, false] rfl rfl (take_ofW HT_.out HW_.out (by kernel_rfl)) (fun _ _ _ h => h) (Or.inl ⟨by rfl, ?_⟩) hHeld ?_ ?_
  rotate_left
  · rintro w' ⟨s0, s1, s2, s3⟩
    go_simp
    with_reducible rfl
  rotate_left
  · simp only [Act.put, sT, sZ, sS, i64_w, i32_w]
    rfl
  refine take_ (i := 3) (N := some 8) (v := ?_) (a' := ?_) #[true, true, true, true, false, true, false, true, false, false, false, false, false] rfl rfl (take_ofW HT_.out HW_.out (by kernel_rfl)) (fun _ _ _ h => h) (Or.inl ⟨by rfl, ?_⟩) hHeld ?_ ?_
  rotate_left
  · rintro w' ⟨s0, s1, s2, s3⟩
    go_simp
    with_reducible rfl
  rotate_left
  · simp only [Act.put, sT, sZ, sS, i64_w, i32_w]
    rfl
  refine take_ (i := 6) (N := some 11) (v := ?_) (a' := ?_) #[true, true, true, true, false, true, true, true, false, false, false, false, false] rfl rfl (take_ofW HT_.out HW_.out (by kernel_rfl)) (fun _ _ _ h => h) (Or.inl ⟨by rfl, ?_⟩) hHeld ?_ ?_
  rotate_left
  · rintro w' ⟨s0, s1, s2, s3⟩
    go_simp
    with_reducible rfl
  rotate_left
  · simp only [Act.put, sT, sZ, sS, i64_w, i32_w]
    rfl
  refine take_ (i := 8) (N := some 13) (v := ?_) (a' := ?_) #[true, true, true, true, false, true, true, true, true, false, false, false, false] rfl rfl (take_ofW HT_.out HW_.out (by kernel_rfl)) (fun _ _ _ h => h) (Or.inl ⟨by rfl, ?_⟩) hHeld ?_ ?_
  rotate_left
  · rintro w' ⟨s0, s1, s2, s3⟩
    go_simp
    with_reducible rfl
  rotate_left
  · simp only [Act.put, sT, sZ, sS, i64_w, i32_w]
    rfl
  refine one_ (i := 4) (N := some 9) #[true, true, true, true, true, true, true, true, true, false, false, false, false] rfl rfl (one_of HT_.out (by kernel_rfl)) (by decide) (fun K hK => ?_)
  refine goes_ Try.func81 (by kernel_rfl) rfl #[.int .i64 x.f0, .int .i64 y.f0] (by rfl) rfl rfl ar_ ?_
  with_reducible refine (cmp_Compare_int.calls x.f0 y.f0 t163 _ A3.out).mono ?_
  rintro e w' ⟨rfl, ⟨nd1, rfl⟩⟩
  refine ⟨_, rfl, ?_⟩
  refine hK.out _ _ ⟨FA0, FA1, FB0, FB1⟩ (fun hHeld => ?_)
  clear hK K
  refine norm_ (a' := ?_) ?_ ?_
  rotate_left
  · show Act.put _ (some 9) _ = _
    simp only [Act.put, sT, sZ, sS, i64_w, i32_w]
    rfl
  refine one_ (i := 9) (N := some 14) #[true, true, true, true, true, true, true, true, true, true, false, false, false] rfl rfl (one_of HT_.out (by kernel_rfl)) (by decide) (fun K hK => ?_)
  refine goes_ Try.func81 (by kernel_rfl) rfl #[.int .i64 x.f1, .int .i64 y.f1] (by rfl) rfl rfl ar_ ?_
  with_reducible refine (cmp_Compare_int.calls x.f1 y.f1 t164 _ A4.out).mono ?_
  rintro e w' ⟨rfl, ⟨nd, rfl⟩⟩
  refine ⟨_, rfl, ?_⟩
  refine hK.out _ _ ⟨FA0, FA1, FB0, FB1⟩ (fun hHeld => ?_)
  clear hK K
  refine norm_ (a' := ?_) ?_ ?_
  rotate_left
  · show Act.put _ (some 14) _ = _
    simp only [Act.put, sT, sZ, sS, i64_w, i32_w]
    rfl
  refine one_ (i := 10) (N := some 15) #[true, true, true, true, true, true, true, true, true, true, true, false, false] rfl rfl (one_of HT_.out (by kernel_rfl)) (by decide) (fun K hK => ?_)
  have FL : ∀ (X : World) (o : Obj) {ad : Addr} {v : Value}, X.cell? ad = some v → (X.alloc o).cell? ad = some v := fun X o {ad v} h => Lib.cell?_alloc_some _ h
  refine event_step (v := .slice (some ⟨W7.heap.size, 0, none⟩) 2 2) (w1 := ((W7.drew.drewN nd1).drewN nd).alloc (.cells #[.int .i64 t163, .int .i64 t164] 3)) (by rfl) ?hr ?_
  (case hr => first | (go_simp; done) | (go_simp; rfl))
  refine hK.out _ _ ⟨FL _ _ FA0, FL _ _ FA1, FL _ _ FB0, FL _ _ FB1⟩ (fun hHeld => ?_)
  clear hK K
  refine norm_ (a' := ?_) ?_ ?_
  rotate_left
  · show Act.put _ (some 15) _ = _
    simp only [Act.put, sT, sZ, sS, i64_w, i32_w]
    rfl
  refine one_ (i := 11) (N := some 16) #[true, true, true, true, true, true, true, true, true, true, true, true, false] rfl rfl (one_of HT_.out (by kernel_rfl)) (by decide) (fun K hK => ?_)
  refine goes_ Try.func80 (by kernel_rfl) rfl #[.slice (some ⟨W7.heap.size, 0, none⟩) 2 2] (by rfl) rfl rfl ar_ ?_
  refine (cmp_Or_int.calls k (some ⟨W7.heap.size, 0, none⟩) 2 [t163, t164] t168 _ ?side1 (by simp) A5.out).mono ?_
  (case side1 => exact two_reads _ t163 t164)
  rintro e w' ⟨rfl, ⟨nd, rfl⟩⟩
  refine ⟨_, rfl, ?_⟩
  refine hK.out _ _ ⟨FL _ _ FA0, FL _ _ FA1, FL _ _ FB0, FL _ _ FB1⟩ (fun hHeld => ?_)
  clear hK K
  refine norm_ (a' := ?_) ?_ ?_
  rotate_left
  · show Act.put _ (some 16) _ = _
    simp only [Act.put, sT, sZ, sS, i64_w, i32_w]
    rfl
  refine pure_ (i := 12) (N := some 4) (v := ?_) (a' := ?_) #[true, true, true, true, true, true, true, true, true, true, true, true, true] rfl rfl (any_of HT_.out (by kernel_rfl)) (fun _ _ _ h => h) (Or.inl ⟨by rfl, ?_⟩) ?_ ?_
  rotate_left
  · intro w'
    go_simp
    with_reducible rfl
  rotate_left
  · simp only [Act.put, sT, sZ, sS, i64_w, i32_w]
    rfl
  refine done_ (done_of HT_.out (by kernel_rfl)) ?_
  try go_wp2
  go_ret
  exact ⟨rfl, by repeat (first | exact G7.out | apply Gr.drewN | apply Gr.drew | apply Gr.alloc)⟩
end Go.Proofs.Ytcfcjpcoofjckaa.Pr
/- A row of chords of the call's own, laid open cell by cell and put together again. -/
namespace Go.Proofs.Ytcfcjpcoofjckaa.Pr
open Go.RowKit Go.Sort Go.Proofs.YtcfcjpcoofjckaaW.PrintWords Go.Proofs.YtcfcjpcoofjckaaW.PrintLast Go.Proofs.YtcfcjpcoofjckaaW.PrintMore
instance : Inhabited S80 := ⟨z80⟩
instance : DecidableEq S80 := fun x y =>
  match x, y with
  | ⟨a, b⟩, ⟨c, d⟩ => if h : a = c ∧ b = d then isTrue (by rw [h.1, h.2]) else isFalse (fun e => h (by injection e with e1 e2; exact ⟨e1, e2⟩))
def encL (x : S80) : List Value := [.int .i64 x.f0, .int .i64 x.f1]
theorem encL_length (x : S80) : (encL x).length = 2 := rfl
/-- The cells of the elements. -/
def RowAt (W : World) (g : Nat) (xs : List S80) : Prop := ∀ i (h : i < xs.length), W.cell? ⟨g, i * 2, none⟩ = some (.int .i64 xs[i].f0) ∧ W.cell? ⟨g, i * 2 + 1, none⟩ = some (.int .i64 xs[i].f1)
theorem holds_of {W : World} {g : Nat} {xs : List S80} (hc : RowAt W g xs) (hf : ∀ j, W.frozen? ⟨g, j, none⟩ = false) : HoldsK encL 2 W g 0 xs.toArray := fun j hj => by
  have hj' : j < xs.length * 2 := by simpa using hj
  rw [Nat.zero_add]
  refine ⟨?_, hf j⟩
  rw [get_flatK _ _ _ _ (by simpa using hj')]
  have hd : j / 2 < xs.length := by omega
  have e : xs.toArray[j / 2]! = xs[j / 2] := by simp [hd]
  rw [e]
  obtain ⟨h1, h2⟩ := hc (j / 2) hd
  rcases Nat.mod_two_eq_zero_or_one j with hm | hm
  · rw [hm]
    have e2 : (⟨g, j, none⟩ : Addr) = ⟨g, j / 2 * 2, none⟩ := by congr 1; omega
    rw [e2]
    exact h1
  · rw [hm]
    have e2 : (⟨g, j, none⟩ : Addr) = ⟨g, j / 2 * 2 + 1, none⟩ := by congr 1; omega
    rw [e2]
    exact h2
theorem row_of_holds {W : World} {g : Nat} {d : Array S80} (h : HoldsK encL 2 W g 0 d) : RowAt W g d.toList := fun i hi => by
  have hi' : i < d.size := by simpa using hi
  have h0 := (HoldsK.cell h hi' (show 0 < 2 by omega)).1
  have h1 := (HoldsK.cell h hi' (show 1 < 2 by omega)).1
  rw [Nat.zero_add, getElem!_pos d i hi'] at h0 h1
  have e : d.toList[i] = d[i] := by simp
  rw [e]
  exact ⟨h0, h1⟩
/-- A row that is the call's own: empty, or a block whose first cells are the elements'. -/
theorem open_own {W : World} {base : Nat} {ok : Nat → Prop} {v : Value} {xs : List S80} (h : Kd.R k80 80 W base ok v xs) :
    (v = .slice none 0 0 ∧ xs = []) ∨ ∃ g cap cur, v = .slice (some ⟨g, 0, none⟩) xs.length cap ∧ ok g ∧ base ≤ g ∧ W.heap[g]? = some (.cells cur 80 (0, 0)) ∧ xs.length ≤ cap ∧ cap ≤ maxLen ∧ cur.size = cap * 2 ∧ RowAt W g xs := by
  obtain ⟨h0, inner, ho, hr⟩ := h
  obtain ⟨hl, hv⟩ := ho
  rcases hv with ⟨rfl, hn⟩ | ⟨g, cap, cur, rfl, hg, hb, hn, hm, hs, ht⟩
  · exact .inl ⟨rfl, List.eq_nil_of_length_eq_zero hn⟩
  · refine .inr ⟨g, cap, cur, rfl, h0 g rfl, hg, hb, hn, hm, hs, fun i hi => ?_⟩
    have hk2 := k80_openM (hr.2 i xs[i] (List.getElem?_eq_getElem hi))
    have hsz : k80.sz = 2 := rfl
    rw [hsz] at hk2 ht
    have e0 : ((inner.drop (i * 2)).take 2)[0]? = some (.int .i64 xs[i].f0) := by rw [hk2]; rfl
    have e1 : ((inner.drop (i * 2)).take 2)[1]? = some (.int .i64 xs[i].f1) := by rw [hk2]; rfl
    rw [List.getElem?_take_of_lt (by omega), List.getElem?_drop] at e0 e1
    have hq : ∀ q, q < xs.length * 2 → W.cell? ⟨g, q, none⟩ = inner[q]? := by
      intro q hq
      rw [blk_cell hb q, ← ht, List.getElem?_take_of_lt hq]
      simp
    exact ⟨by rw [hq _ (by omega)]; simpa using e0, by rw [hq _ (by omega)]; exact e1⟩
theorem shut_own {W : World} {base g cap : Nat} {ok : Nat → Prop} {cur : Array Value} {zs : List S80} (hok : ok g) (hg : base ≤ g) (hb : W.heap[g]? = some (.cells cur 80 (0, 0))) (hn : zs.length ≤ cap) (hm : cap ≤ maxLen) (hs : cur.size = cap * 2)
    (hc : RowAt W g zs) : Kd.R k80 80 W base ok (.slice (some ⟨g, 0, none⟩) zs.length cap) zs := by
  have hle : zs.length * 2 ≤ cur.size := by rw [hs]; exact Nat.mul_le_mul_right 2 hn
  refine ⟨fun k hk => by have : g = k := by simpa [Value.ownBlock] using hk
                         subst this; exact hok, cur.toList.take (zs.length * 2), ⟨?_, .inr ⟨g, cap, cur, rfl, hg, hb, hn, hm, hs, rfl⟩⟩, ?_, fun j p hj => ?_⟩
  · show (cur.toList.take (zs.length * 2)).length = zs.length * 2
    rw [List.length_take]
    exact Nat.min_eq_left (by rw [Array.length_toList]; exact hle)
  · show (cur.toList.take (zs.length * 2)).length = zs.length * 2
    rw [List.length_take]
    exact Nat.min_eq_left (by rw [Array.length_toList]; exact hle)
  · obtain ⟨hjl, rfl⟩ := List.getElem?_eq_some_iff.1 hj
    obtain ⟨h0, h1⟩ := hc j hjl
    rw [blk_cell hb] at h0 h1
    have hsz : k80.sz = 2 := rfl
    rw [hsz]
    have e : ((cur.toList.take (zs.length * 2)).drop (j * 2)).take 2 = [.int .i64 zs[j].f0, .int .i64 zs[j].f1] := by
      apply List.ext_getElem?
      intro q
      match q with
      | 0 =>
        rw [List.getElem?_take_of_lt (by omega), List.getElem?_drop, List.getElem?_take_of_lt (by omega)]
        simpa using h0
      | 1 =>
        rw [List.getElem?_take_of_lt (by omega), List.getElem?_drop, List.getElem?_take_of_lt (by omega)]
        simpa using h1
      | q + 2 =>
        rw [List.getElem?_eq_none (by rw [List.length_take]; omega), List.getElem?_eq_none (by simp)]
    rw [e]
    exact k80_mkM _ _ _ _
end Go.Proofs.Ytcfcjpcoofjckaa.Pr
/- What slices.Compact does to a row of chords of the call's own: the first of each run is kept. -/
namespace Go.Proofs.Ytcfcjpcoofjckaa.Pr
open Go.RowKit Go.Sort Go.Lib Go.Proofs.YtcfcjpcoofjckaaW.PrintWords Go.Proofs.YtcfcjpcoofjckaaW.PrintLast Go.Proofs.YtcfcjpcoofjckaaW.PrintMore
attribute [local go_sem high] eqA80
theorem setMany_one (d : Array S80) (i : Nat) (x : S80) (hi : i < d.size) : setMany (flatK encL 2 d) (i * 2) (encL x) = flatK encL 2 (d.setIfInBounds i x) := by
  refine ext_get! (by simp) fun t ht => ?_
  have ht' : t < d.size * 2 := by simpa using ht
  rw [get_setMany _ _ _ t (by simpa using ht'), get_flatK _ _ _ t ht', get_flatK _ _ _ t (by simpa using ht')]
  have hlen : (encL x).length = 2 := rfl
  rw [hlen]
  have hd : t / 2 < d.size := by omega
  by_cases a : t / 2 = i
  · rw [if_pos (by omega)]
    have e : (d.setIfInBounds i x)[t / 2]! = x := by rw [a]; simp [hi]
    rw [e, show t - i * 2 = t % 2 by omega]
  · rw [if_neg (by omega)]
    have e : (d.setIfInBounds i x)[t / 2]! = d[t / 2]! := by
      simp [Array.getElem!_eq_getD, Array.getD, Array.getElem_setIfInBounds, hd, Ne.symm a]
    rw [e]
theorem store_chord {w wr : World} {n blk : Nat} {dk : Array S80} {i : Nat} (hi : i < dk.size) (hwr : wr = putRowK encL 2 (Sort.ahead w n) blk 0 dk) (x : S80) :
    ((wr.drew).setCell ⟨blk, i * 2, none⟩ (.int .i64 x.f0)).setCell ⟨blk, i * 2 + 1, none⟩ (.int .i64 x.f1) = putRowK encL 2 (Sort.ahead w (n + 1)) blk 0 (dk.setIfInBounds i x) := by
  have h1 : wr.drew = putRowK encL 2 (Sort.ahead w (n + 1)) blk 0 dk := by
    have := putRowK_drewN encL 2 w n 1 blk 0 dk
    rw [← hwr] at this
    exact this
  rw [h1]
  have h2 := setCells_putRow (Sort.ahead w (n + 1)) blk 0 (encL x) (i * 2) (flatK encL 2 dk) (by rw [size_flatK]; show i * 2 + 2 ≤ _; omega)
  rw [setMany_one dk i x hi, Nat.zero_add] at h2
  exact h2
theorem eqB {x y : S80} (h : ¬ x = y) : (x.f0 == y.f0 && (x.f1 == y.f1)) = false := by
  rw [Bool.eq_false_iff]
  intro e
  simp only [Bool.and_eq_true, beq_iff_eq] at e
  obtain ⟨a, b⟩ := x
  obtain ⟨c, d⟩ := y
  exact h (by rw [show a = c from e.1, show b = d from e.2])
/-- The end of it: the cells of what is kept. -/
def CompEnd (w : World) (blk : Nat) (d : Array S80) (w' : World) : Prop :=
  ∃ q F, w' = putRow id (Sort.ahead w q) blk 0 F ∧ F.size = d.size * 2 ∧ ∀ j, j < (compactUpTo d d.size).length * 2 → F[j]! = (flatK encL 2 (compactUpTo d d.size).toArray)[j]!
theorem comp_same {w : World} {blk : Nat} {d : Array S80} (hH : HoldsK encL 2 w blk 0 d) (hall : ∀ j, j < d.size → keeps d j = true) (q : Nat) : (compactUpTo d d.size).length = d.size ∧ CompEnd w blk d (w.drewN q) := by
  have e : compactUpTo d d.size = d.toList := by rw [compactUpTo_all d _ hall, range_map_get]
  refine ⟨by rw [e]; simp, q, flatK encL 2 d, ?_, by simp, fun j hj => ?_⟩
  · exact (putRowK_self encL 2 (Sort.ahead w q) blk 0 d (holdsK_ahead encL 2 w q blk 0 d hH)).symm
  · rw [e]
def zerosCh (n : Nat) : List Value := (Builtin.zeroCells (Value.cells (.agg #[.int .i64 0, .int .i64 0])) n).toList
theorem zerosCh_length (n : Nat) : (zerosCh n).length = n * 2 := by simp [zerosCh, Builtin.zeroCells, Value.cells]
theorem run_clear_chord (w : World) (ty : TypeId) (b o n c : Nat) (hn : 0 < n) (hc : ∀ j, j < n * 2 → (w.cell? ⟨b, o + j, none⟩).isSome = true) (hf : ∀ j, j < n * 2 → w.frozen? ⟨b, o + j, none⟩ = false) :
    (Builtin.clear_ #[74] ty #[.slice (some ⟨b, o, none⟩) n c]).run Try.prog w = .ok (.tuple #[]) (w.setCells b o (zerosCh n)) := by
  have hv : ∀ w, (zeroValue 80).run Try.prog w = .ok (.agg #[.int .i64 0, .int .i64 0]) w := Try.zeroValue80
  have hone : ∀ v ∈ zerosCh n, v.oneCell' = true := by
    intro v hv
    simp [zerosCh, Builtin.zeroCells, Value.cells] at hv
    obtain ⟨i, hi, rfl⟩ := hv
    rcases Nat.mod_two_eq_zero_or_one i with h | h <;> simp [h, Value.oneCell']
  have hst := run_storeCells_cells (P := Try.prog) b o (zerosCh n) 0 w (fun j hj => by rw [Nat.add_zero]; exact hc j (by rw [zerosCh_length] at hj; exact hj)) (fun j hj => by rw [Nat.add_zero]; exact hf j (by rw [zerosCh_length] at hj; exact hj)) hone
  simp only [Nat.add_zero] at hst
  obtain ⟨m, rfl⟩ : ∃ m, n = m + 1 := ⟨n - 1, by omega⟩
  unfold zerosCh at hst ⊢
  simp [Builtin.clear_, run_underlying Try.underlying74, hv, hst]
theorem comp_end {w wr : World} {blk q2 kk : Nat} {d dk : Array S80} (hkk : kk ≤ d.size) (W2 : wr = putRowK encL 2 (Sort.ahead w q2) blk 0 dk) (I : CompInv d d.size kk dk) : CompEnd w blk d (wr.setCells blk (kk * 2) (zerosCh (d.size - kk))) := by
  have hsz := I.size
  refine ⟨q2, setMany (flatK encL 2 dk) (kk * 2) (zerosCh (d.size - kk)), ?_, by simp [hsz], fun j hj => ?_⟩
  · have h2 := setCells_putRow (Sort.ahead w q2) blk 0 (zerosCh (d.size - kk)) (kk * 2) (flatK encL 2 dk) (by rw [size_flatK, zerosCh_length]; omega)
    rw [Nat.zero_add] at h2
    rw [W2]
    exact h2
  · rw [I.len] at hj
    have hl : (compactUpTo d d.size).length = kk := I.len
    rw [get_setMany _ _ _ j (by rw [size_flatK]; omega), if_neg (by omega), get_flatK _ _ _ j (by omega), get_flatK _ _ _ j (by simp [hl]; omega)]
    have hlow := I.low (j / 2) (by omega)
    have e : (compactUpTo d d.size).toArray[j / 2]! = dk[j / 2]! := by
      have : j / 2 < (compactUpTo d d.size).length := by omega
      rw [getElem!_pos _ _ (by simpa using this)]
      rw [List.getElem?_eq_getElem this] at hlow
      simpa using oI hlow
    rw [e]
set_option maxHeartbeats 8000000 in
set_option maxRecDepth 1000000 in
theorem compact_chord (blk cap : Nat) (d : Array S80) (w : World) (hH : HoldsK encL 2 w blk 0 d) (hsz : d.size ≤ 4611686018427387904) (hcap : d.size ≤ cap) :
    Calls Try.prog 74 #[.slice (some ⟨blk, 0, none⟩) d.size cap] w fun e w' => e = .returned (.slice (some ⟨blk, 0, none⟩) (compactUpTo d d.size).length cap) ∧ CompEnd w blk d w' := by
  have hu60 := Try.underlying80
  by_cases h2 : d.size < 2
  · obtain ⟨e1, e2⟩ := comp_same hH (fun j hj => keeps_lt_one d j (by omega)) 0
    have E1 := Aside0.mk e1
    have E2 := Aside0.mk e2
    clear e1 e2 hH
    go_enter Try.func74, Try.ntmps74
    go_wp2
    go_ret
    exact ⟨by rw [E1.out]; rfl, E2.out⟩
  · have HH := Aside0.mk hH
    clear hH
    go_enter Try.func74, Try.ntmps74
    go_wp2
    go_loopg [3] d.size (fun g s3 wr => ∃ k q : Nat, Aside0 (1 ≤ k) ∧ Aside0 (k ≤ d.size) ∧ Aside0 (d.size - k ≤ g) ∧ s3 = .int .i64 k ∧ wr = w.drewN q ∧ Aside0 (∀ j, j < k → keeps d j = true))
    case atStart => exact ⟨1, 0, ⟨Nat.le_refl _⟩, ⟨by omega⟩, ⟨by omega⟩, rfl, rfl, ⟨keeps_lt_one d⟩⟩
    case round =>
      obtain ⟨k, q, K1, K2, KG, rfl, rfl, A⟩ := hrel
      have hk1 := K1.out
      have hk := K2.out
      by_cases hlt : k < d.size
      · obtain ⟨c1, f1⟩ := HoldsK.cell HH.out hlt (show 0 < 2 by omega)
        obtain ⟨c2, f2⟩ := HoldsK.cell HH.out hlt (show 1 < 2 by omega)
        obtain ⟨b1, _⟩ := HoldsK.cell HH.out (show k - 1 < d.size by omega) (show 0 < 2 by omega)
        obtain ⟨b2, _⟩ := HoldsK.cell HH.out (show k - 1 < d.size by omega) (show 1 < 2 by omega)
        obtain ⟨x, hx⟩ : ∃ x, d[k]! = x := ⟨_, rfl⟩
        obtain ⟨y, hy⟩ : ∃ y, d[k - 1]! = y := ⟨_, rfl⟩
        rw [hx] at c1 c2
        rw [hy] at b1 b2
        have B := Aside0.mk (show d[k]! = x ∧ d[k - 1]! = y from ⟨hx, hy⟩)
        clear hx hy
        simp only [Nat.zero_add, Nat.add_zero] at c1 c2 b1 b2 f1 f2
        change w.cell? ⟨blk, k * 2, none⟩ = some (.int .i64 x.f0) at c1
        change w.cell? ⟨blk, k * 2 + 1, none⟩ = some (.int .i64 x.f1) at c2
        change w.cell? ⟨blk, (k - 1) * 2, none⟩ = some (.int .i64 y.f0) at b1
        change w.cell? ⟨blk, (k - 1) * 2 + 1, none⟩ = some (.int .i64 y.f1) at b2
        by_cases hdup : x = y
        · subst hdup
          go_wp2_with fail
          go_region
          go_wp2
          clear c1 c2 b1 b2 f1 f2
          go_loopg [3, 5] d.size (fun g s3 s5 wr => ∃ (kk k2 q2 : Nat) (dk : Array S80), s3 = .int .i64 kk ∧ s5 = .int .i64 k2 ∧ Aside0 (1 ≤ k2) ∧ Aside0 (k + k2 ≤ d.size) ∧ Aside0 (d.size - (k + k2) ≤ g) ∧ Aside0 (wr = putRowK encL 2 (Sort.ahead w q2) blk 0 dk) ∧ Aside0 (CompInv d (k + k2) kk dk))
          case atStart => exact ⟨k, 1, q + 1, d, rfl, rfl, ⟨Nat.le_refl _⟩, ⟨by omega⟩, ⟨by omega⟩, ⟨(putRowK_self encL 2 (Sort.ahead w (q + 1)) blk 0 d (holdsK_ahead encL 2 w (q + 1) blk 0 d HH.out)).symm⟩, ⟨CompInv.start A.out (keeps_neg (by omega) (by rw [B.out.1, B.out.2]))⟩⟩
          case round =>
            obtain ⟨kk, k2, q2, dk, rfl, rfl, H1, HLE, HG2, W2, I2⟩ := hrel
            have h1 := H1.out
            have hle := HLE.out
            have hkk := I2.out.lt
            have hds := I2.out.size
            have hHk : HoldsK encL 2 wr blk 0 dk := by rw [W2.out]; exact holdsK_putRowK encL 2 _ blk 0 d dk (holdsK_ahead encL 2 w q2 blk 0 d HH.out) hds
            by_cases hlt2 : k + k2 < d.size
            · obtain ⟨c1, _⟩ := HoldsK.cell hHk (show k + k2 < dk.size by omega) (show 0 < 2 by omega)
              obtain ⟨c2, _⟩ := HoldsK.cell hHk (show k + k2 < dk.size by omega) (show 1 < 2 by omega)
              obtain ⟨b1, _⟩ := HoldsK.cell hHk (show k + k2 - 1 < dk.size by omega) (show 0 < 2 by omega)
              obtain ⟨b2, _⟩ := HoldsK.cell hHk (show k + k2 - 1 < dk.size by omega) (show 1 < 2 by omega)
              obtain ⟨o1, f1⟩ := HoldsK.cell hHk (show kk < dk.size by omega) (show 0 < 2 by omega)
              obtain ⟨o2, f2⟩ := HoldsK.cell hHk (show kk < dk.size by omega) (show 1 < 2 by omega)
              rw [I2.out.high (k + k2) (by omega)] at c1 c2
              rw [I2.out.high (k + k2 - 1) (by omega)] at b1 b2
              obtain ⟨u, hu⟩ : ∃ u, d[k + k2]! = u := ⟨_, rfl⟩
              obtain ⟨v, hv⟩ : ∃ v, d[k + k2 - 1]! = v := ⟨_, rfl⟩
              obtain ⟨o, ho⟩ : ∃ o, dk[kk]! = o := ⟨_, rfl⟩
              rw [hu] at c1 c2
              rw [hv] at b1 b2
              rw [ho] at o1 o2
              have C := Aside0.mk (show d[k + k2]! = u ∧ d[k + k2 - 1]! = v from ⟨hu, hv⟩)
              clear hu hv ho hHk
              simp only [Nat.zero_add, Nat.add_zero] at c1 c2 b1 b2 o1 o2 f1 f2
              rw [show (k + k2) * 2 = k * 2 + k2 * 2 by omega] at c1 c2
              rw [show (k + k2 - 1) * 2 = k * 2 + (k2 - 1) * 2 by omega] at b1 b2
              change wr.cell? ⟨blk, k * 2 + k2 * 2, none⟩ = some (.int .i64 u.f0) at c1
              change wr.cell? ⟨blk, k * 2 + k2 * 2 + 1, none⟩ = some (.int .i64 u.f1) at c2
              change wr.cell? ⟨blk, k * 2 + (k2 - 1) * 2, none⟩ = some (.int .i64 v.f0) at b1
              change wr.cell? ⟨blk, k * 2 + (k2 - 1) * 2 + 1, none⟩ = some (.int .i64 v.f1) at b2
              change wr.cell? ⟨blk, kk * 2, none⟩ = some (.int .i64 o.f0) at o1
              change wr.cell? ⟨blk, kk * 2 + 1, none⟩ = some (.int .i64 o.f1) at o2
              by_cases huv : u = v
              · subst huv
                go_wp2_with fail
                go_region
                go_wp2
                go_roundg (d.size - (k + (k2 + 1)))
                case measure => have := HG2.out; omega
                case rel => exact ⟨kk, k2 + 1, q2 + 1, dk, rfl, by go_num, ⟨by omega⟩, ⟨by omega⟩, ⟨Nat.le_refl _⟩, ⟨by rw [W2.out]; rfl⟩, ⟨I2.out.skip (keeps_neg (by omega) (by rw [C.out.1, C.out.2]))⟩⟩
              · have hb := eqB huv
                have D := Aside0.mk huv
                clear huv
                go_wp2_with fail
                go_region
                go_wp2
                go_roundg (d.size - (k + (k2 + 1)))
                case measure => have := HG2.out; omega
                case rel => exact ⟨kk + 1, k2 + 1, q2 + 1, dk.setIfInBounds kk u, by go_num, by go_num, ⟨by omega⟩, ⟨by omega⟩, ⟨Nat.le_refl _⟩, ⟨store_chord (by omega) W2.out u⟩, ⟨by have := I2.out.keep hlt2 (keeps_pos (by rw [C.out.1, C.out.2]; exact D.out)); rwa [C.out.1] at this⟩⟩
            · have hend : k + k2 = d.size := by omega
              have hfr : ∀ j, j < (d.size - kk) * 2 → (wr.cell? ⟨blk, kk * 2 + j, none⟩).isSome = true ∧ wr.frozen? ⟨blk, kk * 2 + j, none⟩ = false := fun j hj => by
                have := hHk (kk * 2 + j) (by rw [size_flatK]; omega)
                rw [Nat.zero_add] at this
                exact ⟨by rw [this.1]; rfl, this.2⟩
              have hcl : ∀ ty, (Builtin.clear_ #[74] ty #[.slice (some ⟨blk, kk * 2, none⟩) (d.size - kk) (cap - kk)]).run Try.prog wr = .ok (.tuple #[]) (wr.setCells blk (kk * 2) (zerosCh (d.size - kk))) :=
                fun ty => run_clear_chord wr ty blk (kk * 2) (d.size - kk) (cap - kk) (by omega) (fun j hj => (hfr j hj).1) (fun j hj => (hfr j hj).2)
              have hI := I2.out
              rw [hend] at hI
              have E1 := Aside0.mk hI.len
              have E2 := Aside0.mk (comp_end (by omega) W2.out hI)
              clear hHk hfr hI I2 W2
              go_wp2
              go_ret
              exact ⟨by rw [E1.out]; rfl, E2.out⟩
        · have hb := eqB hdup
          have D := Aside0.mk hdup
          clear hdup
          go_wp2_with fail
          go_region
          go_wp2
          go_roundg (d.size - (k + 1))
          case measure => have := KG.out; omega
          case rel =>
            refine ⟨k + 1, q + 1, ⟨by omega⟩, ⟨by omega⟩, ⟨Nat.le_refl _⟩, by go_num, rfl, ⟨fun j hj => ?_⟩⟩
            by_cases e : j = k
            · subst e
              exact keeps_pos (by rw [B.out.1, B.out.2]; exact D.out)
            · exact A.out j (by omega)
      · have hkd : k = d.size := by omega
        subst hkd
        obtain ⟨e1, e2⟩ := comp_same HH.out A.out q
        have E1 := Aside0.mk e1
        have E2 := Aside0.mk e2
        clear e1 e2
        go_wp2
        go_ret
        exact ⟨by rw [E1.out]; rfl, E2.out⟩
end Go.Proofs.Ytcfcjpcoofjckaa.Pr
/-
  DERIVED: THE SHELF's CONTRACTS AT THIS DUMP, IN PLAIN WORDS (tools/lay-plain.mjs out of 'YtcfcjpcoofjckaaSortLay.lean', which tools/lay-shelf.mjs wrote): THE SAME DECLARATIONS UNDER THE SAME NAMES: 'import', 'namespace', 'open', 'def', 'theorem' AND NOTHING ELSE: no command of the shelf's: FOR A HAND-IN. Each laying: the table of numbers ('.._ren') and one theorem, a field a fact of the dump's own or the kernel's comparison; each contract: ONE APPLICATION.
-/
namespace Go.Proofs
open Go.Shelf
def Try.sortCh_ren : Go.Shelf.Ren := ⟨fun | 6 => 72 | 15 => 79 | 14 => 78 | 28 => 90 | 29 => 91 | 20 => 82 | 21 => 83 | 22 => 84 | 23 => 85 | 24 => 86 | 25 => 87 | 26 => 88 | 27 => 89 | 46 => 93 | 47 => 94 | 48 => 95 | 49 => 96 | 50 => 97 | 57 => 98 | n => n, fun | 22 => 74 | 24 => 80 | 25 => 87 | 3 => 3 | 39 => 90 | 0 => 0 | 53 => 101 | 55 => 103 | 4 => 4 | 46 => 94 | 45 => 93 | 50 => 98 | 5 => 5 | 9 => 9 | 66 => 104 | 70 => 108 | 76 => 110 | 77 => 111 | n => n, fun | n => n⟩
theorem Try.sortCh : Go.Proofs.SlLaysF0.n6 Try.prog Try.sortCh_ren := {
  mixed := by kernel_rfl
  f6 := ⟨Try.f72.name, by decide, Try.func72.trans (congrArg some (by kernel_rfl))⟩
  f14 := ⟨Try.f78.name, by decide, Try.func78.trans (congrArg some (by kernel_rfl))⟩
  f15 := Try.func79.trans (congrArg some (by kernel_rfl))
  f20 := ⟨Try.f82.name, by decide, Try.func82.trans (congrArg some (by kernel_rfl))⟩
  f21 := ⟨Try.f83.name, by decide, Try.func83.trans (congrArg some (by kernel_rfl))⟩
  f22 := ⟨Try.f84.name, by decide, Try.func84.trans (congrArg some (by kernel_rfl))⟩
  f23 := ⟨Try.f85.name, by decide, Try.func85.trans (congrArg some (by kernel_rfl))⟩
  f24 := ⟨Try.f86.name, by decide, Try.func86.trans (congrArg some (by kernel_rfl))⟩
  f25 := ⟨Try.f87.name, by decide, Try.func87.trans (congrArg some (by kernel_rfl))⟩
  f26 := ⟨Try.f88.name, by decide, Try.func88.trans (congrArg some (by kernel_rfl))⟩
  f27 := ⟨Try.f89.name, by decide, Try.func89.trans (congrArg some (by kernel_rfl))⟩
  f28 := Try.func90.trans (congrArg some (by kernel_rfl))
  f29 := Try.func91.trans (congrArg some (by kernel_rfl))
  f46 := ⟨Try.f93.name, by decide, Try.func93.trans (congrArg some (by kernel_rfl))⟩
  f47 := Try.func94.trans (congrArg some (by kernel_rfl))
  f48 := Try.func95.trans (congrArg some (by kernel_rfl))
  f49 := ⟨Try.f96.name, by decide, Try.func96.trans (congrArg some (by kernel_rfl))⟩
  f50 := ⟨Try.f97.name, by decide, Try.func97.trans (congrArg some (by kernel_rfl))⟩
  f57 := ⟨Try.f98.name, by decide, Try.func98.trans (congrArg some (by kernel_rfl))⟩
  t0 := Try.underlying0
  a0 := Try.isAgg0
  z0 := Try.sizeOf0
  v0 := Try.zeroValue0
  t3 := Try.underlying3
  a3 := Try.isAgg3
  z3 := Try.sizeOf3
  v3 := Try.zeroValue3
  t4 := Try.underlying4
  a4 := Try.isAgg4
  z4 := Try.sizeOf4
  v4 := Try.zeroValue4
  t5 := Try.underlying5
  a5 := Try.isAgg5
  z5 := Try.sizeOf5
  v5 := Try.zeroValue5
  t9 := Try.underlying9
  a9 := Try.isAgg9
  z9 := Try.sizeOf9
  v9 := Try.zeroValue9
  t22 := Try.underlying74
  a22 := Try.isAgg74
  z22 := Try.sizeOf74
  v22 := Try.zeroValue74
  t25 := Try.underlying87
  a25 := Try.isAgg87
  z25 := Try.sizeOf87
  v25 := Try.zeroValue87
  t39 := Try.underlying90
  a39 := Try.isAgg90
  z39 := Try.sizeOf90
  v39 := Try.zeroValue90
  t45 := Try.underlying93
  a45 := Try.isAgg93
  z45 := Try.sizeOf93
  v45 := Try.zeroValue93
  t46 := Try.underlying94
  a46 := Try.isAgg94
  z46 := Try.sizeOf94
  v46 := Try.zeroValue94
  t50 := Try.underlying98
  a50 := Try.isAgg98
  z50 := Try.sizeOf98
  v50 := Try.zeroValue98
  t53 := Try.underlying101
  a53 := Try.isAgg101
  z53 := Try.sizeOf101
  v53 := Try.zeroValue101
  t55 := Try.underlying103
  a55 := Try.isAgg103
  z55 := Try.sizeOf103
  v55 := Try.zeroValue103
  t66 := Try.underlying104
  a66 := Try.isAgg104
  z66 := Try.sizeOf104
  v66 := Try.zeroValue104
  t70 := Try.underlying108
  a70 := Try.isAgg108
  z70 := Try.sizeOf108
  v70 := Try.zeroValue108
  t76 := Try.underlying110
  a76 := Try.isAgg110
  z76 := Try.sizeOf110
  v76 := Try.zeroValue110
  t77 := Try.underlying111
  a77 := Try.isAgg111
  z77 := Try.sizeOf111
  v77 := Try.zeroValue111 }
end Go.Proofs
/- Steps for functions with a number of rounds: what holds from some number of rounds on. -/
namespace Go.Proofs.Ytcfcjpcoofjckaa.M
open Go.RowKit Go.Proofs.YtcfcjpcoofjckaaW.PrintWords
theorem w64 {x : Int} (h0 : -9223372036854775808 ≤ x) (h1 : x ≤ 9223372036854775807) : wrap64 x = x := by
  unfold wrap64
  omega
theorem Ev.pos {α : Type} {c : Prop} [Decidable c] {A B : Nat → Option α} {r : α} (h : c) (e : Ev A r) : Ev (fun k => if c then A k else B k) r := by
  simp only [h, if_true]
  exact e
theorem Ev.neg {α : Type} {c : Prop} [Decidable c] {A B : Nat → Option α} {r : α} (h : ¬ c) (e : Ev B r) : Ev (fun k => if c then A k else B k) r := by
  simp only [h, if_false]
  exact e
theorem Ev.bindc {α β : Type} {o : Option α} {f : Nat → α → Option β} {a : α} {r : β} (h : o = some a) (e : Ev (fun k => f k a) r) : Ev (fun k => o.bind (f k)) r := by
  subst h
  exact e
theorem Ev.bindk {α β : Type} {g : Nat → Option α} {f : Nat → α → Option β} {a : α} {r : β} (h : Ev g a) (e : Ev (fun k => f k a) r) : Ev (fun k => (g k).bind (f k)) r := Ev.bind h e
theorem Ev.val {α : Type} {r r' : α} (h : r = r') : Ev (fun _ => some r) r' := by
  subst h
  exact Ev.now r
/-- Two values of one thing are one. -/
theorem Ev.uniq {α : Type} {g : Nat → Option α} {r r' : α} (h : Ev g r) (h' : Ev g r') : r = r' := by
  obtain ⟨K, h⟩ := h
  obtain ⟨K', h'⟩ := h'
  have e := (h (max K K') (Nat.le_max_left _ _)).symm.trans (h' (max K K') (Nat.le_max_right _ _))
  exact Option.some.inj e
/-- A loop over a list by its index: what is left of the list decides the answer R; P is kept. -/
theorem Ev.scan {α β γ : Type} (L : Nat → Int → β → Option γ) (xs : List α) (R : List α → β → γ) (P : Nat → β → Prop)
    (h0 : ∀ acc, P xs.length acc → Ev (fun k => L k (xs.length : Int) acc) (R [] acc))
    (h1 : ∀ (i : Nat) (h : i < xs.length) (acc : β), P i acc → (∃ acc', P (i + 1) acc' ∧ R (xs[i] :: xs.drop (i + 1)) acc = R (xs.drop (i + 1)) acc' ∧ ∀ r, Ev (fun k => L k ((i : Int) + 1) acc') r → Ev (fun k => L k (i : Int) acc) r)
      ∨ Ev (fun k => L k (i : Int) acc) (R (xs[i] :: xs.drop (i + 1)) acc)) :
    ∀ (d i : Nat) (acc : β), i + d = xs.length → P i acc → Ev (fun k => L k (i : Int) acc) (R (xs.drop i) acc) := by
  intro d
  induction d with
  | zero =>
    intro i acc hi hp
    obtain rfl : i = xs.length := by omega
    rw [List.drop_length]
    exact h0 acc hp
  | succ d ih =>
    intro i acc hi hp
    have hlt : i < xs.length := by omega
    rw [List.drop_eq_getElem_cons hlt]
    rcases h1 i hlt acc hp with ⟨acc', hp', hR, hk⟩ | h
    · rw [hR]
      refine hk _ ?_
      have e := ih (i + 1) acc' (by omega) hp'
      rw [show (((i + 1 : Nat)) : Int) = (i : Int) + 1 from by omega] at e
      exact e
    · exact h
theorem Ev.scan0 {α β γ : Type} (L : Nat → Int → β → Option γ) (xs : List α) (R : List α → β → γ) (P : Nat → β → Prop)
    (h0 : ∀ acc, P xs.length acc → Ev (fun k => L k (xs.length : Int) acc) (R [] acc))
    (h1 : ∀ (i : Nat) (h : i < xs.length) (acc : β), P i acc → (∃ acc', P (i + 1) acc' ∧ R (xs[i] :: xs.drop (i + 1)) acc = R (xs.drop (i + 1)) acc' ∧ ∀ r, Ev (fun k => L k ((i : Int) + 1) acc') r → Ev (fun k => L k (i : Int) acc) r)
      ∨ Ev (fun k => L k (i : Int) acc) (R (xs[i] :: xs.drop (i + 1)) acc)) (acc : β) (hp : P 0 acc) : Ev (fun k => L k 0 acc) (R xs acc) := by
  have e := Ev.scan L xs R P h0 h1 xs.length 0 acc (by omega) hp
  simpa using e
/-- Counting up from i to n. -/
theorem Ev.upto {β γ : Type} (L : Nat → Int → β → Option γ) (n : Int) (R : Int → β → γ) (P : Int → β → Prop)
    (h0 : ∀ i acc, n ≤ i → P i acc → Ev (fun k => L k i acc) (R i acc))
    (h1 : ∀ i acc, i < n → P i acc → (∃ acc', P (i + 1) acc' ∧ R i acc = R (i + 1) acc' ∧ ∀ r, Ev (fun k => L k (i + 1) acc') r → Ev (fun k => L k i acc) r) ∨ Ev (fun k => L k i acc) (R i acc)) :
    ∀ (d : Nat) (i : Int) (acc : β), n ≤ i + d → P i acc → Ev (fun k => L k i acc) (R i acc) := by
  intro d
  induction d with
  | zero => intro i acc hi hp; exact h0 i acc (by omega) hp
  | succ d ih =>
    intro i acc hi hp
    by_cases hlt : i < n
    · rcases h1 i acc hlt hp with ⟨acc', hp', hR, hk⟩ | h
      · rw [hR]
        exact hk _ (ih (i + 1) acc' (by omega) hp')
      · exact h
    · exact h0 i acc (by omega) hp
end Go.Proofs.Ytcfcjpcoofjckaa.M
/- Between two bounds. -/
namespace Go.Proofs.Ytcfcjpcoofjckaa.M
open Go.RowKit Go.Proofs.YtcfcjpcoofjckaaW.PrintWords Go.Proofs.Ytcfcjpcoofjckaa.Pr
def inB (n lo hi : Int) : Bool := decide (lo ≤ n ∧ n ≤ hi)
theorem within_eq (n lo hi : Int) : impl_within.f n lo hi = some (inB n lo hi) := by
  unfold impl_within.f inB
  by_cases h : n ≥ lo
  · rw [if_pos h]; congr 1; rw [Bool.eq_iff_iff]; simp; omega
  · rw [if_neg h]; congr 1; rw [Bool.eq_iff_iff]; simp; omega
theorem l1In_eq (n lo hi : Int) : spec_l1In.f n lo hi = some (inB n lo hi) := within_eq n lo hi
/-- Whether there is a star of so many points, with that step. -/
def okStar (n s : Int) : Bool := decide (3 ≤ n ∧ n ≤ 60) && inB s 1 (n - 1)
end Go.Proofs.Ytcfcjpcoofjckaa.M
/- What the functions on chords of the program and of the reference compute, in plain words: the order, the crossings of two. -/
namespace Go.Proofs.Ytcfcjpcoofjckaa.M
open Go.RowKit Go.Proofs.YtcfcjpcoofjckaaW.PrintWords Go.Proofs.Ytcfcjpcoofjckaa.Pr
abbrev Ch := S80
theorem rd_ch (l : List Ch) (i : Nat) (h : i < l.length) : rd_T80 l (i : Int) = l[i] := by
  unfold rd_T80
  simp [List.getD_eq_getElem?_getD, List.getElem?_eq_getElem h]
def okB (p : Int) (c : Ch) : Bool := decide (0 ≤ c.f0 ∧ c.f0 < c.f1 ∧ c.f1 < p)
def ltB (c d : Ch) : Bool := decide (c.f0 < d.f0 ∨ c.f0 = d.f0 ∧ c.f1 < d.f1)
def crB (c d : Ch) : Bool := decide (c.f0 < d.f0 ∧ d.f0 < c.f1 ∧ c.f1 < d.f1 ∨ d.f0 < c.f0 ∧ c.f0 < d.f1 ∧ d.f1 < c.f1)
theorem crB_comm (c d : Ch) : crB c d = crB d c := by
  unfold crB
  rw [decide_eq_decide]
  constructor <;> (rintro (h | h); exact .inr h; exact .inl h)
theorem srLess_eq (a b c d : Int) : spec_srLess.f a b c d = some (ltB ⟨a, b⟩ ⟨c, d⟩) := by
  unfold spec_srLess.f ltB
  by_cases h : a < c
  · rw [if_pos h]; congr 1; rw [Bool.eq_iff_iff]; simp; omega
  · rw [if_neg h]
    by_cases h2 : a = c
    · rw [if_pos h2]; congr 1; rw [Bool.eq_iff_iff]; simp; omega
    · rw [if_neg h2]; congr 1; rw [Bool.eq_iff_iff]; simp; omega
theorem crossing_eq (c d : Ch) : impl_crossing.f c.f0 c.f1 d.f0 d.f1 = some (crB c d) := by
  unfold impl_crossing.f crB
  repeat' split
  all_goals (congr 1; rw [Bool.eq_iff_iff]; simp only [decide_eq_true_eq, Bool.false_eq_true, true_iff, false_iff]; omega)
theorem srCross_eq (c d : Ch) (hc : c.f0 < c.f1) (hd : d.f0 < d.f1) : spec_srCross.f c.f0 c.f1 d.f0 d.f1 = some (crB c d) := by
  unfold spec_srCross.f crB
  obtain ⟨a, b⟩ := c
  obtain ⟨u, v⟩ := d
  simp only at *
  obtain ⟨R, hR⟩ : ∃ R : Bool, R = decide (a < u ∧ u < b ∧ b < v ∨ u < a ∧ a < v ∧ v < b) := ⟨_, rfl⟩
  rw [← hR]
  have hR' : R = true ↔ (a < u ∧ u < b ∧ b < v ∨ u < a ∧ a < v ∧ v < b) := by rw [hR, decide_eq_true_eq]
  clear hR
  by_cases g1 : u < b <;> by_cases g2 : v < b <;> simp only [g1, g2, decide_true, decide_false] <;> repeat' split
  all_goals first
    | (exfalso; omega)
    | (exfalso; simp_all; done)
    | (refine congrArg some (Bool.eq_iff_iff.2 ?_); rw [hR']; simp only [Bool.false_eq_true, Bool.not_true, Bool.not_eq_true', beq_eq_false_iff_ne, ne_eq, true_iff, false_iff]; omega)
theorem compare_eq (a b : Int) : cmp_Compare_int.f a b = some (if a < b then -1 else if a > b then 1 else 0) := by
  unfold cmp_Compare_int.f cmp_isNaN_int.f
  simp only [bne_self_eq_false, Option.bind_some, Bool.false_eq_true, if_false]
  repeat' split
  all_goals rfl
theorem or_ev (x y : Int) : Ev (fun k => cmp_Or_int.f k [x, y]) (if x = 0 then y else x) := by
  unfold cmp_Or_int.f
  refine Ev.step (fun k => by rw [cmp_Or_int.l0]) ?_
  refine Ev.pos (by simp) (Ev.pos (by omega) (Ev.pos (by simp) ?_))
  rw [show rd [x, y] 0 = x from rfl]
  by_cases hx : x = 0
  · refine Ev.pos hx ?_
    rw [show wrap64 (0 + 1) = 1 from by rw [w64 (by omega) (by omega)]; rfl, if_pos hx]
    refine Ev.step (fun k => by rw [cmp_Or_int.l0]) ?_
    refine Ev.pos (by simp) (Ev.pos (by omega) (Ev.pos (by simp) ?_))
    rw [show rd [x, y] 1 = y from rfl]
    by_cases hy : y = 0
    · refine Ev.pos hy ?_
      rw [show wrap64 (1 + 1) = 2 from by rw [w64 (by omega) (by omega)]; rfl, hy]
      refine Ev.step (fun k => by rw [cmp_Or_int.l0]) ?_
      exact Ev.neg (by simp) (Ev.now 0)
    · exact Ev.neg hy (Ev.now y)
  · rw [if_neg hx]
    exact Ev.neg hx (Ev.now x)
def cmpC (c d : Ch) : Int := if c.f0 < d.f0 then -1 else if c.f0 > d.f0 then 1 else if c.f1 < d.f1 then -1 else if c.f1 > d.f1 then 1 else 0
theorem compareChords_ev (c d : Ch) : Ev (fun k => impl_compareChords.f k c.f0 c.f1 d.f0 d.f1) (cmpC c d) := by
  unfold impl_compareChords.f
  refine Ev.bindc (compare_eq _ _) (Ev.bindc (compare_eq _ _) (Ev.bindk (or_ev _ _) (Ev.val ?_)))
  unfold cmpC
  by_cases h1 : c.f0 < d.f0
  · simp [h1]
  · by_cases h2 : c.f0 > d.f0
    · simp [h1, h2]
    · simp [h1, h2]
theorem cmpC_ge (c d : Ch) : (cmpC c d ≥ 0) ↔ ltB c d = false := by
  unfold cmpC ltB
  simp only [decide_eq_false_iff_not]
  split
  · omega
  · split
    · omega
    · split
      · omega
      · split <;> omega
end Go.Proofs.Ytcfcjpcoofjckaa.M
/- What the program's `ordered` does to a row of chords of the call's own: the row in order, each chord once. -/
namespace Go.Proofs.Ytcfcjpcoofjckaa.Pr
open Go.RowKit Go.Sort Go.Lib Go.Proofs.YtcfcjpcoofjckaaW.PrintWords Go.Proofs.YtcfcjpcoofjckaaW.PrintLast Go.Proofs.YtcfcjpcoofjckaaW.PrintMore
/-- The sorted row. -/
def sortC (xs : List S80) : List S80 := xs.mergeSort fun x y => !(ltOf M.cmpC) y x
/-- The chords in order, each once. -/
def ordC (xs : List S80) : List S80 := compactUpTo (sortC xs).toArray (sortC xs).toArray.size
theorem ltC_iff (x y : S80) : (ltOf M.cmpC) x y = true ↔ (x.f0 < y.f0 ∨ x.f0 = y.f0 ∧ x.f1 < y.f1) := by
  unfold ltOf M.cmpC
  rw [decide_eq_true_iff]
  split
  · simp; omega
  · split
    · simp; omega
    · split
      · simp; omega
      · split
        · simp; omega
        · simp; omega
theorem ltC_not (x y : S80) : (ltOf M.cmpC) x y = false ↔ ¬ (x.f0 < y.f0 ∨ x.f0 = y.f0 ∧ x.f1 < y.f1) := by
  rw [← ltC_iff, Bool.not_eq_true]
theorem swoC : SWO (ltOf M.cmpC) where
  irrefl x := by rw [ltC_not]; omega
  trans x y z h1 h2 := by rw [ltC_iff] at *; omega
  ntrans x y z h1 h2 := by rw [ltC_not] at *; omega
theorem antC (x y : S80) (h1 : (ltOf M.cmpC) x y = false) (h2 : (ltOf M.cmpC) y x = false) : x = y := by
  rw [ltC_not] at h1 h2
  obtain ⟨a, b⟩ := x
  obtain ⟨c, d⟩ := y
  simp only at h1 h2
  rw [show a = c by omega, show b = d by omega]
theorem compareChords_lays (g size : Nat) (w : World) : Go.Proofs.CmpLays Try.prog 73 #[] encL 2 M.cmpC g 0 size w := fun m os dk hs x y => by
  obtain ⟨k, hk⟩ := M.or_ev (if x.f0 < y.f0 then -1 else if x.f0 > y.f0 then 1 else 0) (if x.f1 < y.f1 then -1 else if x.f1 > y.f1 then 1 else 0)
  have e : (if (if x.f0 < y.f0 then (-1 : Int) else if x.f0 > y.f0 then 1 else 0) = 0 then (if x.f1 < y.f1 then (-1 : Int) else if x.f1 > y.f1 then 1 else 0) else (if x.f0 < y.f0 then -1 else if x.f0 > y.f0 then 1 else 0)) = M.cmpC x y := by
    unfold M.cmpC
    by_cases h1 : x.f0 < y.f0
    · simp [h1]
    · by_cases h2 : x.f0 > y.f0
      · simp [h1, h2]
      · simp [h1, h2]
  have h := compareChords_grow k x y _ _ _ (sortWorldK encL 2 w g 0 m dk os) (M.compare_eq _ _) (M.compare_eq _ _) (hk k (Nat.le_refl k))
  rw [e] at h
  exact h
theorem compactUpTo_length_le (d : Array S80) (m : Nat) : (compactUpTo d m).length ≤ m := by
  unfold compactUpTo
  rw [List.length_map]
  exact Nat.le_trans (List.length_filter_le _ _) (by simp)
theorem sortC_length (xs : List S80) : (sortC xs).length = xs.length := by
  unfold sortC
  exact List.length_mergeSort xs
theorem ordC_length (xs : List S80) : (ordC xs).length ≤ xs.length := by
  unfold ordC
  refine Nat.le_trans (compactUpTo_length_le _ _) ?_
  simp [sortC_length]
theorem ordC_nil : ordC [] = [] := by simp [ordC, sortC, compactUpTo]
set_option maxHeartbeats 2000000 in
theorem compact_none (w : World) : Calls Try.prog 74 #[.slice none 0 0] w fun e w' => e = .returned (.slice none 0 0) ∧ Below w.heap.size w w' := by
  go_enter Try.func74, Try.ntmps74
  go_wp2
  go_ret
  exact ⟨rfl, Below.refl _ _⟩
theorem oneL : ∀ x : S80, ∀ v ∈ encL x, v.oneCell' = true := by
  intro x v hv
  simp [encL] at hv
  rcases hv with rfl | rfl <;> rfl
set_option maxHeartbeats 2000000 in
/-- The sort, at a row of the call's own. -/
theorem sort_chord (g cap : Nat) (xs : List S80) (w : World) (hH : HoldsK encL 2 w g 0 xs.toArray) (hg : g < w.heap.size) (hlen : xs.length < 4611686018427387904) :
    Calls Try.prog 72 #[.slice (some ⟨g, 0, none⟩) xs.length cap, .func (.func 73) #[] #[]] w fun e w' => e = .returned (.tuple #[]) ∧ ∃ n os, w' = sortWorldK encL 2 w g 0 n (sortC xs).toArray os := by
  have h := AnyQ.slices_SortFunc_total Try.sortCh 2 (fun w => Try.isAgg80 w) (fun w => Try.sizeOf80 w) encL encL_length oneL M.cmpC swoC 73 #[] g 0 cap xs.toArray w (enters_of Try.func73 (by kernel_rfl) rfl)
    (compareChords_lays g xs.toArray.size w) hH hg (by simpa using hlen) antC
  exact h
/-- Behind the sort and the compaction the row's first cells are the chords in order, each once. -/
theorem ord_end {w w1 w2 : World} {g cap n base : Nat} {ok : Nat → Prop} {os : Array Obj} {cur : Array Value} {xs : List S80} (hok : ok g) (hg : base ≤ g) (hB : base ≤ w.heap.size) (hb : w.heap[g]? = some (.cells cur 80 (0, 0))) (hn : xs.length ≤ cap) (hm : cap ≤ maxLen) (hs : cur.size = cap * 2)
    (hH : HoldsK encL 2 w g 0 xs.toArray) (e1 : w1 = sortWorldK encL 2 w g 0 n (sortC xs).toArray os) (h2 : CompEnd w1 g (sortC xs).toArray w2) :
    Kd.R k80 80 w2 base ok (.slice (some ⟨g, 0, none⟩) (ordC xs).length cap) (ordC xs) ∧ Below base w w2 ∧ Kept w w2 ok := by
  have hgs : g < w.heap.size := (Array.getElem?_eq_some_iff.1 hb).1
  have hH1 : HoldsK encL 2 w1 g 0 (sortC xs).toArray := by
    rw [e1]
    exact holdsK_sortWorldK_c encL 2 w g 0 xs.toArray (sortC xs).toArray n os hH hgs (by simp [sortC_length])
  have hb1 : w1.heap[g]? = some (.cells (putCells id 0 (flatK encL 2 (sortC xs).toArray) cur) 80 (0, 0)) := by
    rw [e1]
    show ((putRowK encL 2 (Sort.ahead w n) g 0 (sortC xs).toArray).heap ++ os)[g]? = _
    have := blk_putRow (w := Sort.ahead w n) (flatK encL 2 (sortC xs).toArray) hb
    rw [Array.getElem?_append_left (by rw [size_putRowK]; exact hgs)]
    exact this
  have hB1 : Below base w w1 := by
    rw [e1]
    refine ((below_ahead n).trans (below_putRow (flatK encL 2 (sortC xs).toArray) hg)).trans (below_grow os ?_)
    rw [show (putRow id (Sort.ahead w n) g 0 (flatK encL 2 (sortC xs).toArray)).heap.size = w.heap.size from by simp [putRow, mapBlock, Sort.ahead]]
    exact hB
  obtain ⟨q, F, e2, hF, hFj⟩ := h2
  have hb2 : w2.heap[g]? = some (.cells (putCells id 0 F (putCells id 0 (flatK encL 2 (sortC xs).toArray) cur)) 80 (0, 0)) := by
    rw [e2]
    exact blk_putRow (w := Sort.ahead w1 q) F hb1
  have hB2 : Below base w1 w2 := by
    rw [e2]
    exact (below_ahead q).trans (below_putRow F hg)
  have hK1 : Kept w w1 ok := by
    rw [e1]
    exact ((kept_ahead n).then_ (kept_putRow (flatK encL 2 (sortC xs).toArray) hok) (fun _ h => .inl h)).then_ (kept_grow os) (fun _ h => .inl h)
  have hK2 : Kept w1 w2 ok := by
    rw [e2]
    exact (kept_ahead q).then_ (kept_putRow F hok) (fun _ h => .inl h)
  have hholds : Holds id w2 g 0 F := by
    rw [e2]
    exact holds_putRow id (Sort.ahead w1 q) g 0 (flatK encL 2 (sortC xs).toArray) F hH1 (by rw [hF, size_flatK])
  have hle : (ordC xs).length * 2 ≤ F.size := by
    rw [hF]
    have := compactUpTo_length_le (sortC xs).toArray (sortC xs).toArray.size
    show (compactUpTo (sortC xs).toArray (sortC xs).toArray.size).length * 2 ≤ _
    omega
  have hK : HoldsK encL 2 w2 g 0 (ordC xs).toArray := fun j hj => by
    rw [size_flatK] at hj
    have hj' : j < (ordC xs).length * 2 := by simpa using hj
    obtain ⟨c1, f1⟩ := hholds j (by omega)
    refine ⟨?_, f1⟩
    rw [c1]
    exact congrArg some (hFj j hj')
  have hrow := row_of_holds hK
  refine ⟨shut_own hok hg hb2 (Nat.le_trans (ordC_length xs) hn) hm (by rw [size_putCells_id, size_putCells_id, hs]) ?_, hB1.trans hB2, hK1.then_ hK2 (fun _ h => .inl h)⟩
  simpa using hrow
set_option maxHeartbeats 4000000 in
/-- The program's `ordered`, at a row of the call's own. -/
theorem ordered_own (base : Nat) (ok : Nat → Prop) (v : Value) (xs : List S80) (w : World) (hr : Kd.R k80 80 w base ok v xs) (hB : base ≤ w.heap.size) (hlen : xs.length < 4611686018427387904) :
    Calls Try.prog 67 #[v] w fun e w' => ∃ v', e = .returned v' ∧ Kd.R k80 80 w' base ok v' (ordC xs) ∧ Below base w w' ∧ Kept w w' ok := by
  rcases open_own hr with ⟨rfl, rfl⟩ | ⟨g, cap, cur, rfl, hok, hg, hb, hn, hm, hs, hrow⟩
  · have h1 := Aside0.mk (fun (W : World) => AnyF.slices_SortFunc_none Try.sortCh none 0 (.func (.func 73) #[] #[]) W)
    have h2 := Aside0.mk (fun (W : World) => compact_none W)
    have HR := Aside0.mk (show Kd.R k80 80 w base ok (.slice none 0 0) (ordC []) from by rw [ordC_nil]; exact hr)
    have HB := Aside0.mk hB
    clear hr hB hlen
    go_enter Try.func67, Try.ntmps67
    go_wp2_with (first | (go_at_call 72; refine (h1.out _).mono ?_; rintro e w' ⟨rfl, rfl⟩) | (go_at_call 74; refine (h2.out _).mono ?_; rintro e w' ⟨rfl, hb2⟩))
    go_ret
    exact ⟨_, rfl, Kd.R_below HR.out hb2, hb2.mono HB.out, Kept.of_below hb2 _⟩
  · have hH := holds_of hrow (unfrozen hb)
    have hgs : g < w.heap.size := (Array.getElem?_eq_some_iff.1 hb).1
    have h1 := Aside0.mk (sort_chord g cap xs w hH hgs hlen)
    have h2 := Aside0.mk (fun (w1 : World) (n : Nat) (os : Array Obj) (e : w1 = sortWorldK encL 2 w g 0 n (sortC xs).toArray os) =>
      compact_chord g cap (sortC xs).toArray w1 (by rw [e]; exact holdsK_sortWorldK_c encL 2 w g 0 xs.toArray (sortC xs).toArray n os hH hgs (by simp [sortC_length])) (by simp [sortC_length]; omega) (by simp [sortC_length]; exact hn))
    have h3 := Aside0.mk (fun (w1 w2 : World) (n : Nat) (os : Array Obj) (e1 : w1 = sortWorldK encL 2 w g 0 n (sortC xs).toArray os) (h2 : CompEnd w1 g (sortC xs).toArray w2) => ord_end hok hg hB hb hn hm hs hH e1 h2)
    have hsz : (sortC xs).toArray.size = xs.length := by simp [sortC_length]
    rw [hsz] at h2
    have HS := Aside0.mk hsz
    clear hr hok hg hb hn hm hs hrow hH hgs hB hlen hsz
    go_enter Try.func67, Try.ntmps67
    go_wp2_with (first | (go_at_call 72; refine h1.out.mono ?_; rintro e w1 ⟨rfl, n, os, hw1⟩; have HW := Aside0.mk hw1; clear hw1) | (go_at_call 74; refine (h2.out _ n os HW.out).mono ?_; rintro e w2 ⟨rfl, hc⟩))
    go_ret
    obtain ⟨r1, r2⟩ := h3.out _ _ n os HW.out hc
    refine ⟨_, rfl, ?_, r2⟩
    have e : (compactUpTo (sortC xs).toArray xs.length) = ordC xs := by
      unfold ordC
      rw [HS.out]
    rw [e]
    exact r1
def impl_ordered.f (l0 : List (S80)) : Option (List (S80)) := if l0.length < 4611686018427387904 then some (ordC l0) else none
theorem impl_ordered.calls (P0_ : Nat → Prop) (u9000_ : Value) (l0 : List (S80)) (r : List (S80)) (w0 w : World) (hB : Below w0.heap.size w0 w) (ho0 : Kd.R k80 80 w w0.heap.size P0_ u9000_ l0) (h : impl_ordered.f l0 = some r) :
    Calls Try.prog 67 #[u9000_] w fun e w' => ∃ v0_ : Value, e = .returned (v0_) ∧ Kd.R k80 80 w' w0.heap.size (fun k_ => (P0_ k_ ∨ w.heap.size ≤ k_)) v0_ r ∧ Below w0.heap.size w0 w' ∧ Kept w w' (fun k_ => P0_ k_) := by
  unfold impl_ordered.f at h
  by_cases hl : l0.length < 4611686018427387904
  · rw [if_pos hl] at h
    obtain rfl := oI h
    exact (ordered_own w0.heap.size P0_ u9000_ l0 w ho0 hB.size hl).mono fun e w' ⟨v', he, hr, hb, hk⟩ => ⟨v', he, Kd.R_mono hr (fun _ h => .inl h), hB.trans hb, hk⟩
  · rw [if_neg hl] at h
    cases h
end Go.Proofs.Ytcfcjpcoofjckaa.Pr
namespace Go.Proofs.Ytcfcjpcoofjckaa.Pr
open Go.RowKit Go.Proofs.YtcfcjpcoofjckaaW.PrintWords Go.Proofs.YtcfcjpcoofjckaaW.PrintLast Go.Proofs.YtcfcjpcoofjckaaW.PrintMore
attribute [local go_sem] max2_int min2_int max_two min_two max_three min_three max_four min_four
def impl_Star_chords.l0 : Nat → List (S80) → Int → Int → Int → Int → Option ((List (S80)))
 | 0, _, _, _, _, _ => none
 | k + 1, x3, x7, x8, x157000, x157001 => if x8 < x7 then (if x157000 = 0 then (none) else ((impl_chord.f x8 (Int.tmod (wrap64 (x8 + x157001)) x157000)).bind fun bt160 => (if x3.length < 8796093022208 then (impl_Star_chords.l0 k (x3 ++ [(⟨bt160.1, bt160.2⟩ : S80)]) x7 (wrap64 (x8 + 1)) x157000 x157001) else (none)))) else ((impl_ordered.f x3).bind fun t165 => (some t165))
def impl_Star_chords.f (k : Nat) (a0_0 : Int) (a0_1 : Int) : Option ((List (S80))) := impl_Star_chords.l0 k (([] : List (S80))) a0_0 0 a0_0 a0_1
theorem impl_Star_chords.mono_l : ∀ k, (∀ y0 y1 y2 y3 y4, LeO (impl_Star_chords.l0 k y0 y1 y2 y3 y4) (impl_Star_chords.l0 (k + 1) y0 y1 y2 y3 y4))
 | 0 => fun _ _ _ _ _ r h => by simp [impl_Star_chords.l0] at h
 | k + 1 => by
  have ih0 := impl_Star_chords.mono_l k
  ·intro y0 y1 y2 y3 y4
   unfold impl_Star_chords.l0
   repeat' first
   | (with_reducible exact ih0 _ _ _ _ _)
   | (with_reducible exact LeO.refl _)
   | (with_reducible exact LeO.none _)
   | (with_reducible refine LeO.ite ?_ ?_)
   | (with_reducible refine LeO.bind ?_ (fun _ => ?_))
   | exact ih0 _ _ _ _ _
   | exact LeO.none _
   | refine LeO.ite ?_ ?_
   | refine LeO.bind ?_ (fun _ => ?_)
theorem impl_Star_chords.mono : ∀ a0 a1 k, LeO (impl_Star_chords.f k a0 a1) (impl_Star_chords.f (k + 1) a0 a1) := by
 intro a0 a1 k
 have ih0 := impl_Star_chords.mono_l k
 unfold impl_Star_chords.f
 repeat' first
   | (with_reducible exact ih0 _ _ _ _ _)
   | (with_reducible exact LeO.refl _)
   | (with_reducible exact LeO.none _)
   | (with_reducible refine LeO.ite ?_ ?_)
   | (with_reducible refine LeO.bind ?_ (fun _ => ?_))
   | exact ih0 _ _ _ _ _
   | exact LeO.none _
   | refine LeO.ite ?_ ?_
   | refine LeO.bind ?_ (fun _ => ?_)
set_option maxHeartbeats 8000000 in
set_option maxRecDepth 100000 in
theorem impl_Star_chords.calls (k : Nat) (a0_0 : Int) (a0_1 : Int) (r : List (S80)) (w : World) (h : impl_Star_chords.f k a0_0 a0_1 = some r) :
  Calls Try.prog 58 #[.agg #[.int .i64 a0_0, .int .i64 a0_1]] w fun e w' => ∃ v0_ : Value, e = .returned (v0_) ∧ Kd.R k80 80 w' w.heap.size (fun _ => True) v0_ r ∧ Below w.heap.size w w' := by
 have hu49 := Try.underlying49
 have HB := Aside0.mk (Below.refl w.heap.size w)
 have H : (impl_Star_chords.l0 k (([] : List (S80))) a0_0 0 a0_0 a0_1) = some r := h
 clear h
 obtain ⟨y157, hy157⟩ : ∃ y_ : List (S80), y_ = (([] : List (S80))) := ⟨_, rfl⟩
 replace H : (impl_Star_chords.l0 k y157 a0_0 0 a0_0 a0_1) = some r := by first | (rw [hy157]; with_reducible exact H) | (have H2_ := (Option.bind_some _ _).symm.trans H; rw [hy157]; with_reducible exact H2_) | (have H2_ := (Option.bind_some _ _).symm.trans H; with_reducible exact H2_) | with_reducible exact H | (rw [hy157]; exact H) | exact H
 have Ny157 := Aside0.mk hy157
 clear hy157
 have H' := Aside0.mk H
 clear H
 go_enter Try.func58, Try.ntmps58
 go_wp2_with (first | ((with_reducible refine gate_dst (N := 1) rfl ?_); refine box_event ?hg (N := 1) ?hd (cs := #[.int .i64 a0_0, .int .i64 a0_1]) (t := 49) ?hr ?_; (case hd => rfl); (case hg => rfl); (case hr => first | (go_simp; done) | (go_simp; rfl)); intro gb156 hg w2 hbox hb; have n0_ := Aside0.mk (below_step hb_ hb); have n1_ := Aside0.mk (hbox); have n2_ := Aside0.mk ((by rw [hg]; exact (below_size hb_) : w.heap.size ≤ gb156)); have n3_ := Aside0.mk ((by rw [hg]; exact (below_size hb_) : w.heap.size ≤ gb156)); clear HB; have HB := n0_; have BK156 := n1_; have GW156 := n2_; have GE156 := n3_; clear n0_ n1_ n2_ n3_; clear hb hbox hg) | ((with_reducible refine gate_dst (N := 5) rfl ?_); refine Kd.R_lit k80 _ 80 ?hg (N := 5) ?hd (xs := ([] : List (S80))) (inner := []) (ok := fun _ => True) (okp := fun _ => True) ?hr ?hp (fun _ hk => hk) trivial (Below.refl _ _) (Nat.le_refl _) (by simp) ?_; (case hd => rfl); (case hg => rfl); (case hr => first | (go_simp; done) | (go_simp; rfl)); (case hp => exact (Reps.none _ _)); intro v158 w3 ho4 hb hg_ hnew_; clear hg_ hnew_; (first | rw [← Ny157.out] at ho4 | (simp only [Int.reduceToNat] at ho4; rw [← Ny157.out] at ho4)); have n0_ := Aside0.mk (Kd.R_lower ho4 (below_size (hs_ GE156.out))); have n1_ := Aside0.mk (blk_below (g := gb156) (o := .cells #[.int .i64 a0_0, .int .i64 a0_1] 49 (0, 0)) (kx_ BK156.out) hb); have n2_ := Aside0.mk (below_step (hs_ GE156.out) hb); clear BK156; clear HB; have HO159 := n0_; have BK156 := n1_; have HB := n2_; clear n0_ n1_ n2_; clear hb ho4; have hcz5_0 : w3.cell? ⟨gb156, 0, none⟩ = some (.int .i64 a0_0) := bc_ BK156 0; have hcz5_1 : w3.cell? ⟨gb156, 1, none⟩ = some (.int .i64 a0_1) := bc_ BK156 1; have hfz5_0 := blk_frozen BK156.out 0; have hfz5_1 := blk_frozen BK156.out 1))
 go_loopg [3, 8] k (fun kq v3 v8 w' => ∃ (x3_1 : List (S80)) (x8_1 : Int), v8 = .int .i64 x8_1 ∧ Aside0 (impl_Star_chords.l0 kq x3_1 a0_0 x8_1 a0_0 a0_1 = some r) ∧ Aside0 (kq ≤ k) ∧ Aside0 (Kd.R k80 80 w' w.heap.size (fun _ => True) v3 x3_1) ∧ Aside0 (w'.heap[gb156]? = some (.cells #[.int .i64 a0_0, .int .i64 a0_1] 49 (0, 0))) ∧ Aside0 (Below w.heap.size w w'))
 case atStart => exact ⟨(y157), (0), (by first | rfl | (simp; done) | (simp [*]; done)), H', ⟨Nat.le_refl _⟩, ⟨by (with_reducible repeat (first | apply rA | apply rN | apply rD)); exact HO159.out⟩, ⟨by (with_reducible repeat (first | refine kN ?_ _ | refine kD ?_ | refine kA ?_ _)); exact BK156.out⟩, ⟨hs_ GE156.out⟩⟩
 case round =>
  clear H'
  try clear p2
  try clear c5
  try clear hcz5_0
  try clear hcz5_1
  try clear hfz5_0
  try clear hfz5_1
  obtain ⟨x3_1, x8_1, rfl, HA, HK1, HO_3, BK156, HB⟩ := hrel
  cases gk with
  | zero => exact absurd HA.out (by simp [impl_Star_chords.l0])
  | succ k1 =>
   have H := HA.out
   clear HA
   simp only [impl_Star_chords.l0] at H
   by_cases c6 : x8_1 < a0_0
   ·rw [if_pos c6] at H
    have c6b0 : decide (x8_1 < a0_0) = true := decide_eq_true c6
    clear c6
    by_cases c7 : a0_0 = 0
    ·rw [if_pos c7] at H
     exact absurd H (by simp)
    ·rw [if_neg c7] at H
     have c7b0 : (a0_0 == 0) = false := beq_eq_false_iff_ne.mpr c7
     have c7b1 : (a0_0 != 0) = true := bne_iff_ne.mpr c7
     replace H := bI H
     obtain ⟨⟨t160, t161⟩, A80, H⟩ := H
     replace H : (if x3_1.length < 8796093022208 then (impl_Star_chords.l0 k1 (x3_1 ++ [(⟨t160, t161⟩ : S80)]) a0_0 (wrap64 (x8_1 + 1)) a0_0 a0_1) else (none)) = some r := H
     have A8 := Aside0.mk A80
     clear A80
     by_cases c9 : x3_1.length < 8796093022208
     ·rw [if_pos c9] at H
      have LMc9 := Aside0.mk c9
      clear c9
      obtain ⟨y162, hy162⟩ : ∃ y_ : List (S80), y_ = (x3_1 ++ [(⟨t160, t161⟩ : S80)]) := ⟨_, rfl⟩
      replace H : (impl_Star_chords.l0 k1 y162 a0_0 (wrap64 (x8_1 + 1)) a0_0 a0_1) = some r := by first | (rw [hy162]; with_reducible exact H) | (have H2_ := (Option.bind_some _ _).symm.trans H; rw [hy162]; with_reducible exact H2_) | (have H2_ := (Option.bind_some _ _).symm.trans H; with_reducible exact H2_) | with_reducible exact H | (rw [hy162]; exact H) | exact H
      have Ny162 := Aside0.mk hy162
      clear hy162
      have H' := Aside0.mk H
      clear H
      have hcz10_0 : wr.cell? ⟨gb156, 0, none⟩ = some (.int .i64 a0_0) := bc_ BK156 0
      have hcz10_1 : wr.cell? ⟨gb156, 1, none⟩ = some (.int .i64 a0_1) := bc_ BK156 1
      have hfz10_0 := blk_frozen BK156.out 0
      have hfz10_1 := blk_frozen BK156.out 1
      go_wp2_with (first | ((with_reducible refine gate_callee (f := 66) rfl ?_); refine goesL_ (some 20) rfl rfl Try.func66 (by kernel_rfl) rfl #[.int .i64 x8_1, .int .i64 (Int.tmod (wrap64 (x8_1 + a0_1)) a0_0)] rfl ar_ ?_; (with_reducible refine (impl_chord.calls x8_1 (Int.tmod (wrap64 (x8_1 + a0_1)) a0_0) t160 t161 _ A8.out).mono ?_); rintro e w11 ⟨rfl, hb⟩; refine ⟨_, rfl, ?_⟩; have n0_ := Aside0.mk (Kd.R_below (ra_ HO_3.out) hb); have n1_ := Aside0.mk (blk_below (g := gb156) (o := .cells #[.int .i64 a0_0, .int .i64 a0_1] 49 (0, 0)) (kx_ BK156.out) hb); have n2_ := Aside0.mk (below_step (hs_ GE156.out) hb); clear HO_3; clear BK156; clear HB; have HO_3 := n0_; have BK156 := n1_; have HB := n2_; clear n0_ n1_ n2_; (try clear hb); (try clear hb2); (try clear hk); (try clear hi)) | ((with_reducible refine gate_builtin (b := .append) (xs := #[.tmp 11, .tmp 21]) rfl ?_); at_builtin; refine Kd.R_append k80 (w0 := w) w.heap.size rfl (.tmp 11) (.tmp 21) 74 80 (.agg #[(.int .i64 0), (.int .i64 0)]) 16 rfl Try.underlying74 info80 rfl (by decide) (by omega) u3 x3_1 (⟨t160, t161⟩ : S80) [.int .i64 t160, .int .i64 t161] (fun _ => True) (fun _ => False) rfl rfl ?aP (fun _ hk => hk.elim) ?aF ?aO ?aB ?aS ?aL ?_; (case aP => exact k80_mkM _ _ _ (⟨t160, t161⟩ : S80)); (case aB => exact (hs_ GE156.out)); (case aF => exact (fun _ _ => trivial)); (case aO => exact (ra_ HO_3.out)); (case aS => exact (below_size (hs_ GE156.out))); (case aL => have := LMc9.out; omega); intro v163 w12 ho hb hg hat; rw [← Ny162.out] at ho; have n0_ := Aside0.mk (blk_grown (g := gb156) (o := .cells #[.int .i64 a0_0, .int .i64 a0_1] 49 (0, 0)) (kx_ BK156.out) hg (Kd.R_ne HO_3.out BK156.out (by decide))); have n1_ := Aside0.mk (hb); have n2_ := Aside0.mk (ho); clear BK156; clear HB; clear HO_3; have BK156 := n0_; have HB := n1_; have HO164 := n2_; clear n0_ n1_ n2_; clear ho hb hg hat))
      go_roundg k1
      case measure => have := HK1.out; omega
      case rel => exact ⟨(y162), (wrap64 (x8_1 + 1)), (by first | rfl | (simp; done) | (simp [*]; done)), H', ⟨by have := HK1.out; omega⟩, ⟨by (with_reducible repeat (first | apply rA | apply rN | apply rD)); exact HO164.out⟩, ⟨by (with_reducible repeat (first | refine kN ?_ _ | refine kD ?_ | refine kA ?_ _)); exact BK156.out⟩, ⟨hs_ GE156.out⟩⟩
     ·rw [if_neg c9] at H
      exact absurd H (by simp)
   ·rw [if_neg c6] at H
    have c6b0 : decide (x8_1 < a0_0) = false := decide_eq_false c6
    clear c6
    replace H := bI H
    obtain ⟨t165, A130, H⟩ := H
    replace H : (some t165) = some r := H
    have A13 := Aside0.mk A130
    clear A130
    obtain rfl := oI H
    obtain ⟨Ao14, co14, eo14⟩ := Kd.R_slice HO_3.out
    subst eo14
    go_wp2_with (first | ((with_reducible refine gate_callee (f := 67) rfl ?_); refine goesL_ (some 25) rfl rfl Try.func67 (by kernel_rfl) rfl #[.slice Ao14 x3_1.length co14] rfl ar_ ?_; (with_reducible refine (impl_ordered.calls (fun k_ => some k_ = (.slice Ao14 x3_1.length co14 : Value).ownBlock) (.slice Ao14 x3_1.length co14) x3_1 t165 w _ ?side1 ?side2 A13.out).mono ?_); (case side1 => repeat (first | (with_reducible first | exact HB.out | apply bA | apply bN | apply bD | refine below_set ?_ GE156.out) | exact HB.out)); (case side2 => exact Kd.R_tight rfl HO_3.out); rintro e w15 ⟨v166, rfl, ho0, hb, hkp⟩; refine ⟨_, rfl, ?_⟩; have n0_ := Aside0.mk (blk_kept (kx_ BK156.out) hkp (fun hs_ => (fun e_ => (Kd.R_ne HO_3.out BK156.out (by decide)) e_) hs_)); have n1_ := Aside0.mk (Kd.R_mono (ok' := fun k_ => True) ho0 (fun k_ hk_ => trivial)); have n2_ := Aside0.mk (hb); clear BK156; clear HB; clear HO_3; have BK156 := n0_; have HO167 := n1_; have HB := n2_; clear n0_ n1_ n2_; (try clear hb); (try clear hkp); (try clear ho0)))
    go_ret
    exact ⟨_, by first | rfl | (simp [errW_none, errW_some] <;> rfl) | (simp [*, errW_none, errW_some] <;> rfl), by (with_reducible repeat (first | apply rA | apply rN | apply rD)); exact HO167.out, hs_ GE156.out⟩
def impl_told.f (k : Nat) (a0 : Int) (a1_0 : Int) (a1_1 : Int) : Option (Int) := if a0 = 0 then (some a1_0) else (if a0 = 1 then ((impl_Star_strings.f k a1_0 a1_1).bind fun t169 => (some t169)) else (if a0 = 2 then ((impl_Star_strings.f k a1_0 a1_1).bind fun t170 => (if t170 = 0 then (none) else (some (wrap64 (Int.tdiv a1_1 t170))))) else (if a0 = 3 then ((impl_Star_chords.f k a1_0 a1_1).bind fun t171 => ((impl_crossings.f k t171).bind fun t174 => (some t174))) else ((impl_Star_chords.f k a1_0 a1_1).bind fun t175 => (some (t175.length : Int))))))
theorem impl_told.mono : ∀ a0 a1 a2 k, LeO (impl_told.f k a0 a1 a2) (impl_told.f (k + 1) a0 a1 a2) := by
 intro a0 a1 a2 k
 unfold impl_told.f
 repeat' first
   | (with_reducible exact impl_Star_chords.mono _ _ _)
   | (with_reducible exact impl_Star_strings.mono _ _ _)
   | (with_reducible exact impl_crossings.mono _ _)
   | (with_reducible exact LeO.refl _)
   | (with_reducible exact LeO.none _)
   | (with_reducible refine LeO.ite ?_ ?_)
   | (with_reducible refine LeO.bind ?_ (fun _ => ?_))
   | exact impl_Star_chords.mono _ _ _
   | exact impl_Star_strings.mono _ _ _
   | exact impl_crossings.mono _ _
   | exact LeO.none _
   | refine LeO.ite ?_ ?_
   | refine LeO.bind ?_ (fun _ => ?_)
set_option maxHeartbeats 8000000 in
set_option maxRecDepth 100000 in
theorem impl_told.calls (k : Nat) (a0 : Int) (a1_0 : Int) (a1_1 : Int) (r : Int) (w : World) (h : impl_told.f k a0 a1_0 a1_1 = some r) :
  Calls Try.prog 49 #[.int .i64 a0, .agg #[.int .i64 a1_0, .int .i64 a1_1]] w fun e w' => e = .returned (.int .i64 r) ∧ Below w.heap.size w w' := by
 have hu49 := Try.underlying49
 have HB := Aside0.mk (Below.refl w.heap.size w)
 have H : (if a0 = 0 then (some a1_0) else (if a0 = 1 then ((impl_Star_strings.f k a1_0 a1_1).bind fun t169 => (some t169)) else (if a0 = 2 then ((impl_Star_strings.f k a1_0 a1_1).bind fun t170 => (if t170 = 0 then (none) else (some (wrap64 (Int.tdiv a1_1 t170))))) else (if a0 = 3 then ((impl_Star_chords.f k a1_0 a1_1).bind fun t171 => ((impl_crossings.f k t171).bind fun t174 => (some t174))) else ((impl_Star_chords.f k a1_0 a1_1).bind fun t175 => (some (t175.length : Int))))))) = some r := h
 clear h
 by_cases c3 : a0 = 0
 ·rw [if_pos c3] at H
  have c3b0 : (a0 == 0) = true := beq_iff_eq.mpr c3
  have c3b1 : (a0 != 0) = false := bne_eq_false_iff_eq.mpr c3
  clear c3
  obtain rfl := oI H
  go_enter Try.func49, Try.ntmps49
  go_wp2_with (first | ((with_reducible refine gate_dst (N := 3) rfl ?_); refine box_event ?hg (N := 3) ?hd (cs := #[.int .i64 a1_0, .int .i64 a1_1]) (t := 49) ?hr ?_; (case hd => rfl); (case hg => rfl); (case hr => first | (go_simp; done) | (go_simp; rfl)); intro gb168 hg w4 hbox hb; have n0_ := Aside0.mk (below_step hb_ hb); have n1_ := Aside0.mk (hbox); have n2_ := Aside0.mk ((by rw [hg]; exact (below_size hb_) : w.heap.size ≤ gb168)); have n3_ := Aside0.mk ((by rw [hg]; exact (below_size hb_) : w.heap.size ≤ gb168)); clear HB; have HB := n0_; have BK168 := n1_; have GW168 := n2_; have GE168 := n3_; clear n0_ n1_ n2_ n3_; clear hb hbox hg; have hcz5_0 : w4.cell? ⟨gb168, 0, none⟩ = some (.int .i64 a1_0) := bc_ BK168 0; have hcz5_1 : w4.cell? ⟨gb168, 1, none⟩ = some (.int .i64 a1_1) := bc_ BK168 1; have hfz5_0 := blk_frozen BK168.out 0; have hfz5_1 := blk_frozen BK168.out 1))
  go_ret
  exact ⟨by first | rfl | (simp [errW_none, errW_some] <;> rfl) | (simp [*, errW_none, errW_some] <;> rfl), hs_ GE168.out⟩
 ·rw [if_neg c3] at H
  have c3b0 : (a0 == 0) = false := beq_eq_false_iff_ne.mpr c3
  have c3b1 : (a0 != 0) = true := bne_iff_ne.mpr c3
  by_cases c6 : a0 = 1
  ·rw [if_pos c6] at H
   have c6b0 : (a0 == 1) = true := beq_iff_eq.mpr c6
   have c6b1 : (a0 != 1) = false := bne_eq_false_iff_eq.mpr c6
   clear c6
   replace H := bI H
   obtain ⟨t169, A70, H⟩ := H
   replace H : (some t169) = some r := H
   have A7 := Aside0.mk A70
   clear A70
   obtain rfl := oI H
   go_enter Try.func49, Try.ntmps49
   go_wp2_with (first | ((with_reducible refine gate_dst (N := 3) rfl ?_); refine box_event ?hg (N := 3) ?hd (cs := #[.int .i64 a1_0, .int .i64 a1_1]) (t := 49) ?hr ?_; (case hd => rfl); (case hg => rfl); (case hr => first | (go_simp; done) | (go_simp; rfl)); intro gb168 hg w8 hbox hb; have n0_ := Aside0.mk (below_step hb_ hb); have n1_ := Aside0.mk (hbox); have n2_ := Aside0.mk ((by rw [hg]; exact (below_size hb_) : w.heap.size ≤ gb168)); have n3_ := Aside0.mk ((by rw [hg]; exact (below_size hb_) : w.heap.size ≤ gb168)); clear HB; have HB := n0_; have BK168 := n1_; have GW168 := n2_; have GE168 := n3_; clear n0_ n1_ n2_ n3_; clear hb hbox hg; have hcz9_0 : w8.cell? ⟨gb168, 0, none⟩ = some (.int .i64 a1_0) := bc_ BK168 0; have hcz9_1 : w8.cell? ⟨gb168, 1, none⟩ = some (.int .i64 a1_1) := bc_ BK168 1; have hfz9_0 := blk_frozen BK168.out 0; have hfz9_1 := blk_frozen BK168.out 1) | ((with_reducible refine gate_callee (f := 56) rfl ?_); refine goesL_ (some 13) rfl rfl Try.func56 (by kernel_rfl) rfl #[.agg #[.int .i64 a1_0, .int .i64 a1_1]] rfl ar_ ?_; (with_reducible refine (impl_Star_strings.calls k a1_0 a1_1 t169 _ A7.out).mono ?_); rintro e w10 ⟨rfl, hb⟩; refine ⟨_, rfl, ?_⟩; have n0_ := Aside0.mk (blk_below (g := gb168) (o := .cells #[.int .i64 a1_0, .int .i64 a1_1] 49 (0, 0)) (kx_ BK168.out) hb); have n1_ := Aside0.mk (below_step (hs_ GE168.out) hb); clear BK168; clear HB; have BK168 := n0_; have HB := n1_; clear n0_ n1_; (try clear hb); (try clear hb2); (try clear hk); (try clear hi)))
   go_ret
   exact ⟨by first | rfl | (simp [errW_none, errW_some] <;> rfl) | (simp [*, errW_none, errW_some] <;> rfl), hs_ GE168.out⟩
  ·rw [if_neg c6] at H
   have c6b0 : (a0 == 1) = false := beq_eq_false_iff_ne.mpr c6
   have c6b1 : (a0 != 1) = true := bne_iff_ne.mpr c6
   by_cases c11 : a0 = 2
   ·rw [if_pos c11] at H
    have c11b0 : (a0 == 2) = true := beq_iff_eq.mpr c11
    have c11b1 : (a0 != 2) = false := bne_eq_false_iff_eq.mpr c11
    clear c11
    replace H := bI H
    obtain ⟨t170, A120, H⟩ := H
    replace H : (if t170 = 0 then (none) else (some (wrap64 (Int.tdiv a1_1 t170)))) = some r := H
    have A12 := Aside0.mk A120
    clear A120
    by_cases c13 : t170 = 0
    ·rw [if_pos c13] at H
     exact absurd H (by simp)
    ·rw [if_neg c13] at H
     have c13b0 : (t170 == 0) = false := beq_eq_false_iff_ne.mpr c13
     have c13b1 : (t170 != 0) = true := bne_iff_ne.mpr c13
     obtain rfl := oI H
     go_enter Try.func49, Try.ntmps49
     try go_wp2_with (first | ((with_reducible refine gate_dst (N := 3) rfl ?_); refine box_event ?hg (N := 3) ?hd (cs := #[.int .i64 a1_0, .int .i64 a1_1]) (t := 49) ?hr ?_; (case hd => rfl); (case hg => rfl); (case hr => first | (go_simp; done) | (go_simp; rfl)); intro gb168 hg w14 hbox hb; have n0_ := Aside0.mk (below_step hb_ hb); have n1_ := Aside0.mk (hbox); have n2_ := Aside0.mk ((by rw [hg]; exact (below_size hb_) : w.heap.size ≤ gb168)); have n3_ := Aside0.mk ((by rw [hg]; exact (below_size hb_) : w.heap.size ≤ gb168)); clear HB; have HB := n0_; have BK168 := n1_; have GW168 := n2_; have GE168 := n3_; clear n0_ n1_ n2_ n3_; clear hb hbox hg))
     have n0_ := Aside0.mk (blk_drew BK168.out)
     have n1_ := Aside0.mk (below_drew1 HB.out)
     clear BK168
     clear HB
     have BK168 := n0_
     have HB := n1_
     clear n0_ n1_
     refine start_ (n := 6) (S := fun w' => w'.cell? ⟨gb168, 0, none⟩ = some (.int .i64 a1_0) ∧ w'.cell? ⟨gb168, 1, none⟩ = some (.int .i64 a1_1)) (ds := []) #[false, false, false, false, false, false] (by kernel_rfl) rfl rfl ⟨bc_ BK168 0, bc_ BK168 1⟩ (fun hHeld => ?_)
     generalize w14.drew = w15 at BK168 HB hHeld ⊢
     refine pure_ (i := 0) (N := some 16) (v := ?_) (a' := ?_) #[true, false, false, false, false, false] rfl rfl (by kernel_rfl) (fun _ _ _ h => h) (Or.inl ⟨by rfl, ?_⟩) ?_ ?_
     rotate_left
     ·intro w'
      go_simp
      with_reducible rfl
     rotate_left
     ·simp only [Act.put, sT, sZ, sS, i64_w, i32_w]
      rfl
     refine take_ (i := 1) (N := some 17) (v := ?_) (a' := ?_) #[true, true, false, false, false, false] rfl rfl (by kernel_rfl) (fun _ _ _ h => h) (Or.inl ⟨by rfl, ?_⟩) hHeld ?_ ?_
     rotate_left
     ·rintro w' ⟨s0, s1⟩
      go_simp
      with_reducible rfl
     rotate_left
     ·simp only [Act.put, sT, sZ, sS, i64_w, i32_w]
      rfl
     refine take_ (i := 2) (N := some 18) (v := ?_) (a' := ?_) #[true, true, true, false, false, false] rfl rfl (by kernel_rfl) (fun _ _ _ h => h) (Or.inl ⟨by rfl, ?_⟩) hHeld ?_ ?_
     rotate_left
     ·rintro w' ⟨s0, s1⟩
      go_simp
      with_reducible rfl
     rotate_left
     ·simp only [Act.put, sT, sZ, sS, i64_w, i32_w]
      rfl
     refine one_ (i := 3) (N := some 19) #[true, true, true, true, false, false] rfl rfl (by kernel_rfl) (by decide) (fun K hK => ?_)
     refine goes_ Try.func56 (by kernel_rfl) rfl #[.agg #[.int .i64 a1_0, .int .i64 a1_1]] (by rfl) rfl rfl ar_ ?_
     with_reducible refine (impl_Star_strings.calls k a1_0 a1_1 t170 _ A12.out).mono ?_
     rintro e w16 ⟨rfl, hb⟩
     refine ⟨_, rfl, ?_⟩
     have n0_ := Aside0.mk (blk_below (g := gb168) (o := .cells #[.int .i64 a1_0, .int .i64 a1_1] 49 (0, 0)) (kx_ BK168.out) hb)
     have n1_ := Aside0.mk (below_step (hs_ GE168.out) hb)
     clear BK168
     clear HB
     have BK168 := n0_
     have HB := n1_
     clear n0_ n1_
     (try clear hb)
     (try clear hb2)
     (try clear hk)
     (try clear hi)
     refine hK.out _ _ ⟨bc_ BK168 0, bc_ BK168 1⟩ (fun hHeld => ?_)
     clear hK K
     refine norm_ (a' := ?_) ?_ ?_
     rotate_left
     ·show Act.put _ (some 19) _ = _
      simp only [Act.put, sT, sZ, sS, i64_w, i32_w]
      rfl
     refine pure_ (i := 4) (N := some 20) (v := ?_) (a' := ?_) #[true, true, true, true, true, false] rfl rfl (by kernel_rfl) (fun _ _ _ h => h) (Or.inl ⟨by rfl, ?_⟩) ?_ ?_
     rotate_left
     ·intro w'
      go_simp
      with_reducible rfl
     rotate_left
     ·simp only [Act.put, sT, sZ, sS, i64_w, i32_w]
      rfl
     refine pure_ (i := 5) (N := some 4) (v := ?_) (a' := ?_) #[true, true, true, true, true, true] rfl rfl (by kernel_rfl) (fun _ _ _ h => h) (Or.inl ⟨by rfl, ?_⟩) ?_ ?_
     rotate_left
     ·intro w'
      go_simp
      with_reducible rfl
     rotate_left
     ·simp only [Act.put, sT, sZ, sS, i64_w, i32_w]
      rfl
     refine done_ (by kernel_rfl) ?_
     try go_wp2
     go_ret
     exact ⟨by first | rfl | (simp [errW_none, errW_some] <;> rfl) | (simp [*, errW_none, errW_some] <;> rfl), hs_ GE168.out⟩
   ·rw [if_neg c11] at H
    have c11b0 : (a0 == 2) = false := beq_eq_false_iff_ne.mpr c11
    have c11b1 : (a0 != 2) = true := bne_iff_ne.mpr c11
    by_cases c17 : a0 = 3
    ·rw [if_pos c17] at H
     have c17b0 : (a0 == 3) = true := beq_iff_eq.mpr c17
     have c17b1 : (a0 != 3) = false := bne_eq_false_iff_eq.mpr c17
     clear c17
     replace H := bI H
     obtain ⟨t171, A180, H⟩ := H
     replace H : ((impl_crossings.f k t171).bind fun t174 => (some t174)) = some r := H
     have A18 := Aside0.mk A180
     clear A180
     replace H := bI H
     obtain ⟨t174, A190, H⟩ := H
     replace H : (some t174) = some r := H
     have A19 := Aside0.mk A190
     clear A190
     obtain rfl := oI H
     go_enter Try.func49, Try.ntmps49
     go_wp2_with (first | ((with_reducible refine gate_dst (N := 3) rfl ?_); refine box_event ?hg (N := 3) ?hd (cs := #[.int .i64 a1_0, .int .i64 a1_1]) (t := 49) ?hr ?_; (case hd => rfl); (case hg => rfl); (case hr => first | (go_simp; done) | (go_simp; rfl)); intro gb168 hg w20 hbox hb; have n0_ := Aside0.mk (below_step hb_ hb); have n1_ := Aside0.mk (hbox); have n2_ := Aside0.mk ((by rw [hg]; exact (below_size hb_) : w.heap.size ≤ gb168)); have n3_ := Aside0.mk ((by rw [hg]; exact (below_size hb_) : w.heap.size ≤ gb168)); clear HB; have HB := n0_; have BK168 := n1_; have GW168 := n2_; have GE168 := n3_; clear n0_ n1_ n2_ n3_; clear hb hbox hg; have hcz21_0 : w20.cell? ⟨gb168, 0, none⟩ = some (.int .i64 a1_0) := bc_ BK168 0; have hcz21_1 : w20.cell? ⟨gb168, 1, none⟩ = some (.int .i64 a1_1) := bc_ BK168 1; have hfz21_0 := blk_frozen BK168.out 0; have hfz21_1 := blk_frozen BK168.out 1) | ((with_reducible refine gate_callee (f := 58) rfl ?_); refine goesL_ (some 24) rfl rfl Try.func58 (by kernel_rfl) rfl #[.agg #[.int .i64 a1_0, .int .i64 a1_1]] rfl ar_ ?_; (with_reducible refine (impl_Star_chords.calls k a1_0 a1_1 t171 _ A18.out).mono ?_); rintro e w22 ⟨v172, rfl, ho0, hb⟩; refine ⟨_, rfl, ?_⟩; have n0_ := Aside0.mk (Kd.R_lower ho0 (below_size (hs_ GE168.out))); have n1_ := Aside0.mk (blk_below (g := gb168) (o := .cells #[.int .i64 a1_0, .int .i64 a1_1] 49 (0, 0)) (kx_ BK168.out) hb); have n2_ := Aside0.mk (below_step (hs_ GE168.out) hb); clear BK168; clear HB; have HO173 := n0_; have BK168 := n1_; have HB := n2_; clear n0_ n1_ n2_; (try clear hb); (try clear hb2); (try clear hk); (try clear hi); (try clear ho0); obtain ⟨Ao23, co23, eo23⟩ := Kd.R_slice HO173.out; subst eo23) | ((with_reducible refine gate_callee (f := 57) rfl ?_); refine goesL_ (some 25) rfl rfl Try.func57 (by kernel_rfl) rfl #[.slice Ao23 t171.length co23] rfl ar_ ?_; (with_reducible refine (impl_crossings.calls k _ _ t171 t174 _ ?side1 ?side2 A19.out).mono ?_); (case side1 => repeat (first | exact (Kd.R_reads' HO173.out).2.2 | (with_reducible refine Kd.C_alloc ?_ _) | (with_reducible refine Kd.C_drewN ?_ _) | (with_reducible refine Kd.C_drew ?_))); (case side2 => exact (Kd.R_reads' HO173.out).2.1); rintro e w24 ⟨rfl, hb⟩; refine ⟨_, rfl, ?_⟩; have n0_ := Aside0.mk (Kd.R_below (ra_ HO173.out) hb); have n1_ := Aside0.mk (blk_below (g := gb168) (o := .cells #[.int .i64 a1_0, .int .i64 a1_1] 49 (0, 0)) (kx_ BK168.out) hb); have n2_ := Aside0.mk (below_step (hs_ GE168.out) hb); clear HO173; clear BK168; clear HB; have HO173 := n0_; have BK168 := n1_; have HB := n2_; clear n0_ n1_ n2_; (try clear hb); (try clear hb2); (try clear hk); (try clear hi)))
     go_ret
     exact ⟨by first | rfl | (simp [errW_none, errW_some] <;> rfl) | (simp [*, errW_none, errW_some] <;> rfl), hs_ GE168.out⟩
    ·rw [if_neg c17] at H
     have c17b0 : (a0 == 3) = false := beq_eq_false_iff_ne.mpr c17
     have c17b1 : (a0 != 3) = true := bne_iff_ne.mpr c17
     replace H := bI H
     obtain ⟨t175, A250, H⟩ := H
     replace H : (some (t175.length : Int)) = some r := H
     have A25 := Aside0.mk A250
     clear A250
     obtain rfl := oI H
     go_enter Try.func49, Try.ntmps49
     go_wp2_with (first | ((with_reducible refine gate_dst (N := 3) rfl ?_); refine box_event ?hg (N := 3) ?hd (cs := #[.int .i64 a1_0, .int .i64 a1_1]) (t := 49) ?hr ?_; (case hd => rfl); (case hg => rfl); (case hr => first | (go_simp; done) | (go_simp; rfl)); intro gb168 hg w26 hbox hb; have n0_ := Aside0.mk (below_step hb_ hb); have n1_ := Aside0.mk (hbox); have n2_ := Aside0.mk ((by rw [hg]; exact (below_size hb_) : w.heap.size ≤ gb168)); have n3_ := Aside0.mk ((by rw [hg]; exact (below_size hb_) : w.heap.size ≤ gb168)); clear HB; have HB := n0_; have BK168 := n1_; have GW168 := n2_; have GE168 := n3_; clear n0_ n1_ n2_ n3_; clear hb hbox hg; have hcz27_0 : w26.cell? ⟨gb168, 0, none⟩ = some (.int .i64 a1_0) := bc_ BK168 0; have hcz27_1 : w26.cell? ⟨gb168, 1, none⟩ = some (.int .i64 a1_1) := bc_ BK168 1; have hfz27_0 := blk_frozen BK168.out 0; have hfz27_1 := blk_frozen BK168.out 1) | ((with_reducible refine gate_callee (f := 58) rfl ?_); refine goesL_ (some 27) rfl rfl Try.func58 (by kernel_rfl) rfl #[.agg #[.int .i64 a1_0, .int .i64 a1_1]] rfl ar_ ?_; (with_reducible refine (impl_Star_chords.calls k a1_0 a1_1 t175 _ A25.out).mono ?_); rintro e w28 ⟨v176, rfl, ho0, hb⟩; refine ⟨_, rfl, ?_⟩; have n0_ := Aside0.mk (Kd.R_lower ho0 (below_size (hs_ GE168.out))); have n1_ := Aside0.mk (blk_below (g := gb168) (o := .cells #[.int .i64 a1_0, .int .i64 a1_1] 49 (0, 0)) (kx_ BK168.out) hb); have n2_ := Aside0.mk (below_step (hs_ GE168.out) hb); clear BK168; clear HB; have HO177 := n0_; have BK168 := n1_; have HB := n2_; clear n0_ n1_ n2_; (try clear hb); (try clear hb2); (try clear hk); (try clear hi); (try clear ho0); obtain ⟨Ao29, co29, eo29⟩ := Kd.R_slice HO177.out; subst eo29))
     go_ret
     exact ⟨by first | rfl | (simp [errW_none, errW_some] <;> rfl) | (simp [*, errW_none, errW_some] <;> rfl), hs_ GE168.out⟩
end Go.Proofs.Ytcfcjpcoofjckaa.Pr
/- What the program's MakePuzzle computes. -/
namespace Go.Proofs.Ytcfcjpcoofjckaa.Pr
open Go.RowKit Go.Proofs.YtcfcjpcoofjckaaW.PrintWords Go.Proofs.YtcfcjpcoofjckaaW.PrintLast Go.Proofs.YtcfcjpcoofjckaaW.PrintMore
/-- The next number. -/
def nextZ (z : Int) : Int := Int.tmod (wrap64 (wrap64 (z * 199) + 2347)) 10007
/-- Clues that a star fits, behind those that are there. -/
def mkF (k : Nat) (n s : Int) : Nat → Int → List S25 → Option (List S25)
  | 0, _, out => some out
  | d + 1, z, out => if Int.tmod (nextZ z) 6 = 4 then (if n = 0 then none else mkF k n s d (nextZ (nextZ z)) (out ++ [⟨Int.tmod (nextZ z) 6, Int.tmod (nextZ (nextZ z)) n, Int.tmod (wrap64 (Int.tmod (nextZ (nextZ z)) n + s)) n⟩]))
      else (impl_told.f k (Int.tmod (nextZ z) 6) n s).bind fun v => mkF k n s d (nextZ (nextZ z)) (out ++ [⟨Int.tmod (nextZ z) 6, v, 0⟩])
def impl_MakePuzzle.f (k : Nat) (a0_0 : Int) (a0_1 : Int) (a1 : Int) (a2 : Int) : Option ((List (S25)) × Bool) :=
  (impl_isHidden.f a0_0 a0_1).bind fun h => if h = true ∧ (0 ≤ a1 ∧ a1 ≤ 6) ∧ 0 ≤ a2 ∧ a2 ≤ 9999 then (mkF k a0_0 a0_1 a1.toNat a2 []).bind fun out => some (out, true) else some ([], false)
theorem mkF_mono (n s : Int) : ∀ (d : Nat) (z : Int) (out : List S25) (k : Nat), LeO (mkF k n s d z out) (mkF (k + 1) n s d z out)
  | 0, _, _, _ => LeO.refl _
  | d + 1, z, out, k => by
    rw [mkF, mkF]
    exact LeO.ite (LeO.ite (LeO.refl _) (mkF_mono n s d _ _ k)) (LeO.bind (impl_told.mono _ _ _ _) (fun _ => mkF_mono n s d _ _ k))
theorem impl_MakePuzzle.mono : ∀ a0 a1 a2 a3 k, LeO (impl_MakePuzzle.f k a0 a1 a2 a3) (impl_MakePuzzle.f (k + 1) a0 a1 a2 a3) := by
  intro a0 a1 a2 a3 k
  unfold impl_MakePuzzle.f
  exact LeO.bind (LeO.refl _) (fun _ => LeO.ite (LeO.bind (mkF_mono _ _ _ _ _ _) (fun _ => LeO.refl _)) (LeO.refl _))
/-- What lies in the blocks of the call's own. -/
structure MkW (w W : World) (b3 b6 b8 b10 : Nat) (n s z : Int) (v : Value) (out : List S25) : Prop where
  below : Below w.heap.size w W
  lo : w.heap.size ≤ b3
  o1 : b3 < b6
  o2 : b6 < b8
  o3 : b8 < b10
  hi : b10 < W.heap.size
  star : W.heap[b3]? = some (.cells #[.int .i64 n, .int .i64 s] 49 (0, 0))
  res : W.heap[b6]? = some (.cells #[.slice none 0 0] 35 (0, 0))
  zc : W.heap[b8]? = some (.cells #[.int .i64 z] 3 (0, 0))
  oc : W.heap[b10]? = some (.cells #[v] 35 (0, 0))
  row : Kd.R k25 25 W w.heap.size (fun k => b10 < k) v out
section
variable {w W : World} {b3 b6 b8 b10 : Nat} {n s z : Int} {v : Value} {out : List S25}
theorem MkW.same (H : MkW w W b3 b6 b8 b10 n s z v out) {W' : World} (hb : Below w.heap.size w W') (hs : W.heap.size ≤ W'.heap.size) (h : ∀ g, g < b10 → W'.heap[g]? = W.heap[g]?) {v' : Value} {out' : List S25} (ho : W'.heap[b10]? = some (.cells #[v'] 35 (0, 0))) (hr : Kd.R k25 25 W' w.heap.size (fun k => b10 < k) v' out') : MkW w W' b3 b6 b8 b10 n s z v' out' := by
  have := H.o1; have := H.o2; have := H.o3; have := H.hi
  exact ⟨hb, H.lo, H.o1, H.o2, H.o3, by omega, (h b3 (by omega)).trans H.star, (h b6 (by omega)).trans H.res, (h b8 (by omega)).trans H.zc, ho, hr⟩
theorem MkW.go (H : MkW w W b3 b6 b8 b10 n s z v out) {W' : World} (hb : Below W.heap.size W W') : MkW w W' b3 b6 b8 b10 n s z v out := by
  have := H.lo; have := H.o1; have := H.o2; have := H.o3; have := H.hi
  exact H.same (H.below.trans (hb.mono (by omega))) hb.size (fun g hg => hb.block g (by omega)) ((hb.block _ (by omega)).trans H.oc) (Kd.R_below H.row hb)
theorem one_at {W : World} {b t : Nat} {u : Value} (h : W.heap[b]? = some (.cells #[u] t (0, 0))) : W.cell? ⟨b, 0, none⟩ = some u ∧ W.frozen? ⟨b, 0, none⟩ = false := by
  constructor <;> simp [World.cell?, World.frozen?, h]
theorem two_at {W : World} {b t : Nat} {u v : Value} (h : W.heap[b]? = some (.cells #[u, v] t (0, 0))) : W.cell? ⟨b, 0, none⟩ = some u ∧ W.cell? ⟨b, 1, none⟩ = some v := by
  constructor <;> simp [World.cell?, h]
/-- A new number. -/
theorem MkW.put (H : MkW w W b3 b6 b8 b10 n s z v out) (z' : Int) : MkW w (W.setCell ⟨b8, 0, none⟩ (.int .i64 z')) b3 b6 b8 b10 n s z' v out ∧ (W.setCell ⟨b8, 0, none⟩ (.int .i64 z')).heap.size = W.heap.size ∧ ∀ g, g ≠ b8 → (W.setCell ⟨b8, 0, none⟩ (.int .i64 z')).heap[g]? = W.heap[g]? := by
  have := H.lo; have := H.o1; have := H.o2; have := H.o3; have := H.hi
  have e : W.setCell ⟨b8, 0, none⟩ (.int .i64 z') = W.setRow b8 ((#[.int .i64 z] : Array Value).setIfInBounds 0 (.int .i64 z')) := setCell_eq_setRow W _ 0 _ 3 (0, 0) _ H.zc
  have hs : (W.setRow b8 ((#[.int .i64 z] : Array Value).setIfInBounds 0 (.int .i64 z'))).heap.size = W.heap.size := by simp [World.setRow]
  have ho : ∀ g, g ≠ b8 → (W.setRow b8 ((#[.int .i64 z] : Array Value).setIfInBounds 0 (.int .i64 z'))).heap[g]? = W.heap[g]? := fun g hg => setRow_other W b8 g _ hg
  rw [e]
  refine ⟨⟨H.below.trans ⟨rfl, rfl, rfl, Nat.le_of_eq hs.symm, fun k hk => ho k (by omega)⟩, H.lo, H.o1, H.o2, H.o3, by rw [hs]; exact H.hi, (ho b3 (by omega)).trans H.star, (ho b6 (by omega)).trans H.res, ?_, (ho b10 (by omega)).trans H.oc, ?_⟩, hs, ho⟩
  · rw [setRow_heap W _ _ _ 3 _ H.zc]
    rfl
  · rw [← e]
    exact Kd.R_far (p := ⟨b8, 0, none⟩) H.row (fun k hk => by have hk : b10 < k := hk; show k ≠ b8; omega) _
/-- A clue more, stored. -/
theorem MkW.app (H : MkW w W b3 b6 b8 b10 n s z v out) {w1 : World} {v1 : Value} {c : S25} (hb : Below w.heap.size w w1) (hg : W.grownBy w1 v.ownBlock) (hr : Kd.R k25 25 w1 w.heap.size (fun k => b10 < k) v1 (out ++ [c])) : MkW w (w1.setCell ⟨b10, 0, none⟩ v1) b3 b6 b8 b10 n s z v1 (out ++ [c]) := by
  have := H.lo; have := H.o1; have := H.o2; have := H.o3; have := H.hi
  have hne : ∀ g, g ≤ b10 → some g ≠ v.ownBlock := fun g hg e => by have := H.row.1 g e.symm; simp at this; omega
  have hoc : w1.heap[b10]? = some (.cells #[v] 35 (0, 0)) := (hg.block b10 H.hi (hne _ (by omega))).trans H.oc
  have e : w1.setCell ⟨b10, 0, none⟩ v1 = w1.setRow b10 ((#[v] : Array Value).setIfInBounds 0 v1) := setCell_eq_setRow w1 _ 0 _ 35 (0, 0) _ hoc
  have hs : (w1.setRow b10 ((#[v] : Array Value).setIfInBounds 0 v1)).heap.size = w1.heap.size := by simp [World.setRow]
  have ho : ∀ g, g ≠ b10 → (w1.setRow b10 ((#[v] : Array Value).setIfInBounds 0 v1)).heap[g]? = w1.heap[g]? := fun g hg => setRow_other w1 b10 g _ hg
  rw [e]
  refine H.same (W' := w1.setRow b10 ((#[v] : Array Value).setIfInBounds 0 v1)) (hb.trans ⟨rfl, rfl, rfl, Nat.le_of_eq hs.symm, fun k hk => ho k (by omega)⟩) (by rw [hs]; exact hg.size) (fun g hg2 => (ho g (by omega)).trans (hg.block g (by omega) (hne g (by omega)))) ?_ ?_
  · rw [setRow_heap w1 _ _ _ 35 _ hoc]
    rfl
  · rw [← e]
    exact Kd.R_far (p := ⟨b10, 0, none⟩) hr (fun k hk => by have hk : b10 < k := hk; show k ≠ b10; omega) _
end
theorem next_calls (W : World) (b8 : Nat) (z : Int) (h : W.heap[b8]? = some (.cells #[.int .i64 z] 3 (0, 0))) : Calls Try.prog 48 #[.pointer (some ⟨b8, 0, none⟩)] W fun e w' => e = .returned (.int .i64 (nextZ z)) ∧ w' = W.setCell ⟨b8, 0, none⟩ (.int .i64 (nextZ z)) := by
  obtain ⟨h1, h2⟩ := one_at h
  have hlt : b8 < W.heap.size := (Array.getElem?_eq_some_iff.1 h).1
  unfold nextZ
  go_enter Try.func48, Try.ntmps48
  go_wp2_with fail
  go_ret
  exact ⟨rfl, rfl⟩
section
variable {w W : World} {b3 b6 b8 b10 : Nat} {n s z : Int} {v : Value} {out : List S25}
/-- A store into a block that was laid later than the row. -/
theorem MkW.far (H : MkW w W b3 b6 b8 b10 n s z v out) {B : Nat} (hB : b10 < B) (hr : Kd.R k25 25 W w.heap.size (fun k => b10 < k ∧ k < B) v out) (i : Nat) (u : Value) : MkW w (W.setCell ⟨B, i, none⟩ u) b3 b6 b8 b10 n s z v out ∧ Kd.R k25 25 (W.setCell ⟨B, i, none⟩ u) w.heap.size (fun k => b10 < k ∧ k < B) v out := by
  have := H.lo; have := H.o1; have := H.o2; have := H.o3; have := H.hi
  have ho : ∀ g, g ≠ B → (W.setCell ⟨B, i, none⟩ u).heap[g]? = W.heap[g]? := fun g hg => Below.heap_setCell W ⟨B, i, none⟩ u g hg
  have hr2 : Kd.R k25 25 (W.setCell ⟨B, i, none⟩ u) w.heap.size (fun k => b10 < k ∧ k < B) v out := Kd.R_far (p := ⟨B, i, none⟩) hr (fun k hk => by have hk2 : k < B := hk.2; show k ≠ B; omega) _
  have hsz : (W.setCell ⟨B, i, none⟩ u).heap.size = W.heap.size := by simp
  exact ⟨H.same (below_set H.below (by show w.heap.size ≤ B; omega)) (Nat.le_of_eq hsz.symm) (fun g hg => ho g (by omega)) ((ho b10 (by omega)).trans H.oc) (Kd.R_mono hr2 (fun k hk => hk.1)), hr2⟩
/-- The clue's block laid, and a new number. -/
theorem MkW.two (H : MkW w W b3 b6 b8 b10 n s z v out) (kv z' : Int) {w4 : World} (hw : w4 = (W.alloc (.cells #[.int .i64 kv, .int .i64 0, .int .i64 0] 25)).setCell ⟨b8, 0, none⟩ (.int .i64 z')) :
    MkW w w4 b3 b6 b8 b10 n s z' v out ∧ Kd.R k25 25 w4 w.heap.size (fun k => b10 < k ∧ k < W.heap.size) v out ∧ w4.heap[W.heap.size]? = some (.cells #[.int .i64 kv, .int .i64 0, .int .i64 0] 25 (0, 0)) ∧ w4.heap.size = W.heap.size + 1 := by
  have := H.lo; have := H.o1; have := H.o2; have := H.o3; have := H.hi
  have hb : Below W.heap.size W (W.alloc (.cells #[.int .i64 kv, .int .i64 0, .int .i64 0] 25)) := below_alloc (Below.refl _ _) _
  obtain ⟨h1, h2, h3⟩ := (H.go hb).put z'
  subst hw
  refine ⟨h1, ?_, (h3 _ (by omega)).trans (heap_alloc_new W _), h2.trans (by simp)⟩
  exact Kd.R_far (p := ⟨b8, 0, none⟩) (Kd.R_below (Kd.R_mono (Kd.R_bound H.row) (fun k hk => ⟨hk.1, hk.2.2.1⟩)) hb) (fun k hk => by have hk : b10 < k := hk.1; show k ≠ b8; omega) _
theorem tri_at {W : World} {b t : Nat} {u v x : Value} (h : W.heap[b]? = some (.cells #[u, v, x] t (0, 0))) : W.cell? ⟨b, 0, none⟩ = some u ∧ W.cell? ⟨b, 1, none⟩ = some v ∧ W.cell? ⟨b, 2, none⟩ = some x ∧ W.frozen? ⟨b, 1, none⟩ = false ∧ W.frozen? ⟨b, 2, none⟩ = false := by
  refine ⟨?_, ?_, ?_, ?_, ?_⟩ <;> simp [World.cell?, World.frozen?, h]
end
/-- What lies there when the tests begin. -/
def MkS (w w1 : World) (n s : Int) : Prop := w1.heap[w.heap.size]? = some (.cells #[.int .i64 n, .int .i64 s] 49 (0, 0)) ∧ w1.heap[w.heap.size + 1]? = some (.cells #[.slice none 0 0] 35 (0, 0)) ∧ Below w.heap.size w w1 ∧ w.heap.size + 2 ≤ w1.heap.size
theorem MkS.drew {w w1 : World} {n s : Int} (h : MkS w w1 n s) (m : Nat) : MkS w (w1.drewN m) n s := ⟨blk_drewN h.1 m, blk_drewN h.2.1 m, pw_below_drewN h.2.2.1 m, h.2.2.2⟩
theorem mk_start (w : World) (n s : Int) {w1 : World} (h : Below ((w.alloc (.cells #[.int .i64 n, .int .i64 s] 49)).alloc (.cells #[.slice none 0 0] 35)).heap.size ((w.alloc (.cells #[.int .i64 n, .int .i64 s] 49)).alloc (.cells #[.slice none 0 0] 35)) w1) :
    MkS w w1 n s := by
  obtain ⟨W, hW⟩ : ∃ W, W = w.alloc (.cells #[.int .i64 n, .int .i64 s] 49) := ⟨_, rfl⟩
  have e1 : W.heap.size = w.heap.size + 1 := by rw [hW]; simp
  rw [← hW] at h
  have e2 : (W.alloc (.cells #[.slice none 0 0] 35)).heap.size = w.heap.size + 2 := by rw [show (W.alloc (.cells #[.slice none 0 0] 35)).heap.size = W.heap.size + 1 by simp, e1]
  refine ⟨?_, ?_, ?_, by rw [← e2]; exact h.size⟩
  · refine (h.block _ (by omega)).trans ?_
    refine ((below_alloc (Below.refl _ W) (.cells #[.slice none 0 0] 35)).block _ (by omega)).trans ?_
    rw [hW]
    exact heap_alloc_new w _
  · refine (h.block _ (by omega)).trans ?_
    rw [← e1]
    exact heap_alloc_new W _
  · refine (Below.trans (below_alloc (Below.refl _ _) _) (by rw [← hW]; exact (below_alloc (Below.refl _ W) (.cells #[.slice none 0 0] 35)).mono (by omega))).trans (h.mono (by omega))
theorem mk_loop {w W : World} {n s : Int} (h : MkS w W n s) (z : Int) : MkW w ((W.alloc (.cells #[.int .i64 z] 3)).alloc (.cells #[.slice none 0 0] 35)) w.heap.size (w.heap.size + 1) W.heap.size (W.heap.size + 1) n s z (.slice none 0 0) [] := by
  obtain ⟨h1, h2, h3, h4⟩ := h
  obtain ⟨W1, hW⟩ : ∃ W1, W1 = W.alloc (.cells #[.int .i64 z] 3) := ⟨_, rfl⟩
  have e1 : W1.heap.size = W.heap.size + 1 := by rw [hW]; simp
  rw [← hW]
  have e2 : (W1.alloc (.cells #[.slice none 0 0] 35)).heap.size = W1.heap.size + 1 := by simp
  have b1 : Below W.heap.size W W1 := by rw [hW]; exact below_alloc (Below.refl _ _) _
  have b2 : Below W1.heap.size W1 (W1.alloc (.cells #[.slice none 0 0] 35)) := below_alloc (Below.refl _ _) _
  refine ⟨h3.trans ((b1.mono (by omega)).trans (b2.mono (by omega))), Nat.le_refl _, by omega, by omega, by omega, by omega, ((b2.block _ (by omega)).trans (b1.block _ (by omega))).trans h1, ((b2.block _ (by omega)).trans (b1.block _ (by omega))).trans h2, (b2.block _ (by omega)).trans ?_, ?_, Kd.R_nil _ _ _ _ _⟩
  · rw [hW]; exact heap_alloc_new W _
  · rw [← e1]; exact heap_alloc_new W1 _
set_option maxHeartbeats 1000000 in
set_option maxRecDepth 100000 in
theorem impl_MakePuzzle.calls (k : Nat) (a0_0 : Int) (a0_1 : Int) (a1 : Int) (a2 : Int) (r1 : List (S25)) (r2 : Bool) (w : World) (h : impl_MakePuzzle.f k a0_0 a0_1 a1 a2 = some (r1, r2)) :
    Calls Try.prog 27 #[.agg #[.int .i64 a0_0, .int .i64 a0_1], .int .i64 a1, .int .i64 a2] w fun e w' => ∃ v0_ : Value, e = .returned (.tuple #[.agg #[v0_], .bool r2]) ∧ Kd.R k25 25 w' w.heap.size (fun _ => True) v0_ r1 ∧ Below w.heap.size w w' := by
  obtain ⟨hd, hh, h⟩ := bI h
  have hu := Try.underlying35
  have hu2 := Try.underlying49
  have hu3 := Try.underlying25
  have HC := Aside0.mk (fun (W : World) => impl_isHidden.calls a0_0 a0_1 hd W hh)
  have HW := Aside0.mk (fun (x lo hi : Int) (W : World) => impl_within.calls x lo hi (decide (lo ≤ x ∧ x ≤ hi)) W (by
    unfold impl_within.f
    by_cases h : x ≥ lo
    · rw [if_pos h]; exact congrArg some (decide_eq_decide.2 (by omega))
    · rw [if_neg h]; exact congrArg some (by symm; apply decide_eq_false; omega)))
  have HT := Aside0.mk (fun (kk : Nat) (x v : Int) (W : World) (e : impl_told.f kk x a0_0 a0_1 = some v) => impl_told.calls kk x a0_0 a0_1 v W e)
  clear hh
  cases hd with
  | false =>
    rw [if_neg (by simp)] at h
    injection h with h
    injection h with e1 e2
    subst e1 e2
    go_enter Try.func27, Try.ntmps27
    go_wp2_with (go_at_call 44; refine (HC.out _).mono ?_; rintro e w1 ⟨rfl, hb1⟩; have hs1 := mk_start w a0_0 a0_1 hb1; obtain ⟨c1, f1⟩ := one_at hs1.2.1; have HS := Aside0.mk hs1; clear hb1 hs1)
    refine bodyPost_ret (results_ct rfl _ _ (w.heap.size + 1) 35 #[.slice none 0 0] (0, 0) _ (by first | rfl | (simp; done)) ?hg Try.underlying35 rfl (by kernel_rfl)) rfl ?_
    case hg => exact blk_put (cs := #[.slice none 0 0]) HS.out.2.1 0 _ rfl
    exact ⟨_, by first | rfl | (simp; done), Kd.R_nil _ _ _ _ _, below_set HS.out.2.2.1 (by show w.heap.size ≤ w.heap.size + 1; omega)⟩
  | true =>
    by_cases e1 : 0 ≤ a1 ∧ a1 ≤ 6
    · have HW1 := Aside0.mk (fun W => HW.out a1 0 6 W)
      simp only [show decide (0 ≤ a1 ∧ a1 ≤ 6) = true from decide_eq_true e1] at HW1
      have HW2 := Aside0.mk (fun W => HW.out a2 0 9999 W)
      by_cases e2 : 0 ≤ a2 ∧ a2 ≤ 9999
      · simp only [show decide (0 ≤ a2 ∧ a2 ≤ 9999) = true from decide_eq_true e2] at HW2
        clear HW
        rw [if_pos ⟨rfl, e1, e2⟩] at h
        obtain ⟨o, ho, h⟩ := bI h
        injection h with h
        injection h with q1 q2
        subst q1 q2
        go_enter Try.func27, Try.ntmps27
        go_wp2_with (first | (go_at_call 44; refine (HC.out _).mono ?_; rintro e w1 ⟨rfl, hb1⟩; have hs1 := mk_start w a0_0 a0_1 hb1; obtain ⟨c1, f1⟩ := one_at hs1.2.1; have HS := Aside0.mk hs1; clear hb1 hs1) | (go_at_call 29; refine (HW1.out _).mono ?_; rintro e w2 ⟨rfl, ⟨m2, hw2⟩⟩; have n1_ := HS.out.drew m2; rw [← hw2] at n1_; clear HS HW1 c1 f1 hw2; obtain ⟨c1, f1⟩ := one_at n1_.2.1; have HS := Aside0.mk n1_; clear n1_) | (go_at_call 29; refine (HW2.out _).mono ?_; rintro e w2 ⟨rfl, ⟨m2, hw2⟩⟩; have n1_ := HS.out.drew m2; rw [← hw2] at n1_; clear HS HW2 c1 f1 hw2; obtain ⟨c1, f1⟩ := one_at n1_.2.1; have HS := Aside0.mk n1_; clear n1_))
        have HM0 := Aside0.mk (mk_loop HS.out a2)
        have HF0 := Aside0.mk (show mkF k a0_0 a0_1 (a1.toNat - 0) a2 [] = some o from ho)
        have ha : a1 = (a1.toNat : Int) := (Int.toNat_of_nonneg e1.1).symm
        generalize a1.toNat = q at ha HF0
        subst ha
        clear c1 f1 HC ho h
        go_loopg [31] q (fun gg v31 W => ∃ (j : Nat) (z : Int) (v : Value) (out : List S25), v31 = .int .i64 j ∧ Aside0 (j + gg = q) ∧ Aside0 (MkW w W w.heap.size (w.heap.size + 1) w2.heap.size (w2.heap.size + 1) a0_0 a0_1 z v out) ∧ Aside0 (out.length = j) ∧ Aside0 (mkF k a0_0 a0_1 (q - j) z out = some o))
        case atStart => exact ⟨0, a2, _, [], by first | rfl | (simp; done), ⟨by omega⟩, HM0, ⟨rfl⟩, HF0⟩
        case round =>
          obtain ⟨j, z, v, out, rfl, HG, HM, HL, HF⟩ := hrel
          clear HM0 HF0
          by_cases hj : j < q
          · have e4 : decide ((j : Int) < (q : Int)) = true := decide_eq_true (by omega)
            have e5 : decide (j < q) = true := decide_eq_true hj
            obtain ⟨gm, rfl⟩ : ∃ gm, gk = gm + 1 := ⟨gk - 1, by have := HG.out; omega⟩
            have hF := HF.out
            rw [show q - j = (q - (j + 1)) + 1 by omega, mkF] at hF
            clear HF
            have bw : IntKind.i64.wrap ((j : Int) + 1) = (j : Int) + 1 := by
              rw [i64_w]
              exact M.w64 (by omega) (by omega)
            have CALL1 := Aside0.mk (next_calls _ _ _ HM.out.zc)
            go_upto_if 41 with (first | (go_at_call 48; refine (CALL1.out).mono ?_; rintro e w3 ⟨rfl, hw3⟩; have n1_ := (HM.out.put (nextZ z)).1; rw [← hw3] at n1_; have HM1 := Aside0.mk n1_; clear HM CALL1 hw3 n1_) | (go_at_call 48; refine (next_calls _ _ _ (HM1.out.go (below_alloc (Below.refl _ _) _)).zc).mono ?_; rintro e w4 ⟨rfl, hw4⟩; obtain ⟨m1, m2, m3, m4⟩ := HM1.out.two _ _ hw4; obtain ⟨x0, x1, x2, x3, x4⟩ := tri_at m3; obtain ⟨y0, y1⟩ := two_at m1.star; have M1 := Aside0.mk m1; have M2 := Aside0.mk m2; have M3 := Aside0.mk m3; have M4 := Aside0.mk m4; have hne1 : w.heap.size ≠ w3.heap.size := (by have := HM1.out.lo; have := HM1.out.o1; have := HM1.out.o2; have := HM1.out.o3; have := HM1.out.hi; omega); have HI := Aside0.mk HM1.out.hi; clear HM1 hw4 m1 m2 m3 m4))
            go_cut [60] (fun v60 wc => ∃ (c : S25), Aside0 (MkW w wc w.heap.size (w.heap.size + 1) w2.heap.size (w2.heap.size + 1) a0_0 a0_1 (nextZ (nextZ z)) v out) ∧ Aside0 (Kd.R k25 25 wc w.heap.size (fun k => w2.heap.size + 1 < k ∧ k < w3.heap.size) v out) ∧ Aside0 (wc.heap[w3.heap.size]? = some (.cells #[.int .i64 c.f0, .int .i64 c.f1, .int .i64 c.f2] 25 (0, 0))) ∧ Aside0 (mkF k a0_0 a0_1 (q - (j + 1)) (nextZ (nextZ z)) (out ++ [c]) = some o))
            case first =>
              by_cases hk : Int.tmod (nextZ z) 6 = 4
              · rw [if_pos hk] at hF
                by_cases hn : a0_0 = 0
                · rw [if_pos hn] at hF
                  cases hF
                · rw [if_neg hn] at hF
                  have HF := Aside0.mk hF
                  have e6 : (Int.tmod (nextZ z) 6 == 4) = true := beq_iff_eq.2 hk
                  clear hF hk
                  go_wp2_with fail
                  go_meet
                  case rel =>
                    have F1 := M1.out.far (B := w3.heap.size) HI.out M2.out 1 (.int .i64 (Int.tmod (nextZ (nextZ z)) a0_0))
                    have F2 := F1.1.far HI.out F1.2 2 (.int .i64 (Int.tmod (wrap64 (Int.tmod (nextZ (nextZ z)) a0_0 + a0_1)) a0_0))
                    exact ⟨⟨_, _, _⟩, ⟨F2.1⟩, ⟨F2.2⟩, ⟨blk_put (blk_put M3.out 1 _ rfl) 2 _ rfl⟩, HF⟩
              · rw [if_neg hk] at hF
                obtain ⟨val, hv, hF⟩ := bI hF
                have HF := Aside0.mk hF
                have e6 : (Int.tmod (nextZ z) 6 == 4) = false := beq_eq_false_iff_ne.2 hk
                have HT2 := Aside0.mk (fun W => HT.out k _ val W hv)
                clear hF hk hv
                go_wp2_with (go_at_call 49; refine (HT2.out _).mono ?_; rintro e w5 ⟨rfl, hb5⟩; have m3 := blk_below M3.out hb5; obtain ⟨p0, p1, p2, p3, p4⟩ := tri_at m3; have N1 := Aside0.mk (M1.out.go hb5); have N2 := Aside0.mk (Kd.R_below M2.out hb5); have N3 := Aside0.mk m3; clear hb5 m3 M1 M2 M3)
                go_meet
                case rel =>
                  have F1 := N1.out.far (B := w3.heap.size) HI.out N2.out 1 (.int .i64 val)
                  exact ⟨⟨_, _, _⟩, ⟨F1.1⟩, ⟨F1.2⟩, ⟨blk_put N3.out 1 _ rfl⟩, HF⟩
            case rest =>
              obtain ⟨c, D1, D2, D3, DF⟩ := hcut
              clear x0 x1 x2 x3 x4 y0 y1
              obtain ⟨x0, x1, x2, x3, x4⟩ := tri_at D3.out
              obtain ⟨Av, cv, ev⟩ := Kd.R_slice D1.out.row
              subst ev
              obtain ⟨o0, o1⟩ := one_at D1.out.oc
              go_wp2_with (first | ((with_reducible refine gate_builtin (b := .append) (xs := #[.tmp 62, .tmp 64]) rfl ?_); at_builtin; refine Kd.R_append k25 (w0 := w) w.heap.size rfl (.tmp 62) (.tmp 64) 33 25 (.agg #[(.int .i64 0), (.int .i64 0), (.int .i64 0)]) 24 rfl Try.underlying33 info25 rfl (by decide) (by omega) (.slice Av out.length cv) out (c : S25) [.int .i64 c.f0, .int .i64 c.f1, .int .i64 c.f2] (fun k => w2.heap.size + 1 < k) (fun _ => False) rfl rfl ?aP (fun _ hk => hk.elim) ?aF ?aO ?aB ?aS ?aL ?_; (case aP => exact k25_mkM _ _ _ (c : S25)); (case aB => exact D1.out.below); (case aF => exact (fun k hk => Nat.lt_of_lt_of_le D1.out.hi hk)); (case aO => exact D1.out.row); (case aS => exact D1.out.below.size); (case aL => have := HL.out; omega); intro v9 w9 ho hb hg hat; obtain ⟨A9, c9, e9⟩ := Kd.R_slice ho; subst e9; have D9 := Aside0.mk (D1.out.app hb hg ho); obtain ⟨p0, p1⟩ := one_at ((hg.block _ D1.out.hi (fun e => by have := D1.out.row.1 _ e.symm; simp at this)).trans D1.out.oc); clear ho hb hg hat D1))
              go_roundg gm
              case measure => omega
              case rel => exact ⟨j + 1, nextZ (nextZ z), _, out ++ [c], by first | rfl | (simp; done), ⟨by have := HG.out; omega⟩, ⟨by have := D9.out; rw [List.length_append, List.length_singleton] at this; exact this⟩, ⟨by rw [List.length_append, HL.out]; rfl⟩, DF⟩
          · have e4 : decide ((j : Int) < (q : Int)) = false := decide_eq_false (by omega)
            have e5 : decide (j < q) = false := decide_eq_false hj
            have hjq : j = q := by have := HG.out; omega
            obtain ⟨Av, cv, ev⟩ := Kd.R_slice HM.out.row
            subst ev
            obtain ⟨o0, o1⟩ := one_at HM.out.oc
            obtain ⟨p0, p1⟩ := one_at HM.out.res
            have HF2 := Aside0.mk (show out = o by have e := HF.out; rw [hjq, Nat.sub_self, mkF] at e; exact oI e)
            go_wp2_with fail
            refine bodyPost_ret (results_ct rfl _ _ (w.heap.size + 1) 35 #[.slice Av out.length cv] (0, 0) _ (by first | rfl | (simp; done)) ?hg Try.underlying35 rfl (by kernel_rfl)) rfl ?_
            case hg => exact blk_put (cs := #[.slice none 0 0]) HM.out.res 0 _ rfl
            exact ⟨_, by first | rfl | (simp; done), by rw [← HF2.out]; exact Kd.R_mono (Kd.R_far (p := ⟨w.heap.size + 1, 0, none⟩) HM.out.row (fun k hk => by have hk : w2.heap.size + 1 < k := hk; have := HS.out.2.2.2; show k ≠ w.heap.size + 1; omega) _) (fun _ _ => trivial), below_set HM.out.below (by show w.heap.size ≤ w.heap.size + 1; omega)⟩
      · simp only [show decide (0 ≤ a2 ∧ a2 ≤ 9999) = false from decide_eq_false e2] at HW2
        clear HW
        rw [if_neg (fun e => e2 e.2.2)] at h
        injection h with h
        injection h with e1 e2
        subst e1 e2
        go_enter Try.func27, Try.ntmps27
        go_wp2_with (first | (go_at_call 44; refine (HC.out _).mono ?_; rintro e w1 ⟨rfl, hb1⟩; have hs1 := mk_start w a0_0 a0_1 hb1; obtain ⟨c1, f1⟩ := one_at hs1.2.1; have HS := Aside0.mk hs1; clear hb1 hs1) | (go_at_call 29; refine (HW1.out _).mono ?_; rintro e w2 ⟨rfl, ⟨m2, hw2⟩⟩; have n1_ := HS.out.drew m2; rw [← hw2] at n1_; clear HS HW1 c1 f1 hw2; obtain ⟨c1, f1⟩ := one_at n1_.2.1; have HS := Aside0.mk n1_; clear n1_) | (go_at_call 29; refine (HW2.out _).mono ?_; rintro e w2 ⟨rfl, ⟨m2, hw2⟩⟩; have n1_ := HS.out.drew m2; rw [← hw2] at n1_; clear HS HW2 c1 f1 hw2; obtain ⟨c1, f1⟩ := one_at n1_.2.1; have HS := Aside0.mk n1_; clear n1_))
        refine bodyPost_ret (results_ct rfl _ _ (w.heap.size + 1) 35 #[.slice none 0 0] (0, 0) _ (by first | rfl | (simp; done)) ?hg Try.underlying35 rfl (by kernel_rfl)) rfl ?_
        case hg => exact blk_put (cs := #[.slice none 0 0]) HS.out.2.1 0 _ rfl
        exact ⟨_, by first | rfl | (simp; done), Kd.R_nil _ _ _ _ _, below_set HS.out.2.2.1 (by show w.heap.size ≤ w.heap.size + 1; omega)⟩
    · have HW1 := Aside0.mk (fun W => HW.out a1 0 6 W)
      simp only [show decide (0 ≤ a1 ∧ a1 ≤ 6) = false from decide_eq_false e1] at HW1
      clear HW
      rw [if_neg (fun e => e1 e.2.1)] at h
      injection h with h
      injection h with e1 e2
      subst e1 e2
      go_enter Try.func27, Try.ntmps27
      go_wp2_with (first | (go_at_call 44; refine (HC.out _).mono ?_; rintro e w1 ⟨rfl, hb1⟩; have hs1 := mk_start w a0_0 a0_1 hb1; obtain ⟨c1, f1⟩ := one_at hs1.2.1; have HS := Aside0.mk hs1; clear hb1 hs1) | (go_at_call 29; refine (HW1.out _).mono ?_; rintro e w2 ⟨rfl, ⟨m2, hw2⟩⟩; have n1_ := HS.out.drew m2; rw [← hw2] at n1_; clear HS HW1 c1 f1 hw2; obtain ⟨c1, f1⟩ := one_at n1_.2.1; have HS := Aside0.mk n1_; clear n1_))
      refine bodyPost_ret (results_ct rfl _ _ (w.heap.size + 1) 35 #[.slice none 0 0] (0, 0) _ (by first | rfl | (simp; done)) ?hg Try.underlying35 rfl (by kernel_rfl)) rfl ?_
      case hg => exact blk_put (cs := #[.slice none 0 0]) HS.out.2.1 0 _ rfl
      exact ⟨_, by first | rfl | (simp; done), Kd.R_nil _ _ _ _ _, below_set HS.out.2.2.1 (by show w.heap.size ≤ w.heap.size + 1; omega)⟩
end Go.Proofs.Ytcfcjpcoofjckaa.Pr
