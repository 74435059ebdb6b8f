/- The program's MakePuzzle returns what the reference's returns, for all arguments. Condition: none. -/
import Derived.Deep.Slices
import Derived.Deep.Fields
import Derived.ChangeSame
import Derived.ChangeShapes
import Derived.Below
import Derived.Carry
import Derived.Lib.SmallJoins
import Derived.RowKit
import Derived.OpenShut
import Derived.Test.YtcfcjpcoofjckaaRows
import Derived.WalkKit
import Derived.ProofKit
import Derived.ShutString
import Derived.ChangeOld
import Derived.SizedLaws
import Derived.ChangeSlices
import Derived.Test.YtcfcjpcoofjckaaKFnExactMakePuzzle0
import Derived.Test.YtcfcjpcoofjckaaKFnExactMakePuzzle1
import Derived.Test.YtcfcjpcoofjckaaKFnExactMakePuzzle2
import Derived.Test.YtcfcjpcoofjckaaKFnExactMakePuzzle3
import Derived.Test.YtcfcjpcoofjckaaKFnExactMakePuzzle4
set_option linter.unusedVariables false
set_option linter.unusedSimpArgs false
namespace Go.Proofs.Ytcfcjpcoofjckaa.Pr
open Go.RowKit Go.Proofs.YtcfcjpcoofjckaaW.PrintWords Go.Proofs.YtcfcjpcoofjckaaW.PrintLast Go.Proofs.YtcfcjpcoofjckaaW.PrintMore
attribute [local go_sem] max2_int min2_int max_two min_two max_three min_three max_four min_four
def spec_pzFits.f (k : Nat) (a0_0 : Int) (a0_1 : Int) (a0_2 : Int) (a1_0 : Int) (a1_1 : Int) : Option (Bool) := if a0_0 = 4 then (if a0_1 < a1_0 then ((spec_pzValue.f k 4 a0_1 a1_0 a1_1).bind fun t271 => (some (t271 == a0_2))) else (some false)) else ((spec_pzValue.f k a0_0 0 a1_0 a1_1).bind fun t272 => (some (t272 == a0_1)))
theorem spec_pzFits.mono : ∀ a0 a1 a2 a3 a4 k, LeO (spec_pzFits.f k a0 a1 a2 a3 a4) (spec_pzFits.f (k + 1) a0 a1 a2 a3 a4) := by
 intro a0 a1 a2 a3 a4 k
 unfold spec_pzFits.f
 repeat' first
   | (with_reducible exact spec_pzValue.mono _ _ _ _ _)
   | (with_reducible exact LeO.refl _)
   | (with_reducible exact LeO.none _)
   | (with_reducible refine LeO.ite ?_ ?_)
   | (with_reducible refine LeO.bind ?_ (fun _ => ?_))
   | exact spec_pzValue.mono _ _ _ _ _
   | exact LeO.none _
   | refine LeO.ite ?_ ?_
   | refine LeO.bind ?_ (fun _ => ?_)
def spec_pzFits.T2 : Bool × List (List Nat × List Nat) := (true, [([], []), ([0], [0]), ([], []), ([2], [2]), ([1, 3], [1, 3]), ([4], [4]), ([5], [5]), ([6, 5], [5, 6]), ([5], [5]), ([7, 8, 5, 5], [5, 7, 8]), ([5], [5]), ([10, 5], [5, 10]), ([9, 11, 5], [5, 9, 11]), ([5, 12], [5, 12]), ([13, 9, 0, 1, 2, 3, 4, 5, 6, 7, 8, 9, 10, 11, 12, 13], [13])])
def spec_pzFits.B2 : List Nat := [0, 1, 0, 4, 15, 31, 63, 127, 63, 511, 63, 1087, 4095, 8191, 16383]
theorem spec_pzFits.tab2 : rtab .any (opsOf Try.f43 2) = spec_pzFits.T2 := by kernel_rfl
theorem spec_pzFits.bits2 : waitsOk spec_pzFits.T2.2 spec_pzFits.B2 = true := by kernel_rfl
def spec_pzFits.T3 : Bool × List (List Nat × List Nat) := (true, [([], []), ([0], [0]), ([], []), ([1, 2], [1, 2]), ([], []), ([4], [4]), ([3, 5], [3, 5]), ([6, 3, 0, 1, 2, 3, 4, 5, 6], [6])])
def spec_pzFits.B3 : List Nat := [0, 1, 0, 7, 0, 16, 63, 127]
theorem spec_pzFits.tab3 : rtab .any (opsOf Try.f43 3) = spec_pzFits.T3 := by kernel_rfl
theorem spec_pzFits.bits3 : waitsOk spec_pzFits.T3.2 spec_pzFits.B3 = true := by kernel_rfl
set_option maxHeartbeats 8000000 in
set_option maxRecDepth 100000 in
theorem spec_pzFits.calls (k : Nat) (a0_0 : Int) (a0_1 : Int) (a0_2 : Int) (a1_0 : Int) (a1_1 : Int) (r : Bool) (w : World) (h : spec_pzFits.f k a0_0 a0_1 a0_2 a1_0 a1_1 = some r) :
  Calls Try.prog 43 #[.agg #[.int .i64 a0_0, .int .i64 a0_1, .int .i64 a0_2], .agg #[.int .i64 a1_0, .int .i64 a1_1]] w fun e w' => e = .returned (.bool r) ∧ Below w.heap.size w w' := by
 have hu25 := Try.underlying25
 have hu49 := Try.underlying49
 have HB := Aside0.mk (Below.refl w.heap.size w)
 have H : (if a0_0 = 4 then (if a0_1 < a1_0 then ((spec_pzValue.f k 4 a0_1 a1_0 a1_1).bind fun t271 => (some (t271 == a0_2))) else (some false)) else ((spec_pzValue.f k a0_0 0 a1_0 a1_1).bind fun t272 => (some (t272 == a0_1)))) = some r := h
 clear h
 by_cases c3 : a0_0 = 4
 ·rw [if_pos c3] at H
  have c3b0 : (a0_0 == 4) = true := beq_iff_eq.mpr c3
  have c3b1 : (a0_0 != 4) = false := bne_eq_false_iff_eq.mpr c3
  clear c3
  by_cases c4 : a0_1 < a1_0
  ·rw [if_pos c4] at H
   have c4b0 : decide (a0_1 < a1_0) = true := decide_eq_true c4
   clear c4
   replace H := bI H
   obtain ⟨t271, A50, H⟩ := H
   replace H : (some (t271 == a0_2)) = some r := H
   have A5 := Aside0.mk A50
   clear A50
   obtain rfl := oI H
   go_enter Try.func43, Try.ntmps43
   try go_wp2_with (first | ((with_reducible refine gate_dst (N := 2) rfl ?_); refine box_event ?hg (N := 2) ?hd (cs := #[.int .i64 a0_0, .int .i64 a0_1, .int .i64 a0_2]) (t := 25) ?hr ?_; (case hd => rfl); (case hg => rfl); (case hr => first | (go_simp; done) | (go_simp; rfl)); intro gb269 hg w6 hbox hb; have n0_ := Aside0.mk (below_step hb_ hb); have n1_ := Aside0.mk (hbox); have n2_ := Aside0.mk ((by rw [hg]; exact (below_size hb_) : w.heap.size ≤ gb269)); have n3_ := Aside0.mk ((by rw [hg]; exact (below_size hb_) : w.heap.size ≤ gb269)); clear HB; have HB := n0_; have BK269 := n1_; have GW269 := n2_; have GE269 := n3_; clear n0_ n1_ n2_ n3_; clear hb hbox hg) | ((with_reducible refine gate_dst (N := 3) rfl ?_); refine box_event ?hg (N := 3) ?hd (cs := #[.int .i64 a1_0, .int .i64 a1_1]) (t := 49) ?hr ?_; (case hd => rfl); (case hg => rfl); (case hr => first | (go_simp; done) | (go_simp; rfl)); intro gb270 hg w7 hbox hb; have n0_ := Aside0.mk (blk_below (g := gb269) (o := .cells #[.int .i64 a0_0, .int .i64 a0_1, .int .i64 a0_2] 25 (0, 0)) (kx_ BK269.out) hb); have n1_ := Aside0.mk (below_step (hs_ GE269.out) hb); have n2_ := Aside0.mk (hbox); have n3_ := Aside0.mk ((by rw [hg]; exact (below_size (hs_ GE269.out)) : w.heap.size ≤ gb270)); have n4_ := Aside0.mk ((by rw [hg]; exact (below_size (hs_ GE269.out)) : w.heap.size ≤ gb270)); have n5_ := Aside0.mk ((by rw [hg]; exact Nat.ne_of_lt (blk_lt (g := gb269) (o := .cells #[.int .i64 a0_0, .int .i64 a0_1, .int .i64 a0_2] 25 (0, 0)) (kx_ BK269.out)) : gb269 ≠ gb270)); have n6_ := Aside0.mk ((by rw [hg]; exact Nat.ne_of_gt (blk_lt (g := gb269) (o := .cells #[.int .i64 a0_0, .int .i64 a0_1, .int .i64 a0_2] 25 (0, 0)) (kx_ BK269.out)) : gb270 ≠ gb269)); clear BK269; clear HB; have BK269 := n0_; have HB := n1_; have BK270 := n2_; have GW270 := n3_; have GE270 := n4_; have NB269_270 := n5_; have NB270_269 := n6_; clear n0_ n1_ n2_ n3_ n4_ n5_ n6_; clear hb hbox hg; have hnb8 := NB269_270.out; have hnc8 := NB270_269.out; have hcz9_0 : w7.cell? ⟨gb269, 0, none⟩ = some (.int .i64 a0_0) := bc_ BK269 0; have hcz9_1 : w7.cell? ⟨gb269, 1, none⟩ = some (.int .i64 a0_1) := bc_ BK269 1; have hcz9_2 : w7.cell? ⟨gb269, 2, none⟩ = some (.int .i64 a0_2) := bc_ BK269 2; have hfz9_0 := blk_frozen BK269.out 0; have hfz9_1 := blk_frozen BK269.out 1; have hfz9_2 := blk_frozen BK269.out 2))
   have n0_ := Aside0.mk (blk_drew BK269.out)
   have n1_ := Aside0.mk (blk_drew BK270.out)
   have n2_ := Aside0.mk (below_drew1 HB.out)
   clear BK269
   clear BK270
   clear HB
   have BK269 := n0_
   have BK270 := n1_
   have HB := n2_
   clear n0_ n1_ n2_
   refine start_ (n := 15) (S := fun w' => w'.cell? ⟨gb269, 0, none⟩ = some (.int .i64 a0_0) ∧ w'.cell? ⟨gb269, 1, none⟩ = some (.int .i64 a0_1) ∧ w'.cell? ⟨gb269, 2, none⟩ = some (.int .i64 a0_2) ∧ w'.cell? ⟨gb270, 0, none⟩ = some (.int .i64 a1_0) ∧ w'.cell? ⟨gb270, 1, none⟩ = some (.int .i64 a1_1)) (ds := []) #[false, false, false, false, false, false, false, false, false, false, false, false, false, false, false] (by kernel_rfl) rfl rfl ⟨bc_ BK269 0, bc_ BK269 1, bc_ BK269 2, bc_ BK270 0, bc_ BK270 1⟩ (fun hHeld => ?_); refine with_tabW spec_pzFits.tab2 spec_pzFits.bits2 (fun HT_ HW_ => ?_)
   generalize w7.drew = w10 at BK269 BK270 HB hHeld ⊢
   refine pure_ (i := 0) (N := some 8) (v := ?_) (a' := ?_) #[true, false, false, false, false, false, false, false, false, false, false, false, false, false, false] rfl rfl (any_of HT_.out (by kernel_rfl)) (fun _ _ _ h => h) (Or.inl ⟨by rfl, ?_⟩) ?_ ?_
   rotate_left
   ·intro w'
    go_simp
    with_reducible rfl
   rotate_left
   ·simp only [Act.put, sT, sZ, sS, i64_w, i32_w]
    rfl
   refine pure_ (i := 2) (N := some 10) (v := ?_) (a' := ?_) #[true, false, true, false, false, false, false, false, false, false, false, false, false, false, false] rfl rfl (any_of HT_.out (by kernel_rfl)) (fun _ _ _ h => h) (Or.inl ⟨by rfl, ?_⟩) ?_ ?_
   rotate_left
   ·intro w'
    go_simp
    with_reducible rfl
   rotate_left
   ·simp only [Act.put, sT, sZ, sS, i64_w, i32_w]
    rfl
   refine take_ (i := 1) (N := some 9) (v := ?_) (a' := ?_) #[true, true, true, false, false, false, false, false, false, false, false, false, false, false, false] rfl rfl (take_ofW HT_.out HW_.out (by kernel_rfl)) (fun _ _ _ h => h) (Or.inl ⟨by rfl, ?_⟩) hHeld ?_ ?_
   rotate_left
   ·rintro w' ⟨s0, s1, s2, s3, s4⟩
    go_simp
    with_reducible rfl
   rotate_left
   ·simp only [Act.put, sT, sZ, sS, i64_w, i32_w]
    rfl
   refine take_ (i := 3) (N := some 11) (v := ?_) (a' := ?_) #[true, true, true, true, false, false, false, false, false, false, false, false, false, false, false] rfl rfl (take_ofW HT_.out HW_.out (by kernel_rfl)) (fun _ _ _ h => h) (Or.inl ⟨by rfl, ?_⟩) hHeld ?_ ?_
   rotate_left
   ·rintro w' ⟨s0, s1, s2, s3, s4⟩
    go_simp
    with_reducible rfl
   rotate_left
   ·simp only [Act.put, sT, sZ, sS, i64_w, i32_w]
    rfl
   refine pure_ (i := 4) (N := some 12) (v := ?_) (a' := ?_) #[true, true, true, true, true, false, false, false, false, false, false, false, false, false, false] rfl rfl (any_of HT_.out (by kernel_rfl)) (fun _ _ _ h => h) (Or.inl ⟨by rfl, ?_⟩) ?_ ?_
   rotate_left
   ·intro w'
    go_simp
    with_reducible rfl
   rotate_left
   ·simp only [Act.put, sT, sZ, sS, i64_w, i32_w]
    rfl
   refine pure_ (i := 5) (N := some 13) (v := ?_) (a' := ?_) #[true, true, true, true, true, true, false, false, false, false, false, false, false, false, false] rfl rfl (any_of HT_.out (by kernel_rfl)) (fun _ _ _ h => h) (Or.inl ⟨by rfl, ?_⟩) ?_ ?_
   rotate_left
   ·intro w'
    go_simp
    with_reducible rfl
   rotate_left
   ·simp only [Act.put, sT, sZ, sS, i64_w, i32_w]
    rfl
   refine pure_ (i := 6) (N := some 14) (v := ?_) (a' := ?_) #[true, true, true, true, true, true, true, false, false, false, false, false, false, false, false] rfl rfl (any_of HT_.out (by kernel_rfl)) (fun _ _ _ h => h) (Or.inl ⟨by rfl, ?_⟩) ?_ ?_
   rotate_left
   ·intro w'
    go_simp
    with_reducible rfl
   rotate_left
   ·simp only [Act.put, sT, sZ, sS, i64_w, i32_w]
    rfl
   refine pure_ (i := 10) (N := some 18) (v := ?_) (a' := ?_) #[true, true, true, true, true, true, true, false, false, false, true, false, false, false, false] rfl rfl (any_of HT_.out (by kernel_rfl)) (fun _ _ _ h => h) (Or.inl ⟨by rfl, ?_⟩) ?_ ?_
   rotate_left
   ·intro w'
    go_simp
    with_reducible rfl
   rotate_left
   ·simp only [Act.put, sT, sZ, sS, i64_w, i32_w]
    rfl
   refine take_ (i := 7) (N := some 15) (v := ?_) (a' := ?_) #[true, true, true, true, true, true, true, true, false, false, true, false, false, false, false] rfl rfl (take_ofW HT_.out HW_.out (by kernel_rfl)) (fun _ _ _ h => h) (Or.inl ⟨by rfl, ?_⟩) hHeld ?_ ?_
   rotate_left
   ·rintro w' ⟨s0, s1, s2, s3, s4⟩
    go_simp
    with_reducible rfl
   rotate_left
   ·simp only [Act.put, sT, sZ, sS, i64_w, i32_w]
    rfl
   refine take_ (i := 8) (N := some 16) (v := ?_) (a' := ?_) #[true, true, true, true, true, true, true, true, true, false, true, false, false, false, false] rfl rfl (take_ofW HT_.out HW_.out (by kernel_rfl)) (fun _ _ _ h => h) (Or.inl ⟨by rfl, ?_⟩) hHeld ?_ ?_
   rotate_left
   ·rintro w' ⟨s0, s1, s2, s3, s4⟩
    go_simp
    with_reducible rfl
   rotate_left
   ·simp only [Act.put, sT, sZ, sS, i64_w, i32_w]
    rfl
   refine take_ (i := 11) (N := some 19) (v := ?_) (a' := ?_) #[true, true, true, true, true, true, true, true, true, false, true, true, false, false, false] rfl rfl (take_ofW HT_.out HW_.out (by kernel_rfl)) (fun _ _ _ h => h) (Or.inl ⟨by rfl, ?_⟩) hHeld ?_ ?_
   rotate_left
   ·rintro w' ⟨s0, s1, s2, s3, s4⟩
    go_simp
    with_reducible rfl
   rotate_left
   ·simp only [Act.put, sT, sZ, sS, i64_w, i32_w]
    rfl
   refine one_ (i := 9) (N := some 17) #[true, true, true, true, true, true, true, true, true, true, true, true, false, false, false] rfl rfl (one_of HT_.out (by kernel_rfl)) (by decide) (fun K hK => ?_)
   refine goes_ Try.func54 (by kernel_rfl) rfl #[.int .i64 4, .int .i64 a0_1, .agg #[.int .i64 a1_0, .int .i64 a1_1]] (by rfl) rfl rfl ar_ ?_
   with_reducible refine (spec_pzValue.calls k 4 a0_1 a1_0 a1_1 t271 _ A5.out).mono ?_
   rintro e w11 ⟨rfl, hb⟩
   refine ⟨_, rfl, ?_⟩
   have n0_ := Aside0.mk (blk_below (g := gb269) (o := .cells #[.int .i64 a0_0, .int .i64 a0_1, .int .i64 a0_2] 25 (0, 0)) (kx_ BK269.out) hb)
   have n1_ := Aside0.mk (blk_below (g := gb270) (o := .cells #[.int .i64 a1_0, .int .i64 a1_1] 49 (0, 0)) (kx_ BK270.out) hb)
   have n2_ := Aside0.mk (below_step (hm_) hb)
   clear BK269
   clear BK270
   clear HB
   have BK269 := n0_
   have BK270 := n1_
   have HB := n2_
   clear n0_ n1_ n2_
   (try clear hb)
   (try clear hb2)
   (try clear hk)
   (try clear hi)
   refine hK.out _ _ ⟨bc_ BK269 0, bc_ BK269 1, bc_ BK269 2, bc_ BK270 0, bc_ BK270 1⟩ (fun hHeld => ?_)
   clear hK K
   refine norm_ (a' := ?_) ?_ ?_
   rotate_left
   ·show Act.put _ (some 17) _ = _
    simp only [Act.put, sT, sZ, sS, i64_w, i32_w]
    rfl
   refine pure_ (i := 12) (N := some 20) (v := ?_) (a' := ?_) #[true, true, true, true, true, true, true, true, true, true, true, true, true, false, false] rfl rfl (any_of HT_.out (by kernel_rfl)) (fun _ _ _ h => h) (Or.inl ⟨by rfl, ?_⟩) ?_ ?_
   rotate_left
   ·intro w'
    go_simp
    with_reducible rfl
   rotate_left
   ·simp only [Act.put, sT, sZ, sS, i64_w, i32_w]
    rfl
   refine pure_ (i := 13) (N := some 21) (v := ?_) (a' := ?_) #[true, true, true, true, true, true, true, true, true, true, true, true, true, true, false] rfl rfl (any_of HT_.out (by kernel_rfl)) (fun _ _ _ h => h) (Or.inl ⟨by rfl, ?_⟩) ?_ ?_
   rotate_left
   ·intro w'
    go_simp
    with_reducible rfl
   rotate_left
   ·simp only [Act.put, sT, sZ, sS, i64_w, i32_w]
    rfl
   refine pure_ (i := 14) (N := some 4) (v := ?_) (a' := ?_) #[true, true, true, true, true, true, true, true, true, true, true, true, true, true, true] rfl rfl (any_of HT_.out (by kernel_rfl)) (fun _ _ _ h => h) (Or.inl ⟨by rfl, ?_⟩) ?_ ?_
   rotate_left
   ·intro w'
    go_simp
    with_reducible rfl
   rotate_left
   ·simp only [Act.put, sT, sZ, sS, i64_w, i32_w]
    rfl
   refine done_ (done_of HT_.out (by kernel_rfl)) ?_
   try go_wp2
   go_ret
   exact ⟨by first | rfl | (simp [errW_none, errW_some] <;> rfl) | (simp [*, errW_none, errW_some] <;> rfl), hm_⟩
  ·rw [if_neg c4] at H
   have c4b0 : decide (a0_1 < a1_0) = false := decide_eq_false c4
   clear c4
   obtain rfl := oI H
   go_enter Try.func43, Try.ntmps43
   try go_wp2_with (first | ((with_reducible refine gate_dst (N := 2) rfl ?_); refine box_event ?hg (N := 2) ?hd (cs := #[.int .i64 a0_0, .int .i64 a0_1, .int .i64 a0_2]) (t := 25) ?hr ?_; (case hd => rfl); (case hg => rfl); (case hr => first | (go_simp; done) | (go_simp; rfl)); intro gb269 hg w12 hbox hb; have n0_ := Aside0.mk (below_step hb_ hb); have n1_ := Aside0.mk (hbox); have n2_ := Aside0.mk ((by rw [hg]; exact (below_size hb_) : w.heap.size ≤ gb269)); have n3_ := Aside0.mk ((by rw [hg]; exact (below_size hb_) : w.heap.size ≤ gb269)); clear HB; have HB := n0_; have BK269 := n1_; have GW269 := n2_; have GE269 := n3_; clear n0_ n1_ n2_ n3_; clear hb hbox hg) | ((with_reducible refine gate_dst (N := 3) rfl ?_); refine box_event ?hg (N := 3) ?hd (cs := #[.int .i64 a1_0, .int .i64 a1_1]) (t := 49) ?hr ?_; (case hd => rfl); (case hg => rfl); (case hr => first | (go_simp; done) | (go_simp; rfl)); intro gb270 hg w13 hbox hb; have n0_ := Aside0.mk (blk_below (g := gb269) (o := .cells #[.int .i64 a0_0, .int .i64 a0_1, .int .i64 a0_2] 25 (0, 0)) (kx_ BK269.out) hb); have n1_ := Aside0.mk (below_step (hs_ GE269.out) hb); have n2_ := Aside0.mk (hbox); have n3_ := Aside0.mk ((by rw [hg]; exact (below_size (hs_ GE269.out)) : w.heap.size ≤ gb270)); have n4_ := Aside0.mk ((by rw [hg]; exact (below_size (hs_ GE269.out)) : w.heap.size ≤ gb270)); have n5_ := Aside0.mk ((by rw [hg]; exact Nat.ne_of_lt (blk_lt (g := gb269) (o := .cells #[.int .i64 a0_0, .int .i64 a0_1, .int .i64 a0_2] 25 (0, 0)) (kx_ BK269.out)) : gb269 ≠ gb270)); have n6_ := Aside0.mk ((by rw [hg]; exact Nat.ne_of_gt (blk_lt (g := gb269) (o := .cells #[.int .i64 a0_0, .int .i64 a0_1, .int .i64 a0_2] 25 (0, 0)) (kx_ BK269.out)) : gb270 ≠ gb269)); clear BK269; clear HB; have BK269 := n0_; have HB := n1_; have BK270 := n2_; have GW270 := n3_; have GE270 := n4_; have NB269_270 := n5_; have NB270_269 := n6_; clear n0_ n1_ n2_ n3_ n4_ n5_ n6_; clear hb hbox hg; have hnb14 := NB269_270.out; have hnc14 := NB270_269.out; have hcz15_0 : w13.cell? ⟨gb269, 0, none⟩ = some (.int .i64 a0_0) := bc_ BK269 0; have hcz15_1 : w13.cell? ⟨gb269, 1, none⟩ = some (.int .i64 a0_1) := bc_ BK269 1; have hcz15_2 : w13.cell? ⟨gb269, 2, none⟩ = some (.int .i64 a0_2) := bc_ BK269 2; have hfz15_0 := blk_frozen BK269.out 0; have hfz15_1 := blk_frozen BK269.out 1; have hfz15_2 := blk_frozen BK269.out 2))
   have n0_ := Aside0.mk (blk_drew BK269.out)
   have n1_ := Aside0.mk (blk_drew BK270.out)
   have n2_ := Aside0.mk (below_drew1 HB.out)
   clear BK269
   clear BK270
   clear HB
   have BK269 := n0_
   have BK270 := n1_
   have HB := n2_
   clear n0_ n1_ n2_
   refine start_ (n := 15) (S := fun w' => w'.cell? ⟨gb269, 0, none⟩ = some (.int .i64 a0_0) ∧ w'.cell? ⟨gb269, 1, none⟩ = some (.int .i64 a0_1) ∧ w'.cell? ⟨gb269, 2, none⟩ = some (.int .i64 a0_2) ∧ w'.cell? ⟨gb270, 0, none⟩ = some (.int .i64 a1_0) ∧ w'.cell? ⟨gb270, 1, none⟩ = some (.int .i64 a1_1)) (ds := []) #[false, false, false, false, false, false, false, false, false, false, false, false, false, false, false] (by kernel_rfl) rfl rfl ⟨bc_ BK269 0, bc_ BK269 1, bc_ BK269 2, bc_ BK270 0, bc_ BK270 1⟩ (fun hHeld => ?_); refine with_tabW spec_pzFits.tab2 spec_pzFits.bits2 (fun HT_ HW_ => ?_)
   generalize w13.drew = w16 at BK269 BK270 HB hHeld ⊢
   refine pure_ (i := 0) (N := some 8) (v := ?_) (a' := ?_) #[true, false, false, false, false, false, false, false, false, false, false, false, false, false, false] rfl rfl (any_of HT_.out (by kernel_rfl)) (fun _ _ _ h => h) (Or.inl ⟨by rfl, ?_⟩) ?_ ?_
   rotate_left
   ·intro w'
    go_simp
    with_reducible rfl
   rotate_left
   ·simp only [Act.put, sT, sZ, sS, i64_w, i32_w]
    rfl
   refine pure_ (i := 2) (N := some 10) (v := ?_) (a' := ?_) #[true, false, true, false, false, false, false, false, false, false, false, false, false, false, false] rfl rfl (any_of HT_.out (by kernel_rfl)) (fun _ _ _ h => h) (Or.inl ⟨by rfl, ?_⟩) ?_ ?_
   rotate_left
   ·intro w'
    go_simp
    with_reducible rfl
   rotate_left
   ·simp only [Act.put, sT, sZ, sS, i64_w, i32_w]
    rfl
   refine take_ (i := 1) (N := some 9) (v := ?_) (a' := ?_) #[true, true, true, false, false, false, false, false, false, false, false, false, false, false, false] rfl rfl (take_ofW HT_.out HW_.out (by kernel_rfl)) (fun _ _ _ h => h) (Or.inl ⟨by rfl, ?_⟩) hHeld ?_ ?_
   rotate_left
   ·rintro w' ⟨s0, s1, s2, s3, s4⟩
    go_simp
    with_reducible rfl
   rotate_left
   ·simp only [Act.put, sT, sZ, sS, i64_w, i32_w]
    rfl
   refine take_ (i := 3) (N := some 11) (v := ?_) (a' := ?_) #[true, true, true, true, false, false, false, false, false, false, false, false, false, false, false] rfl rfl (take_ofW HT_.out HW_.out (by kernel_rfl)) (fun _ _ _ h => h) (Or.inl ⟨by rfl, ?_⟩) hHeld ?_ ?_
   rotate_left
   ·rintro w' ⟨s0, s1, s2, s3, s4⟩
    go_simp
    with_reducible rfl
   rotate_left
   ·simp only [Act.put, sT, sZ, sS, i64_w, i32_w]
    rfl
   refine pure_ (i := 4) (N := some 12) (v := ?_) (a' := ?_) #[true, true, true, true, true, false, false, false, false, false, false, false, false, false, false] rfl rfl (any_of HT_.out (by kernel_rfl)) (fun _ _ _ h => h) (Or.inl ⟨by rfl, ?_⟩) ?_ ?_
   rotate_left
   ·intro w'
    go_simp
    with_reducible rfl
   rotate_left
   ·simp only [Act.put, sT, sZ, sS, i64_w, i32_w]
    rfl
   refine pure_ (i := 5) (N := some 13) (v := ?_) (a' := ?_) #[true, true, true, true, true, true, false, false, false, false, false, false, false, false, false] rfl rfl (any_of HT_.out (by kernel_rfl)) (fun _ _ _ h => h) (Or.inl ⟨by rfl, ?_⟩) ?_ ?_
   rotate_left
   ·intro w'
    go_simp
    with_reducible rfl
   rotate_left
   ·simp only [Act.put, sT, sZ, sS, i64_w, i32_w]
    rfl
   refine pure_ (i := 6) (N := some 14) (v := undef) (a' := ?_) #[true, true, true, true, true, true, true, false, false, false, false, false, false, false, false] rfl rfl (any_of HT_.out (by kernel_rfl)) (fun _ _ _ h => h) (Or.inr ⟨by rfl, rfl⟩) ?_ ?_
   rotate_left
   ·simp only [Act.put, sT, sZ, sS, i64_w, i32_w]
    rfl
   refine pure_ (i := 7) (N := some 15) (v := undef) (a' := ?_) #[true, true, true, true, true, true, true, true, false, false, false, false, false, false, false] rfl rfl (any_of HT_.out (by kernel_rfl)) (fun _ _ _ h => h) (Or.inr ⟨by rfl, rfl⟩) ?_ ?_
   rotate_left
   ·simp only [Act.put, sT, sZ, sS, i64_w, i32_w]
    rfl
   refine pure_ (i := 8) (N := some 16) (v := undef) (a' := ?_) #[true, true, true, true, true, true, true, true, true, false, false, false, false, false, false] rfl rfl (any_of HT_.out (by kernel_rfl)) (fun _ _ _ h => h) (Or.inr ⟨by rfl, rfl⟩) ?_ ?_
   rotate_left
   ·simp only [Act.put, sT, sZ, sS, i64_w, i32_w]
    rfl
   refine pure_ (i := 9) (N := some 17) (v := undef) (a' := ?_) #[true, true, true, true, true, true, true, true, true, true, false, false, false, false, false] rfl rfl (any_of HT_.out (by kernel_rfl)) (fun _ _ _ h => h) (Or.inr ⟨by rfl, rfl⟩) ?_ ?_
   rotate_left
   ·simp only [Act.put, sT, sZ, sS, i64_w, i32_w]
    rfl
   refine pure_ (i := 10) (N := some 18) (v := undef) (a' := ?_) #[true, true, true, true, true, true, true, true, true, true, true, false, false, false, false] rfl rfl (any_of HT_.out (by kernel_rfl)) (fun _ _ _ h => h) (Or.inr ⟨by rfl, rfl⟩) ?_ ?_
   rotate_left
   ·simp only [Act.put, sT, sZ, sS, i64_w, i32_w]
    rfl
   refine pure_ (i := 11) (N := some 19) (v := undef) (a' := ?_) #[true, true, true, true, true, true, true, true, true, true, true, true, false, false, false] rfl rfl (any_of HT_.out (by kernel_rfl)) (fun _ _ _ h => h) (Or.inr ⟨by rfl, rfl⟩) ?_ ?_
   rotate_left
   ·simp only [Act.put, sT, sZ, sS, i64_w, i32_w]
    rfl
   refine pure_ (i := 12) (N := some 20) (v := undef) (a' := ?_) #[true, true, true, true, true, true, true, true, true, true, true, true, true, false, false] rfl rfl (any_of HT_.out (by kernel_rfl)) (fun _ _ _ h => h) (Or.inr ⟨by rfl, rfl⟩) ?_ ?_
   rotate_left
   ·simp only [Act.put, sT, sZ, sS, i64_w, i32_w]
    rfl
   refine pure_ (i := 13) (N := some 21) (v := ?_) (a' := ?_) #[true, true, true, true, true, true, true, true, true, true, true, true, true, true, false] rfl rfl (any_of HT_.out (by kernel_rfl)) (fun _ _ _ h => h) (Or.inl ⟨by rfl, ?_⟩) ?_ ?_
   rotate_left
   ·intro w'
    go_simp
    with_reducible rfl
   rotate_left
   ·simp only [Act.put, sT, sZ, sS, i64_w, i32_w]
    rfl
   refine pure_ (i := 14) (N := some 4) (v := ?_) (a' := ?_) #[true, true, true, true, true, true, true, true, true, true, true, true, true, true, true] rfl rfl (any_of HT_.out (by kernel_rfl)) (fun _ _ _ h => h) (Or.inl ⟨by rfl, ?_⟩) ?_ ?_
   rotate_left
   ·intro w'
    go_simp
    with_reducible rfl
   rotate_left
   ·simp only [Act.put, sT, sZ, sS, i64_w, i32_w]
    rfl
   refine done_ (done_of HT_.out (by kernel_rfl)) ?_
   try go_wp2
   go_ret
   exact ⟨by first | rfl | (simp [errW_none, errW_some] <;> rfl) | (simp [*, errW_none, errW_some] <;> rfl), hm_⟩
 ·rw [if_neg c3] at H
  have c3b0 : (a0_0 == 4) = false := beq_eq_false_iff_ne.mpr c3
  have c3b1 : (a0_0 != 4) = true := bne_iff_ne.mpr c3
  replace H := bI H
  obtain ⟨t272, A170, H⟩ := H
  replace H : (some (t272 == a0_1)) = some r := H
  have A17 := Aside0.mk A170
  clear A170
  obtain rfl := oI H
  go_enter Try.func43, Try.ntmps43
  try go_wp2_with (first | ((with_reducible refine gate_dst (N := 2) rfl ?_); refine box_event ?hg (N := 2) ?hd (cs := #[.int .i64 a0_0, .int .i64 a0_1, .int .i64 a0_2]) (t := 25) ?hr ?_; (case hd => rfl); (case hg => rfl); (case hr => first | (go_simp; done) | (go_simp; rfl)); intro gb269 hg w18 hbox hb; have n0_ := Aside0.mk (below_step hb_ hb); have n1_ := Aside0.mk (hbox); have n2_ := Aside0.mk ((by rw [hg]; exact (below_size hb_) : w.heap.size ≤ gb269)); have n3_ := Aside0.mk ((by rw [hg]; exact (below_size hb_) : w.heap.size ≤ gb269)); clear HB; have HB := n0_; have BK269 := n1_; have GW269 := n2_; have GE269 := n3_; clear n0_ n1_ n2_ n3_; clear hb hbox hg) | ((with_reducible refine gate_dst (N := 3) rfl ?_); refine box_event ?hg (N := 3) ?hd (cs := #[.int .i64 a1_0, .int .i64 a1_1]) (t := 49) ?hr ?_; (case hd => rfl); (case hg => rfl); (case hr => first | (go_simp; done) | (go_simp; rfl)); intro gb270 hg w19 hbox hb; have n0_ := Aside0.mk (blk_below (g := gb269) (o := .cells #[.int .i64 a0_0, .int .i64 a0_1, .int .i64 a0_2] 25 (0, 0)) (kx_ BK269.out) hb); have n1_ := Aside0.mk (below_step (hs_ GE269.out) hb); have n2_ := Aside0.mk (hbox); have n3_ := Aside0.mk ((by rw [hg]; exact (below_size (hs_ GE269.out)) : w.heap.size ≤ gb270)); have n4_ := Aside0.mk ((by rw [hg]; exact (below_size (hs_ GE269.out)) : w.heap.size ≤ gb270)); have n5_ := Aside0.mk ((by rw [hg]; exact Nat.ne_of_lt (blk_lt (g := gb269) (o := .cells #[.int .i64 a0_0, .int .i64 a0_1, .int .i64 a0_2] 25 (0, 0)) (kx_ BK269.out)) : gb269 ≠ gb270)); have n6_ := Aside0.mk ((by rw [hg]; exact Nat.ne_of_gt (blk_lt (g := gb269) (o := .cells #[.int .i64 a0_0, .int .i64 a0_1, .int .i64 a0_2] 25 (0, 0)) (kx_ BK269.out)) : gb270 ≠ gb269)); clear BK269; clear HB; have BK269 := n0_; have HB := n1_; have BK270 := n2_; have GW270 := n3_; have GE270 := n4_; have NB269_270 := n5_; have NB270_269 := n6_; clear n0_ n1_ n2_ n3_ n4_ n5_ n6_; clear hb hbox hg; have hnb20 := NB269_270.out; have hnc20 := NB270_269.out; have hcz21_0 : w19.cell? ⟨gb269, 0, none⟩ = some (.int .i64 a0_0) := bc_ BK269 0; have hcz21_1 : w19.cell? ⟨gb269, 1, none⟩ = some (.int .i64 a0_1) := bc_ BK269 1; have hcz21_2 : w19.cell? ⟨gb269, 2, none⟩ = some (.int .i64 a0_2) := bc_ BK269 2; have hfz21_0 := blk_frozen BK269.out 0; have hfz21_1 := blk_frozen BK269.out 1; have hfz21_2 := blk_frozen BK269.out 2))
  have n0_ := Aside0.mk (blk_drew BK269.out)
  have n1_ := Aside0.mk (blk_drew BK270.out)
  have n2_ := Aside0.mk (below_drew1 HB.out)
  clear BK269
  clear BK270
  clear HB
  have BK269 := n0_
  have BK270 := n1_
  have HB := n2_
  clear n0_ n1_ n2_
  refine start_ (n := 8) (S := fun w' => w'.cell? ⟨gb269, 0, none⟩ = some (.int .i64 a0_0) ∧ w'.cell? ⟨gb269, 1, none⟩ = some (.int .i64 a0_1) ∧ w'.cell? ⟨gb269, 2, none⟩ = some (.int .i64 a0_2) ∧ w'.cell? ⟨gb270, 0, none⟩ = some (.int .i64 a1_0) ∧ w'.cell? ⟨gb270, 1, none⟩ = some (.int .i64 a1_1)) (ds := []) #[false, false, false, false, false, false, false, false] (by kernel_rfl) rfl rfl ⟨bc_ BK269 0, bc_ BK269 1, bc_ BK269 2, bc_ BK270 0, bc_ BK270 1⟩ (fun hHeld => ?_); refine with_tabW spec_pzFits.tab3 spec_pzFits.bits3 (fun HT_ HW_ => ?_)
  generalize w19.drew = w22 at BK269 BK270 HB hHeld ⊢
  refine pure_ (i := 0) (N := some 22) (v := ?_) (a' := ?_) #[true, false, false, false, false, false, false, false] rfl rfl (any_of HT_.out (by kernel_rfl)) (fun _ _ _ h => h) (Or.inl ⟨by rfl, ?_⟩) ?_ ?_
  rotate_left
  ·intro w'
   go_simp
   with_reducible rfl
  rotate_left
  ·simp only [Act.put, sT, sZ, sS, i64_w, i32_w]
   rfl
  refine pure_ (i := 4) (N := some 26) (v := ?_) (a' := ?_) #[true, false, false, false, true, false, false, false] rfl rfl (any_of HT_.out (by kernel_rfl)) (fun _ _ _ h => h) (Or.inl ⟨by rfl, ?_⟩) ?_ ?_
  rotate_left
  ·intro w'
   go_simp
   with_reducible rfl
  rotate_left
  ·simp only [Act.put, sT, sZ, sS, i64_w, i32_w]
   rfl
  refine take_ (i := 1) (N := some 23) (v := ?_) (a' := ?_) #[true, true, false, false, true, false, false, false] rfl rfl (take_ofW HT_.out HW_.out (by kernel_rfl)) (fun _ _ _ h => h) (Or.inl ⟨by rfl, ?_⟩) hHeld ?_ ?_
  rotate_left
  ·rintro w' ⟨s0, s1, s2, s3, s4⟩
   go_simp
   with_reducible rfl
  rotate_left
  ·simp only [Act.put, sT, sZ, sS, i64_w, i32_w]
   rfl
  refine take_ (i := 2) (N := some 24) (v := ?_) (a' := ?_) #[true, true, true, false, true, false, false, false] rfl rfl (take_ofW HT_.out HW_.out (by kernel_rfl)) (fun _ _ _ h => h) (Or.inl ⟨by rfl, ?_⟩) hHeld ?_ ?_
  rotate_left
  ·rintro w' ⟨s0, s1, s2, s3, s4⟩
   go_simp
   with_reducible rfl
  rotate_left
  ·simp only [Act.put, sT, sZ, sS, i64_w, i32_w]
   rfl
  refine take_ (i := 5) (N := some 27) (v := ?_) (a' := ?_) #[true, true, true, false, true, true, false, false] rfl rfl (take_ofW HT_.out HW_.out (by kernel_rfl)) (fun _ _ _ h => h) (Or.inl ⟨by rfl, ?_⟩) hHeld ?_ ?_
  rotate_left
  ·rintro w' ⟨s0, s1, s2, s3, s4⟩
   go_simp
   with_reducible rfl
  rotate_left
  ·simp only [Act.put, sT, sZ, sS, i64_w, i32_w]
   rfl
  refine one_ (i := 3) (N := some 25) #[true, true, true, true, true, true, false, false] rfl rfl (one_of HT_.out (by kernel_rfl)) (by decide) (fun K hK => ?_)
  refine goes_ Try.func54 (by kernel_rfl) rfl #[.int .i64 a0_0, .int .i64 0, .agg #[.int .i64 a1_0, .int .i64 a1_1]] (by rfl) rfl rfl ar_ ?_
  with_reducible refine (spec_pzValue.calls k a0_0 0 a1_0 a1_1 t272 _ A17.out).mono ?_
  rintro e w23 ⟨rfl, hb⟩
  refine ⟨_, rfl, ?_⟩
  have n0_ := Aside0.mk (blk_below (g := gb269) (o := .cells #[.int .i64 a0_0, .int .i64 a0_1, .int .i64 a0_2] 25 (0, 0)) (kx_ BK269.out) hb)
  have n1_ := Aside0.mk (blk_below (g := gb270) (o := .cells #[.int .i64 a1_0, .int .i64 a1_1] 49 (0, 0)) (kx_ BK270.out) hb)
  have n2_ := Aside0.mk (below_step (hm_) hb)
  clear BK269
  clear BK270
  clear HB
  have BK269 := n0_
  have BK270 := n1_
  have HB := n2_
  clear n0_ n1_ n2_
  (try clear hb)
  (try clear hb2)
  (try clear hk)
  (try clear hi)
  refine hK.out _ _ ⟨bc_ BK269 0, bc_ BK269 1, bc_ BK269 2, bc_ BK270 0, bc_ BK270 1⟩ (fun hHeld => ?_)
  clear hK K
  refine norm_ (a' := ?_) ?_ ?_
  rotate_left
  ·show Act.put _ (some 25) _ = _
   simp only [Act.put, sT, sZ, sS, i64_w, i32_w]
   rfl
  refine pure_ (i := 6) (N := some 28) (v := ?_) (a' := ?_) #[true, true, true, true, true, true, true, false] rfl rfl (any_of HT_.out (by kernel_rfl)) (fun _ _ _ h => h) (Or.inl ⟨by rfl, ?_⟩) ?_ ?_
  rotate_left
  ·intro w'
   go_simp
   with_reducible rfl
  rotate_left
  ·simp only [Act.put, sT, sZ, sS, i64_w, i32_w]
   rfl
  refine pure_ (i := 7) (N := some 4) (v := ?_) (a' := ?_) #[true, true, true, true, true, true, true, true] rfl rfl (any_of HT_.out (by kernel_rfl)) (fun _ _ _ h => h) (Or.inl ⟨by rfl, ?_⟩) ?_ ?_
  rotate_left
  ·intro w'
   go_simp
   with_reducible rfl
  rotate_left
  ·simp only [Act.put, sT, sZ, sS, i64_w, i32_w]
   rfl
  refine done_ (done_of HT_.out (by kernel_rfl)) ?_
  try go_wp2
  go_ret
  exact ⟨by first | rfl | (simp [errW_none, errW_some] <;> rfl) | (simp [*, errW_none, errW_some] <;> rfl), hm_⟩
end Go.Proofs.Ytcfcjpcoofjckaa.Pr
/- What a clue tells of a hidden star: the program and the reference tell the same. -/
namespace Go.Proofs.Ytcfcjpcoofjckaa.M
open Go.RowKit Go.Proofs.YtcfcjpcoofjckaaW.PrintWords Go.Proofs.Ytcfcjpcoofjckaa.Pr
def gcdV (n s : Int) : Int := (Nat.gcd s.toNat n.toNat : Nat)
theorem divisor_ev : ∀ (b a : Nat), Ev (fun k => impl_divisor.l0 k (a : Int) (b : Int)) ((Nat.gcd b a : Nat) : Int) := by
  intro b
  induction b using Nat.strongRecOn with
  | ind b ih =>
    intro a
    refine Ev.step (fun k => by rw [impl_divisor.l0]) ?_
    by_cases hb : b = 0
    · subst hb
      refine Ev.neg (by omega) (Ev.val ?_)
      simp
    · refine Ev.pos (by omega) (Ev.neg (by omega) ?_)
      rw [Nat.gcd_rec]
      have e : Int.tmod (a : Int) (b : Int) = ((a % b : Nat) : Int) := (Int.ofNat_tmod a b).symm
      rw [e]
      exact ih (a % b) (Nat.mod_lt _ (by omega)) b
theorem common_ev : ∀ (b a : Nat), Ev (fun k => spec_srCommon.l0 k (a : Int) (b : Int)) ((Nat.gcd b a : Nat) : Int) := by
  intro b
  induction b using Nat.strongRecOn with
  | ind b ih =>
    intro a
    refine Ev.step (fun k => by rw [spec_srCommon.l0]) ?_
    by_cases hb : b = 0
    · subst hb
      refine Ev.neg (by omega) (Ev.val ?_)
      simp
    · refine Ev.pos (by omega) (Ev.neg (by omega) ?_)
      rw [Nat.gcd_rec]
      have e : Int.tmod (a : Int) (b : Int) = ((a % b : Nat) : Int) := (Int.ofNat_tmod a b).symm
      rw [e]
      exact ih (a % b) (Nat.mod_lt _ (by omega)) b
theorem strings_ev (n s : Int) (hn : 0 ≤ n) (hs : 0 ≤ s) : Ev (fun k => impl_Star_strings.f k n s) (gcdV n s) := by
  unfold impl_Star_strings.f impl_divisor.f gcdV
  have e := divisor_ev s.toNat n.toNat
  rw [Int.toNat_of_nonneg hn, Int.toNat_of_nonneg hs] at e
  exact Ev.bindk e (Ev.val rfl)
theorem srCommon_ev (n s : Int) (hn : 0 ≤ n) (hs : 0 ≤ s) : Ev (fun k => spec_srCommon.f k n s) (gcdV n s) := by
  unfold spec_srCommon.f gcdV
  have e := common_ev s.toNat n.toNat
  rw [Int.toNat_of_nonneg hn, Int.toNat_of_nonneg hs] at e
  exact e
theorem gcdV_pos (n s : Int) (hn : 1 ≤ n) : gcdV n s ≠ 0 := by
  unfold gcdV
  have := Nat.gcd_pos_of_pos_right s.toNat (show 0 < n.toNat by omega)
  omega
def hidB (n s : Int) : Bool := okStar n s && decide (n ≤ 14)
theorem hid_in {n s : Int} (h : hidB n s = true) : 3 ≤ n ∧ n ≤ 14 ∧ 1 ≤ s ∧ s < n := by
  simp only [hidB, okStar, inB, Bool.and_eq_true, decide_eq_true_eq] at h
  omega
/-- A star's chords, in order. -/
def chS (n s : Int) : List Ch := setC (chsFrom n s n.toNat 0)
theorem chS_len (n s : Int) : (chS n s).length ≤ n.toNat := by
  have := setC_length (chsFrom n s n.toNat 0)
  rw [chsFrom_length] at this
  exact this
/-- What a clue of a kind, other than 4, tells of a star. -/
def tellV (a n s : Int) : Int := if a = 0 then n else if a = 1 then gcdV n s else if a = 2 then wrap64 (Int.tdiv s (gcdV n s)) else if a = 3 then (pairsN (chS n s) : Int) else ((chS n s).length : Int)
theorem told_ev (a n s : Int) (h : hidB n s = true) : Ev (fun k => impl_told.f k a n s) (tellV a n s) := by
  have hh := hid_in h
  have hl := chS_len n s
  unfold impl_told.f tellV
  by_cases h0 : a = 0
  · rw [if_pos h0]
    exact Ev.pos h0 (Ev.val rfl)
  · rw [if_neg h0]
    refine Ev.neg h0 ?_
    by_cases h1 : a = 1
    · rw [if_pos h1]
      exact Ev.pos h1 (Ev.bindk (strings_ev n s (by omega) (by omega)) (Ev.val rfl))
    · rw [if_neg h1]
      refine Ev.neg h1 ?_
      by_cases h2 : a = 2
      · rw [if_pos h2]
        exact Ev.pos h2 (Ev.bindk (strings_ev n s (by omega) (by omega)) (Ev.neg (gcdV_pos n s (by omega)) (Ev.val rfl)))
      · rw [if_neg h2]
        refine Ev.neg h2 ?_
        by_cases h3 : a = 3
        · rw [if_pos h3]
          exact Ev.pos h3 (Ev.bindk (chords_ev n s ⟨by omega, by omega⟩ ⟨by omega, by omega⟩) (Ev.bindk (crossings_evB _ (show (chS n s).length ≤ 1000 by omega)) (Ev.val rfl)))
        · rw [if_neg h3]
          exact Ev.neg h3 (Ev.bindk (chords_ev n s ⟨by omega, by omega⟩ ⟨by omega, by omega⟩) (Ev.val rfl))
theorem value_ev (a p n s : Int) (ha : a ≠ 4) (h : hidB n s = true) : Ev (fun k => spec_pzValue.f k a p n s) (tellV a n s) := by
  have hh := hid_in h
  have hl := chS_len n s
  have hv := chords_ok n s ⟨by omega, by omega⟩ ⟨by omega, by omega⟩
  unfold spec_pzValue.f tellV
  by_cases h0 : a = 0
  · rw [if_pos h0]
    exact Ev.pos h0 (Ev.val rfl)
  · rw [if_neg h0]
    refine Ev.neg h0 ?_
    by_cases h1 : a = 1
    · rw [if_pos h1]
      exact Ev.pos h1 (Ev.bindk (srCommon_ev n s (by omega) (by omega)) (Ev.val rfl))
    · rw [if_neg h1]
      refine Ev.neg h1 ?_
      by_cases h2 : a = 2
      · rw [if_pos h2]
        exact Ev.pos h2 (Ev.bindk (srCommon_ev n s (by omega) (by omega)) (Ev.neg (gcdV_pos n s (by omega)) (Ev.val rfl)))
      · rw [if_neg h2]
        refine Ev.neg h2 ?_
        by_cases h3 : a = 3
        · rw [if_pos h3]
          exact Ev.pos h3 (Ev.bindk (srChords_ev n s ⟨by omega, by omega⟩ ⟨by omega, by omega⟩) (Ev.bindk (srCount_ev _ (show (chS n s).length ≤ 1000 by omega) (fun c hc => (hv c hc).2.1)) (Ev.val rfl)))
        · rw [if_neg h3]
          exact Ev.neg h3 (Ev.neg ha (Ev.bindk (srChords_ev n s ⟨by omega, by omega⟩ ⟨by omega, by omega⟩) (Ev.val rfl)))
/-- Whether a star fits a clue. -/
def fitB (a b c n s : Int) : Bool := if a = 4 then (decide (b < n) && (Int.tmod (wrap64 (b + s)) n == c)) else tellV a n s == b
theorem fits_ev (a b c n s : Int) (h : hidB n s = true) : Ev (fun k => impl_fits.f k a b c n s) (fitB a b c n s) := by
  have hh := hid_in h
  unfold impl_fits.f fitB
  by_cases h4 : a = 4
  · rw [if_pos h4]
    refine Ev.pos h4 ?_
    by_cases hb : b < n
    · rw [decide_eq_true hb]
      exact Ev.pos hb (Ev.neg (by omega) (Ev.val rfl))
    · rw [decide_eq_false hb]
      exact Ev.neg hb (Ev.val rfl)
  · rw [if_neg h4]
    exact Ev.neg h4 (Ev.bindk (told_ev a n s h) (Ev.val rfl))
theorem pzFits_ev (a b c n s : Int) (h : hidB n s = true) : Ev (fun k => spec_pzFits.f k a b c n s) (fitB a b c n s) := by
  have hh := hid_in h
  unfold spec_pzFits.f fitB
  by_cases h4 : a = 4
  · rw [if_pos h4]
    refine Ev.pos h4 ?_
    by_cases hb : b < n
    · rw [decide_eq_true hb]
      refine Ev.pos hb (Ev.bindk (a := Int.tmod (wrap64 (b + s)) n) ?_ (Ev.val rfl))
      unfold spec_pzValue.f
      exact Ev.neg (by omega) (Ev.neg (by omega) (Ev.neg (by omega) (Ev.neg (by omega) (Ev.pos rfl (Ev.neg (by omega) (Ev.val rfl))))))
    · rw [decide_eq_false hb]
      exact Ev.neg hb (Ev.val rfl)
  · rw [if_neg h4]
    exact Ev.neg h4 (Ev.bindk (value_ev a 0 n s h4 h) (Ev.val rfl))
end Go.Proofs.Ytcfcjpcoofjckaa.M
/- Which stars there are. -/
namespace Go.Proofs.Ytcfcjpcoofjckaa.M
open Go.RowKit Go.Proofs.YtcfcjpcoofjckaaW.PrintWords Go.Proofs.Ytcfcjpcoofjckaa.Pr
theorem isStar_eq (n s : Int) : impl_IsStar.f n s = some (okStar n s) := by
  unfold impl_IsStar.f impl_isCircle.f okStar
  simp only [within_eq, Option.bind_some]
  by_cases h : 3 ≤ n ∧ n ≤ 60
  · rw [if_pos (by simpa [inB] using h), w64 (by omega) (by omega), decide_eq_true h]; rfl
  · rw [if_neg (by simpa [inB] using h), decide_eq_false h]; rfl
theorem srGood_eq (n s : Int) : spec_srGood.f n s = some (okStar n s) := by
  unfold spec_srGood.f spec_srPoints.f okStar
  simp only [l1In_eq, Option.bind_some]
  by_cases h : 3 ≤ n ∧ n ≤ 60
  · rw [if_pos (by simpa [inB] using h), w64 (by omega) (by omega), decide_eq_true h]; rfl
  · rw [if_neg (by simpa [inB] using h), decide_eq_false h]; rfl
end Go.Proofs.Ytcfcjpcoofjckaa.M
/- Which stars are hidden ones. -/
namespace Go.Proofs.Ytcfcjpcoofjckaa.M
open Go.RowKit Go.Proofs.YtcfcjpcoofjckaaW.PrintWords Go.Proofs.Ytcfcjpcoofjckaa.Pr
theorem isHidden_eq (n s : Int) : impl_isHidden.f n s = some (hidB n s) := by
  unfold impl_isHidden.f hidB
  rw [isStar_eq, Option.bind_some]
  cases okStar n s <;> rfl
theorem pzHidden_eq (n s : Int) : spec_pzHidden.f n s = some (hidB n s) := by
  unfold spec_pzHidden.f hidB
  rw [srGood_eq, Option.bind_some]
  cases okStar n s <;> rfl
end Go.Proofs.Ytcfcjpcoofjckaa.M
/- The statements' own comparison of two lists of clues. -/
namespace Go.Proofs.Ytcfcjpcoofjckaa.M
open Go.RowKit Go.Proofs.YtcfcjpcoofjckaaW.PrintWords Go.Proofs.Ytcfcjpcoofjckaa.Pr
abbrev Cl := S25
theorem rd_cl (l : List Cl) (i : Nat) (h : i < l.length) : rd_T25 l (i : Int) = l[i] := by
  unfold rd_T25
  simp [List.getD_eq_getElem?_getD, List.getElem?_eq_getElem h]
theorem eqClS_ev (l : List Cl) (hl : l.length ≤ 9223372036854775806) : Ev (fun k => laws_eqClueS.f k l l) true := by
  unfold laws_eqClueS.f
  refine Ev.pos rfl ?_
  have e := Ev.scan0 (fun k i (_ : Unit) => laws_eqClueS.l0 k l l i) l (fun _ _ => true) (fun _ _ => True)
    (fun acc _ => by
      refine Ev.step (fun k => by rw [laws_eqClueS.l0]) ?_
      exact Ev.neg (by omega) (Ev.now true))
    (fun i h acc _ => by
      refine .inl ⟨(), trivial, rfl, fun r hr2 => ?_⟩
      refine Ev.step (fun k => by rw [laws_eqClueS.l0]) ?_
      refine Ev.pos (by omega) (Ev.pos (by omega) (Ev.pos (by omega) ?_))
      refine Ev.bindc (a := true) (by unfold laws_eqClue.f; simp) (Ev.pos rfl ?_)
      rw [w64 (x := (i : Int) + 1) (by omega) (by omega)]
      exact hr2) () trivial
  exact e
theorem eqP_ev (l : List Cl) (hl : l.length ≤ 9223372036854775806) : Ev (fun k => laws_eqPuzzle.f k l l) true := by
  unfold laws_eqPuzzle.f
  exact Ev.bindk (eqClS_ev l hl) (Ev.pos rfl (Ev.val rfl))
end Go.Proofs.Ytcfcjpcoofjckaa.M
/- The statements' own helpers on lists of clues: marked and held. -/
namespace Go.Proofs.Ytcfcjpcoofjckaa.M
open Go.RowKit Go.Proofs.YtcfcjpcoofjckaaW.PrintWords Go.Proofs.Ytcfcjpcoofjckaa.Pr
def upT (m : Int) (n : Nat) : List Cl := (List.range n).map fun (i : Nat) => ⟨m + 3 * (i : Int), m + 3 * (i : Int) + 1, m + 3 * (i : Int) + 2⟩
theorem upT_length (m : Int) (n : Nat) : (upT m n).length = n := by simp [upT]
theorem upT_succ (m : Int) (n : Nat) : upT m (n + 1) = upT m n ++ [⟨m + 3 * (n : Int), m + 3 * (n : Int) + 1, m + 3 * (n : Int) + 2⟩] := by
  unfold upT
  rw [List.range_succ, List.map_append]
  rfl
theorem upT_get (m : Int) (n i : Nat) (h : i < (upT m n).length) : (upT m n)[i] = ⟨m + 3 * (i : Int), m + 3 * (i : Int) + 1, m + 3 * (i : Int) + 2⟩ := by
  simp [upT]
theorem setT_mid (A : List Cl) (x v : Cl) (r : List Cl) : (A ++ x :: r).set A.length v = A ++ v :: r := by
  rw [List.set_append_right _ _ (Nat.le_refl _), Nat.sub_self, List.set_cons_zero]
theorem markClS_ev (l : List Cl) (m : Int) (hm : 0 ≤ m) (hb : m + 3 * l.length ≤ 9223372036854775806) : Ev (fun k => laws_markClueS.f k l m) (m + 3 * (l.length : Int), upT m l.length) := by
  unfold laws_markClueS.f
  exact Ev.scan0 (fun k i (acc : List Cl × Int) => laws_markClueS.l0 k acc.1 acc.2 i) l (fun _ _ => (m + 3 * (l.length : Int), upT m l.length)) (fun i acc => acc = (upT m i ++ l.drop i, m + 3 * (i : Int)))
    (fun acc hp => by
      refine Ev.step (fun k => by rw [laws_markClueS.l0]) ?_
      rw [hp]
      refine Ev.neg (by simp [upT_length]) (Ev.val ?_)
      simp)
    (fun i h acc hp => by
      refine .inl ⟨(upT m (i + 1) ++ l.drop (i + 1), m + 3 * ((i + 1 : Nat) : Int)), rfl, rfl, fun r hr2 => ?_⟩
      refine Ev.step (fun k => by rw [laws_markClueS.l0]) ?_
      rw [hp]
      have hll : (upT m i ++ l.drop i).length = l.length := by simp [upT_length]; omega
      refine Ev.pos (by rw [hll]; omega) (Ev.pos (by omega) ?_)
      simp only [Option.bind_some]
      have h2 : ∀ u v : Cl, (upT m i ++ u :: l.drop (i + 1)).set i v = upT m i ++ v :: l.drop (i + 1) := by
        intro u v
        have := setT_mid (upT m i) u v (l.drop (i + 1))
        rwa [upT_length] at this
      have hg : ∀ u : Cl, rd_T25 (upT m i ++ u :: l.drop (i + 1)) (i : Int) = u := by
        intro u
        have hlt : i < (upT m i ++ u :: l.drop (i + 1)).length := by simp [upT_length]
        rw [rd_cl _ i hlt, List.getElem_append_right (by rw [upT_length]; exact Nat.le_refl _)]
        simp [upT_length]
      rw [Int.toNat_natCast, List.drop_eq_getElem_cons h]
      simp only [h2, hg]
      rw [w64 (x := (i : Int) + 1) (by omega) (by omega), w64 (x := m + 3 * (i : Int) + 1) (by omega) (by omega), w64 (x := m + 3 * (i : Int) + 1 + 1) (by omega) (by omega), w64 (x := m + 3 * (i : Int) + 1 + 1 + 1) (by omega) (by omega)]
      rw [upT_succ, List.append_assoc] at hr2
      have e2 : m + 3 * ((i + 1 : Nat) : Int) = m + 3 * (i : Int) + 1 + 1 + 1 := by omega
      have e3 : m + 3 * (i : Int) + 2 = m + 3 * (i : Int) + 1 + 1 := by omega
      rw [e2, e3] at hr2
      exact hr2)
    (l, m) (by simp [upT])
theorem heldClS_ev (n : Nat) (m : Int) (hm : 0 ≤ m) (hb : m + 3 * n ≤ 9223372036854775806) : Ev (fun k => laws_heldClueS.f k (upT m n) m) (m + 3 * (n : Int)) := by
  unfold laws_heldClueS.f
  have e := Ev.scan0 (fun k i (acc : Int) => laws_heldClueS.l0 k (upT m n) acc i) (upT m n) (fun _ _ => m + 3 * (n : Int)) (fun i acc => acc = m + 3 * (i : Int))
    (fun acc hp => by
      refine Ev.step (fun k => by rw [laws_heldClueS.l0]) ?_
      refine Ev.neg (by omega) (Ev.val ?_)
      rw [hp, upT_length])
    (fun i h acc hp => by
      refine .inl ⟨m + 3 * ((i + 1 : Nat) : Int), rfl, rfl, fun r hr2 => ?_⟩
      have hn : i < n := by rw [upT_length] at h; exact h
      refine Ev.step (fun k => by rw [laws_heldClueS.l0]) ?_
      refine Ev.pos (by omega) (Ev.pos (by omega) ?_)
      rw [rd_cl _ i h, upT_get, hp]
      rw [w64 (x := (i : Int) + 1) (by omega) (by omega), w64 (x := m + 3 * (i : Int) + 1) (by omega) (by omega), w64 (x := m + 3 * (i : Int) + 1 + 1) (by omega) (by omega), w64 (x := m + 3 * (i : Int) + 1 + 1 + 1) (by omega) (by omega)]
      refine Ev.pos rfl (Ev.pos rfl (Ev.pos (by show m + 3 * (i : Int) + 2 = _; omega) ?_))
      have e2 : m + 3 * ((i + 1 : Nat) : Int) = m + 3 * (i : Int) + 1 + 1 + 1 := by omega
      rw [e2] at hr2
      exact hr2)
    m (by simp)
  exact e
theorem markP_ev (l : List Cl) (hb : l.length ≤ 1048576) : Ev (fun k => laws_markPuzzle.f k l 1) (1 + 3 * (l.length : Int), upT 1 l.length) := by
  unfold laws_markPuzzle.f
  exact Ev.bindk (markClS_ev l 1 (by omega) (by omega)) (Ev.val rfl)
theorem heldP_ev (n : Nat) (hb : n ≤ 1048576) : Ev (fun k => laws_heldPuzzle.f k (upT 1 n) 1) (1 + 3 * (n : Int)) := by
  unfold laws_heldPuzzle.f
  exact Ev.bindk (heldClS_ev n 1 (by omega) (by omega)) (Ev.neg (by omega) (Ev.val rfl))
end Go.Proofs.Ytcfcjpcoofjckaa.M
/- MakePuzzle: the plain law. -/
namespace Go.Proofs.Ytcfcjpcoofjckaa.Pure
open Go.RowKit Go.Proofs.Ytcfcjpcoofjckaa.Pr Go.Proofs.YtcfcjpcoofjckaaW.PrintWords Go.Proofs.YtcfcjpcoofjckaaW.PrintLast Go.Proofs.Ytcfcjpcoofjckaa.M
/-- A clue that a star fits, of a kind and a number. -/
def clV (a y n s : Int) : Cl := if a = 4 then ⟨a, Int.tmod y n, Int.tmod (wrap64 (Int.tmod y n + s)) n⟩ else ⟨a, tellV a n s, 0⟩
def mkL (n s : Int) : Nat → Int → List Cl → List Cl
  | 0, _, out => out
  | d + 1, z, out => mkL n s d (nextZ (nextZ z)) (out ++ [clV (Int.tmod (nextZ z) 6) (nextZ (nextZ z)) n s])
theorem mkL_len (n s : Int) : ∀ (d : Nat) (z : Int) (out : List Cl), (mkL n s d z out).length = out.length + d
  | 0, _, _ => rfl
  | d + 1, z, out => by
    rw [mkL, mkL_len n s d]
    simp
    omega
theorem mk_impl (n s : Int) (h : hidB n s = true) : ∀ (d : Nat) (z : Int) (out : List Cl), Ev (fun k => mkF k n s d z out) (mkL n s d z out)
  | 0, z, out => Ev.val rfl
  | d + 1, z, out => by
    have hh := hid_in h
    have ih := fun z out => mk_impl n s h d z out
    show Ev (fun k => if Int.tmod (nextZ z) 6 = 4 then (if n = 0 then none else mkF k n s d (nextZ (nextZ z)) (out ++ [⟨Int.tmod (nextZ z) 6, Int.tmod (nextZ (nextZ z)) n, Int.tmod (wrap64 (Int.tmod (nextZ (nextZ z)) n + s)) n⟩]))
      else (impl_told.f k (Int.tmod (nextZ z) 6) n s).bind fun v => mkF k n s d (nextZ (nextZ z)) (out ++ [⟨Int.tmod (nextZ z) 6, v, 0⟩])) _
    rw [mkL]
    unfold clV
    by_cases hk : Int.tmod (nextZ z) 6 = 4
    · rw [if_pos hk]
      exact Ev.pos hk (Ev.neg (by omega) (ih _ _))
    · rw [if_neg hk]
      exact Ev.neg hk (Ev.bindk (told_ev _ n s h) (ih _ _))
theorem next_spec (z : Int) : spec_pzNext.f z = some (nextZ z) := by
  unfold spec_pzNext.f nextZ
  rw [Int.mul_comm]
theorem of_spec (a y n s : Int) (h : hidB n s = true) : Ev (fun k => spec_pzOf.f k a y n s) ((clV a y n s).f0, (clV a y n s).f1, (clV a y n s).f2) := by
  have hh := hid_in h
  unfold spec_pzOf.f clV
  by_cases hk : a = 4
  · rw [if_pos hk]
    refine Ev.pos hk (Ev.neg (by omega) (Ev.bindk (a := Int.tmod (wrap64 (Int.tmod y n + s)) n) ?_ (Ev.val (by rw [hk]))))
    unfold spec_pzValue.f
    exact Ev.neg (by omega) (Ev.neg (by omega) (Ev.neg (by omega) (Ev.neg (by omega) (Ev.pos rfl (Ev.neg (by omega) (Ev.val rfl))))))
  · rw [if_neg hk]
    exact Ev.neg hk (Ev.bindk (value_ev a 0 n s hk h) (Ev.val rfl))
theorem mk_spec (n s : Int) (h : hidB n s = true) : ∀ (d : Nat) (z : Int) (out : List Cl), out.length + d ≤ 6 → Ev (fun k => spec_MakePuzzle.l0 k (d : Int) z n s out) (mkL n s d z out, true)
  | 0, z, out, _ => by
    refine Ev.step (fun k => by rw [spec_MakePuzzle.l0]) ?_
    exact Ev.neg (by decide) (Ev.val rfl)
  | d + 1, z, out, hd => by
    refine Ev.step (fun k => by rw [spec_MakePuzzle.l0]) ?_
    refine Ev.pos (by omega) (Ev.bindc (next_spec _) (Ev.bindc (next_spec _) (Ev.bindk (of_spec _ _ n s h) (Ev.pos (by omega) ?_))))
    have e : wrap64 (((d + 1 : Nat) : Int) - 1) = (d : Int) := by rw [show ((d + 1 : Nat) : Int) - 1 = (d : Int) by omega]; exact w64 (by omega) (by omega)
    rw [e]
    exact mk_spec n s h d _ _ (by rw [List.length_append, List.length_singleton]; omega)
/-- What both tell. -/
def makeR (n s a1 a2 : Int) : List Cl × Bool := if hidB n s = true ∧ (0 ≤ a1 ∧ a1 ≤ 6) ∧ 0 ≤ a2 ∧ a2 ≤ 9999 then (mkL n s a1.toNat a2 [], true) else ([], false)
theorem make_small (n s a1 a2 : Int) : (makeR n s a1 a2).1.length ≤ 6 := by
  unfold makeR
  split
  · rename_i h
    show (mkL n s a1.toNat a2 []).length ≤ 6
    rw [mkL_len]
    simp
    omega
  · simp
theorem make_impl (n s a1 a2 : Int) : Ev (fun k => impl_MakePuzzle.f k n s a1 a2) (makeR n s a1 a2) := by
  unfold impl_MakePuzzle.f makeR
  refine Ev.bindc (isHidden_eq n s) ?_
  by_cases h : hidB n s = true ∧ (0 ≤ a1 ∧ a1 ≤ 6) ∧ 0 ≤ a2 ∧ a2 ≤ 9999
  · rw [if_pos h]
    exact Ev.pos h (Ev.bindk (mk_impl n s h.1 _ _ _) (Ev.val rfl))
  · rw [if_neg h]
    exact Ev.neg h (Ev.val rfl)
theorem j0_no (n s a1 a2 : Int) : Ev (fun k => spec_MakePuzzle.j0 k a1 a2 true n s) ([], false) := by
  refine Ev.step (fun k => by rw [spec_MakePuzzle.j0]) ?_
  exact Ev.pos rfl (Ev.val rfl)
theorem make_spec (n s a1 a2 : Int) : Ev (fun k => spec_MakePuzzle.f k n s a1 a2) (makeR n s a1 a2) := by
  unfold spec_MakePuzzle.f makeR
  refine Ev.bindc (pzHidden_eq n s) ?_
  by_cases h : hidB n s = true
  · refine Ev.pos h (Ev.bindc (l1In_eq a1 0 6) ?_)
    by_cases h1 : inB a1 0 6 = true
    · refine Ev.pos h1 (Ev.bindc (l1In_eq a2 0 9999) ?_)
      by_cases h2 : inB a2 0 9999 = true
      · have g1 := h1
        have g2 := h2
        simp only [inB, Bool.and_eq_true, decide_eq_true_eq] at g1 g2
        rw [if_pos ⟨h, g1, g2⟩, h2]
        refine Ev.step (fun k => by rw [spec_MakePuzzle.j0]) ?_
        refine Ev.neg (by decide) ?_
        have e := mk_spec n s h a1.toNat a2 [] (by simp; omega)
        rw [Int.toNat_of_nonneg g1.1] at e
        exact e
      · rw [if_neg (fun e => h2 (by simp only [inB, Bool.and_eq_true, decide_eq_true_eq]; exact e.2.2)), Bool.eq_false_iff.2 h2]
        exact j0_no n s a1 a2
    · rw [if_neg (fun e => h1 (by simp only [inB, Bool.and_eq_true, decide_eq_true_eq]; exact e.2.1))]
      exact Ev.neg h1 (j0_no n s a1 a2)
  · rw [if_neg (fun e => h e.1)]
    exact Ev.neg h (j0_no n s a1 a2)
theorem FnExactMakePuzzle : ∀ (a0_0 a0_1 a1 a2 : Int), (Lit.int .i64 a0_0).wf = true → (Lit.int .i64 a0_1).wf = true → (Lit.int .i64 a1).wf = true → (Lit.int .i64 a2).wf = true → ∃ k, laws_FnExactMakePuzzle.f k a0_0 a0_1 a1 a2 = some true := by
  intro n s a1 a2 _ _ _ _
  suffices h : Ev (fun k => laws_FnExactMakePuzzle.f k n s a1 a2) true by
    obtain ⟨k, hk⟩ := h
    exact ⟨k, hk k (Nat.le_refl k)⟩
  unfold laws_FnExactMakePuzzle.f
  have hs := make_small n s a1 a2
  have hi := make_impl n s a1 a2
  refine Ev.bindc (a := (n, s)) rfl (Ev.bindk (make_spec n s a1 a2) (Ev.bindc (a := (n, s)) rfl (Ev.bindk hi ?_)))
  generalize makeR n s a1 a2 = y at hs hi
  refine Ev.bindk (eqP_ev y.1 (by omega)) (Ev.pos rfl (Ev.step (fun k => by rw [laws_FnExactMakePuzzle.j0]) ?_))
  refine Ev.neg (by simp) (Ev.bindk (markP_ev y.1 (by omega)) (Ev.bindk (heldP_ev _ (by omega)) (Ev.neg (by omega) (Ev.pos rfl ?_))))
  refine Ev.bindc (a := (n, s)) rfl (Ev.bindk hi (Ev.bindk (eqP_ev y.1 (by omega)) (Ev.pos rfl (Ev.step (fun k => by rw [laws_FnExactMakePuzzle.j1]) ?_))))
  exact Ev.neg (by simp) (Ev.bindk (heldP_ev _ (by omega)) (Ev.neg (by omega) (Ev.pos rfl (Ev.val rfl))))
end Go.Proofs.Ytcfcjpcoofjckaa.Pure
/- Shared steps of the rows: an argument that is a slice of structs of whole numbers, read as a list of lists of numbers. -/
namespace Go.Proofs.Ytcfcjpcoofjckaa.RowA
open Go.ChangeShapes Go.WideShapes Go.Deep Go.RowKit Go.Proofs.YtcfcjpcoofjckaaW.PrintWords
section
variable {H : Type} {enc : TypeId × Value → H} {P : Program} {w : World} {base : Nat} {spare : Nat → Bool} {held : Bool}
/-- A slice of structs whose fields are one cell each: nil, or an address with, for each element and each field, the cell and the field's own reading. -/
theorem open_cells {t e : TypeId} {fs : Array Field} {fuel : Nat} {cs : List Value} {x : DataW H × List MemPlace} (ht : P.underlying t = some (.slice e)) (he : P.underlying e = some (.struct fs))
    (hone : oneCellFields P fs = true) (hC : P.cellsOf e = fs.size) (h : DataW.trod enc P w base spare held fuel t cs = some x) :
    cs = [.slice none 0 0] ∨
    ∃ (a : Addr) (len cap : Nat), cs = [.slice (some a) len cap] ∧ len ≤ cap ∧ cap ≤ maxLen ∧
      ∀ i, i < len → ∃ n, ∀ (j : Nat) (f : Field), fs[j]? = some f → ∃ (v : Value) (y : DataW H × List MemPlace), w.cell? (a.add (i * fs.size + j)) = some v ∧ DataW.trod enc P w base spare held n f.type [v] = some y := by
  rcases open_slice ht h with h0 | ⟨a, len, cap, m, n, D, Pl, hcs, hb, hl, hm, hmm, hx, hi⟩
  · exact .inl h0.1
  · refine .inr ⟨a, len, cap, hcs, hl, hm, fun i hil => ?_⟩
    have him : i < m := by
      rw [hmm]
      split
      · omega
      · exact hil
    obtain ⟨cs', hc, ht'⟩ := hi i him
    rw [hC] at hc
    obtain ⟨ys, n', hn', hy, hlen, hyl, hf⟩ := DataW.trod_struct he ht'
    obtain ⟨_, hcl, hat⟩ := World.cells?_some hc
    refine ⟨n', fun j f hj => ?_⟩
    obtain ⟨ho, hk⟩ := hone_of hone j f hj
    have hjl : j < fs.size := (Array.getElem?_eq_some_iff.1 hj).1
    have hcell := hat j hjl
    have hv : cs'[j]? = some (cs'[j]'(by omega)) := List.getElem?_eq_getElem (by omega)
    have h1 := hf j f hj
    rw [ho, hk] at h1
    have hone' : (cs'.drop j).take 1 = [cs'[j]'(by omega)] := by
      rw [List.drop_eq_getElem_cons (by omega)]
      rfl
    rw [hone'] at h1
    have hys : ys[j]? = some (ys[j]'(by omega)) := List.getElem?_eq_getElem (by omega)
    refine ⟨_, _, ?_, h1.trans hys⟩
    rw [← Go.Deep.add_add, hcell, hv]
/-- One whole number's reading. -/
theorem read_i64 {t : TypeId} {n : Nat} {v : Value} {y : DataW H × List MemPlace} (hu : P.underlying t = some (.int .i64)) (h : DataW.trod enc P w base spare held n t [v] = some y) :
    ∃ z : Int, v = .int .i64 z ∧ (Lit.int .i64 z).wf = true := by
  obtain ⟨z, hz, _, hw⟩ := DataW.trod_int hu h
  simp at hz
  exact ⟨z, hz, hw⟩
/-- A slice of structs of m whole numbers, as it is handed over: the numbers by element and field. -/
theorem open_nums {t e : TypeId} {fs : Array Field} {a : Option Addr} {len cap : Nat} {d : DataW H} {ps : List MemPlace} (ht : P.underlying t = some (.slice e)) (he : P.underlying e = some (.struct fs))
    (hone : oneCellFields P fs = true) (hC : P.cellsOf e = fs.size) (hi : ∀ (j : Nat) (f : Field), fs[j]? = some f → P.underlying f.type = some (.int .i64))
    (h : DataW.Trod enc P w base spare held t (.slice a len cap) d ps) :
    len ≤ cap ∧ len ≤ maxLen ∧ ∃ z : Nat → Nat → Int, (∀ i j, i < len → j < fs.size → (Lit.int .i64 (z i j)).wf = true) ∧
      (0 < len → ∃ ad, a = some ad ∧ ∀ i j, i < len → j < fs.size → w.cell? (ad.add (i * fs.size + j)) = some (.int .i64 (z i j))) := by
  obtain ⟨fuel, hf⟩ := h
  rcases open_cells ht he hone hC hf with hcs | ⟨x, l, c, hcs, hl, hm, hcell⟩
  · simp [Value.cells] at hcs
    obtain ⟨rfl, rfl, rfl⟩ := hcs
    exact ⟨Nat.le_refl _, Nat.zero_le _, fun _ _ => 0, fun i j h => absurd h (Nat.not_lt_zero _), fun h => absurd h (Nat.not_lt_zero _)⟩
  · simp [Value.cells] at hcs
    obtain ⟨rfl, rfl, rfl⟩ := hcs
    refine ⟨hl, Nat.le_trans hl hm, ?_⟩
    have hz : ∀ i j, ∃ z : Int, i < len → j < fs.size → w.cell? (x.add (i * fs.size + j)) = some (.int .i64 z) ∧ (Lit.int .i64 z).wf = true := by
      intro i j
      by_cases h1 : i < len
      · by_cases h2 : j < fs.size
        · obtain ⟨n, hn⟩ := hcell i h1
          obtain ⟨v, y, hv, hy⟩ := hn j fs[j] (Array.getElem?_eq_getElem h2)
          obtain ⟨z, rfl, hw⟩ := read_i64 (hi j fs[j] (Array.getElem?_eq_getElem h2)) hy
          exact ⟨z, fun _ _ => ⟨hv, hw⟩⟩
        · exact ⟨0, fun _ h => absurd h h2⟩
      · exact ⟨0, fun h _ => absurd h h1⟩
    exact ⟨fun i j => (hz i j).choose, fun i j h1 h2 => ((hz i j).choose_spec h1 h2).2, fun _ => ⟨x, rfl, fun i j h1 h2 => ((hz i j).choose_spec h1 h2).1⟩⟩
/-- The same, of one reading. -/
theorem open_nums_at {t e : TypeId} {fs : Array Field} {a : Option Addr} {len cap fuel : Nat} {x : DataW H × List MemPlace} (ht : P.underlying t = some (.slice e)) (he : P.underlying e = some (.struct fs))
    (hone : oneCellFields P fs = true) (hC : P.cellsOf e = fs.size) (hi : ∀ (j : Nat) (f : Field), fs[j]? = some f → P.underlying f.type = some (.int .i64))
    (hf : DataW.trod enc P w base spare held fuel t [.slice a len cap] = some x) :
    len ≤ cap ∧ len ≤ maxLen ∧ ∃ z : Nat → Nat → Int, (∀ i j, i < len → j < fs.size → (Lit.int .i64 (z i j)).wf = true) ∧
      (0 < len → ∃ ad, a = some ad ∧ ∀ i j, i < len → j < fs.size → w.cell? (ad.add (i * fs.size + j)) = some (.int .i64 (z i j))) :=
  open_nums (d := x.1) (ps := x.2) ht he hone hC hi ⟨fuel, by simpa [Value.cells] using hf⟩
/-- A struct of one slice. -/
theorem open_one {r : Reach} {b0 : Nat} {t e : TypeId} {f0 : Field} {v : Value} {d : DataW H} {p : List MemPlace} (hs : P.underlying t = some (.struct #[f0])) (hf0 : P.underlying f0.type = some (.slice e)) (hone : oneCellFields P #[f0] = true) (hC : P.cellsOf t = 1)
    (hv : Value.okWide P w r b0 t v) (h : DataW.Trod enc P w base spare held t v d p) :
    ∃ (a : Option Addr) (len cap : Nat) (y : DataW H × List MemPlace) (n : Nat), v = .agg #[.slice a len cap] ∧ DataW.trod enc P w base spare held n f0.type [.slice a len cap] = some y := by
  obtain ⟨cs, rfl, hsz⟩ := okWide_struct hs hv
  rw [hC] at hsz
  obtain ⟨c0, rfl⟩ : ∃ c, cs = #[c] := Array.size_eq_one_iff.mp hsz
  obtain ⟨fuel, hf⟩ := h
  obtain ⟨ys, n', hn', hy, hlen, hyl, hg⟩ := DataW.trod_struct hs hf
  obtain ⟨o0, k0⟩ := hone_of hone 0 f0 rfl
  have h1 := hg 0 f0 rfl
  rw [o0, k0] at h1
  have hv1 : (List.drop 0 (Value.agg #[c0]).cells.toList).take 1 = [c0] := rfl
  have h2 : DataW.trod enc P w base spare held n' f0.type [c0] = ys[0]? := h1
  have hys : ys[0]? = some (ys[0]'(by rw [hyl]; exact Nat.zero_lt_one)) := List.getElem?_eq_getElem _
  rw [hys] at h2
  rcases open_slice hf0 h2 with h0 | ⟨a, len, cap, m, n, D, Pl, hcs, _⟩
  · have := h0.1
    simp at this
    subst this
    exact ⟨none, 0, 0, _, n', rfl, h2⟩
  · simp at hcs
    subst hcs
    exact ⟨some a, len, cap, _, n', rfl, h2⟩
end
end Go.Proofs.Ytcfcjpcoofjckaa.RowA
/- The row of the law FnExactMakePuzzle: The program's MakePuzzle returns what the reference's returns, for all arguments. -/
namespace Go.Proofs.Ytcfcjpcoofjckaa.fnExactMakePuzzle
open Go.ChangeShapes Go.WideShapes Go.ChangeAt Go.RowKit Go.Proofs.Ytcfcjpcoofjckaa.Pr Go.Proofs.YtcfcjpcoofjckaaW.PrintWords
open Go.ChangeMaps (open_string shut_string)
theorem own : ownKnob Try.prog.godebug = none := by kernel_rfl
theorem laidOut : laidOutB Try.prog = true := by kernel_rfl
set_option maxRecDepth 100000 in
theorem lifted (os : Os) (started : os.Started) (H : Type) (enc : TypeId × Value → H) :
    ReturnsInHanded {} Try.checked os 8 .any (Rows.fnExactMakePuzzleSpec.pre6 enc Try.prog Try.f8 Rows.fnExactMakePuzzleRow.domain false) (Rows.fnExactMakePuzzleSpec.post enc Try.prog Try.f8 false true false false) := by
  refine returnsInHanded_of_change_sized (C := Try.checked) own started (by kernel_rfl) Try.func8
    (ChangeSpec.witness6 (enc := enc) (C := Try.checked) false ⟨#[], #[.agg #[.int .i64 0, .int .i64 0], .int .i64 0, .int .i64 0], []⟩ 8 (by kernel_rfl) (by kernel_rfl) (by kernel_rfl) (by kernel_rfl)) ?_
  intro W base args ds gs before hval0 hW hcnd hsz0 _
  have hsz : (DataW.weightsEach Try.prog (Try.f8.params.toList ++ Rows.fnExactMakePuzzleSpec.plain.varTypes Try.prog) (ds ++ gs)).all (· ≤ reachBytes) = true := hsz0
  have hval : ∀ (j : Nat) t v, Try.f8.params[j]? = some t → args[j]? = some v → Value.okWide Try.prog W .any base t v := hval0
  have hW' := hW
  obtain ⟨p, q, hA0, hV, rfl, hfz, hnd⟩ := hW
  have hA : DataW.TrodAll enc Try.prog W 0 (fun _ => true) true Try.f8.params.toList args.toList ds p := hA0
  rw [Try.params8] at hA hval hsz
  obtain ⟨v0, vs0, d0, ds0, p0, q0, hargs, rfl, rfl, h0, r0⟩ := trodAll_cons hA
  obtain ⟨v1, vs1, d1, ds1, p1, q1, rfl, rfl, rfl, h1, r1⟩ := trodAll_cons r0
  obtain ⟨v2, vs2, d2, ds2, p2, q2, rfl, rfl, rfl, h2, r2⟩ := trodAll_cons r1
  obtain ⟨rfl, rfl, rfl⟩ := trodAll_nil r2
  obtain rfl : args = #[v0, v1, v2] := by cases args; simp_all
  obtain ⟨rfl, rfl⟩ := trodVars_none hV
  have lt0 : ∀ x ∈ p0, x.block < W.heap.size := by obtain ⟨m, hm⟩ := h0; exact DataW.trod_lt m _ _ _ hm
  have hh0 := h0
  obtain ⟨c0_0, c0_1, e0_0, e0_1, n0, rfl, rfl, rfl, g0_0, g0_1⟩ := Joins.open_agg2 Try.underlying46 (by kernel_rfl) (by kernel_rfl) (hval 0 46 v0 rfl rfl) h0
  obtain ⟨a0_0, rfl, w0_0⟩ := RowA.read_i64 Try.underlying3 g0_0
  obtain ⟨a0_1, rfl, w0_1⟩ := RowA.read_i64 Try.underlying3 g0_1
  obtain ⟨a1, rfl, rfl, rfl, w1⟩ := open_int Try.underlying3 (hval 1 3 v1 rfl rfl) h1
  obtain ⟨a2, rfl, rfl, rfl, w2⟩ := open_int Try.underlying3 (hval 2 3 v2 rfl rfl) h2
  clear hA0 hval0 hsz0 hsz
  obtain ⟨k, hk⟩ := Pure.FnExactMakePuzzle a0_0 a0_1 a1 a2 w0_0 w0_1 w1 w2
  refine (laws_FnExactMakePuzzle.calls k a0_0 a0_1 a1 a2 true W  hk).mono fun e W' he => ?_
  obtain ⟨he, bel0⟩ := he
  have bel : Below W.heap.size W W' := bel0
  subst he
  exact ⟨_, rfl, _, _, _, [], _, [], hW', trodAll_mk1 (shut_bool Try.underlying4 _), (trodAll_cons_mk (Below.trod laidOut (by kernel_rfl) (of_decide_eq_true (by kernel_rfl)) hh0 bel lt0) (trodAll_cons_mk (shut_int Try.underlying3 w1) (trodAll_cons_mk (shut_int Try.underlying3 w2) trodAll_mk0))), rfl, bel.frame _, fun h => by cases h⟩
theorem over : Rows.fnExactMakePuzzleRow.holds Try.pinned (OpenSpec.ofChange Rows.fnExactMakePuzzleSpec) :=
  OpenClaim.holds_of_wide 8 Try.f8 rfl rfl rfl rfl rfl rfl rfl ⟨rfl, rfl, rfl, rfl, rfl⟩ rfl rfl rfl rfl rfl (by kernel_rfl) Try.func8 (by kernel_rfl)
    (of_decide_eq_true (by kernel_rfl)) (by unfold Func.isWrapper; first | (rw [if_pos (by decide +kernel)]; kernel_rfl) | (rw [if_neg (by decide +kernel)]; exact ⟨rfl, rfl⟩))
    (fun os started H enc _ => lifted os started H enc)
theorem proved : Rows.FnExactMakePuzzleSaid := over
end Go.Proofs.Ytcfcjpcoofjckaa.fnExactMakePuzzle
namespace Go.Proofs.Ytcfcjpcoofjckaa
/-- The row, under a short name, for the claim. -/
theorem fnExactMakePuzzle_holds : Rows.FnExactMakePuzzleSaid := fnExactMakePuzzle.proved
#print axioms fnExactMakePuzzle_holds
end Go.Proofs.Ytcfcjpcoofjckaa
