/- The program's AddClue returns what the reference's returns, for all arguments. (Part 4 of 5.) -/
import Derived.Test.YtcfcjpcoofjckaaKFnExactAddClue0
import Derived.Test.YtcfcjpcoofjckaaKFnExactAddClue1
import Derived.Test.YtcfcjpcoofjckaaKFnExactAddClue2
set_option linter.unusedVariables false
set_option linter.unusedSimpArgs false
namespace Go.Proofs.Ytcfcjpcoofjckaa.Pr
open Go.RowKit Go.Proofs.YtcfcjpcoofjckaaW.PrintWords Go.Proofs.YtcfcjpcoofjckaaW.PrintLast Go.Proofs.YtcfcjpcoofjckaaW.PrintMore
attribute [local go_sem] max2_int min2_int max_two min_two max_three min_three max_four min_four
mutual
def laws_FnExactAddClue.j0 : Nat → Bool → Bool → Bool → List (S23) → Int → Int → Int → List (S25) → List (S25) → List (S25) → Option (Bool)
 | 0, _, _, _, _, _, _, _, _, _, _ => none
 | k + 1, x7, x10, x46, x223000, x224000, x224001, x224002, x236000, x240000, x248000 => if x46 = true then (some false) else ((laws_toPuzzle.f k x223000).bind fun t249 => ((laws_eqPuzzle.f k x240000 t249).bind fun t252 => (if t252 = true then ((laws_markPuzzle.f k x240000 1).bind fun bt253 => (if bt253.1 < 0 then (laws_FnExactAddClue.j1 k x7 true x223000 x224000 x224001 x224002 x236000 x248000) else ((laws_eqPuzzle.f k x248000 x236000).bind fun t255 => (if t255 = true then (laws_FnExactAddClue.j1 k x7 (x10 != x7) x223000 x224000 x224001 x224002 x236000 x248000) else (laws_FnExactAddClue.j1 k x7 true x223000 x224000 x224001 x224002 x236000 x248000))))) else (some false))))
def laws_FnExactAddClue.j1 : Nat → Bool → Bool → List (S23) → Int → Int → Int → List (S25) → List (S25) → Option (Bool)
 | 0, _, _, _, _, _, _, _, _ => none
 | k + 1, x7, x67, x223000, x224000, x224001, x224002, x236000, x248000 => if x67 = true then (some false) else ((laws_markPuzzle.f k x248000 1).bind fun bt256 => ((laws_heldPuzzle.f k bt256.2 1).bind fun t258 => (if t258 < 0 then (some false) else (if t258 = bt256.1 then ((laws_toPuzzle.f k x223000).bind fun t259 => ((laws_toClue.f x224000 x224001 x224002).bind fun bt262 => ((impl_AddClue.f t259 bt262.1 bt262.2.1 bt262.2.2).bind fun bt265 => ((laws_eqPuzzle.f k bt265.1 x236000).bind fun t270 => (if t270 = true then (laws_FnExactAddClue.j2 k bt256.1 (bt265.2 != x7) bt256.2) else (laws_FnExactAddClue.j2 k bt256.1 true bt256.2)))))) else (some false)))))
def laws_FnExactAddClue.j2 : Nat → Int → Bool → List (S25) → Option (Bool)
 | 0, _, _, _ => none
 | k + 1, x12, x95, x248000 => if x95 = true then (some false) else ((laws_heldPuzzle.f k x248000 1).bind fun t271 => (if t271 < 0 then (some false) else (if t271 = x12 then (some true) else (some false))))
end
def laws_FnExactAddClue.f (k : Nat) (l0_0 : List (S23)) (a1_0 : Int) (a1_1 : Int) (a1_2 : Int) : Option (Bool) := (laws_szPuzzle.f l0_0 1048576).bind fun t224 => (if t224 < 0 then (some true) else ((laws_toPuzzle.f k l0_0).bind fun t225 => ((laws_toClue.f a1_0 a1_1 a1_2).bind fun bt228 => ((spec_AddClue.f k t225 bt228.1 bt228.2.1 bt228.2.2).bind fun bt231 => ((laws_toPuzzle.f k l0_0).bind fun t236 => ((laws_toClue.f a1_0 a1_1 a1_2).bind fun bt240 => ((impl_AddClue.f t236 bt240.1 bt240.2.1 bt240.2.2).bind fun bt243 => ((laws_eqPuzzle.f k bt243.1 bt231.1).bind fun t248 => (if t248 = true then (laws_FnExactAddClue.j0 k bt231.2 bt243.2 (bt243.2 != bt231.2) l0_0 a1_0 a1_1 a1_2 bt231.1 t236 bt243.1) else (laws_FnExactAddClue.j0 k bt231.2 bt243.2 true l0_0 a1_0 a1_1 a1_2 bt231.1 t236 bt243.1))))))))))
theorem laws_FnExactAddClue.mono_l : ∀ k, (∀ y0 y1 y2 y3 y4 y5 y6 y7 y8 y9, LeO (laws_FnExactAddClue.j0 k y0 y1 y2 y3 y4 y5 y6 y7 y8 y9) (laws_FnExactAddClue.j0 (k + 1) y0 y1 y2 y3 y4 y5 y6 y7 y8 y9)) ∧ (∀ y0 y1 y2 y3 y4 y5 y6 y7, LeO (laws_FnExactAddClue.j1 k y0 y1 y2 y3 y4 y5 y6 y7) (laws_FnExactAddClue.j1 (k + 1) y0 y1 y2 y3 y4 y5 y6 y7)) ∧ (∀ y0 y1 y2, LeO (laws_FnExactAddClue.j2 k y0 y1 y2) (laws_FnExactAddClue.j2 (k + 1) y0 y1 y2))
 | 0 => ⟨fun _ _ _ _ _ _ _ _ _ _ r h => by simp [laws_FnExactAddClue.j0] at h, fun _ _ _ _ _ _ _ _ r h => by simp [laws_FnExactAddClue.j1] at h, fun _ _ _ r h => by simp [laws_FnExactAddClue.j2] at h⟩
 | k + 1 => by
  obtain ⟨ih0, ih1, ih2⟩ := laws_FnExactAddClue.mono_l k
  refine ⟨?_, ?_, ?_⟩
  ·intro y0 y1 y2 y3 y4 y5 y6 y7 y8 y9
   unfold laws_FnExactAddClue.j0
   repeat' first
   | (with_reducible exact ih0 _ _ _ _ _ _ _ _ _ _)
   | (with_reducible exact ih1 _ _ _ _ _ _ _ _)
   | (with_reducible exact ih2 _ _ _)
   | (with_reducible exact laws_eqPuzzle.mono _ _ _)
   | (with_reducible exact laws_heldPuzzle.mono _ _ _)
   | (with_reducible exact laws_markPuzzle.mono _ _ _)
   | (with_reducible exact laws_toPuzzle.mono _ _)
   | (with_reducible exact spec_AddClue.mono _ _ _ _ _)
   | (with_reducible exact LeO.refl _)
   | (with_reducible exact LeO.none _)
   | (with_reducible refine LeO.ite ?_ ?_)
   | (with_reducible refine LeO.bind ?_ (fun _ => ?_))
   | exact ih0 _ _ _ _ _ _ _ _ _ _
   | exact ih1 _ _ _ _ _ _ _ _
   | exact ih2 _ _ _
   | exact laws_eqPuzzle.mono _ _ _
   | exact laws_heldPuzzle.mono _ _ _
   | exact laws_markPuzzle.mono _ _ _
   | exact laws_toPuzzle.mono _ _
   | exact spec_AddClue.mono _ _ _ _ _
   | exact LeO.none _
   | refine LeO.ite ?_ ?_
   | refine LeO.bind ?_ (fun _ => ?_)
  ·intro y0 y1 y2 y3 y4 y5 y6 y7
   unfold laws_FnExactAddClue.j1
   repeat' first
   | (with_reducible exact ih0 _ _ _ _ _ _ _ _ _ _)
   | (with_reducible exact ih1 _ _ _ _ _ _ _ _)
   | (with_reducible exact ih2 _ _ _)
   | (with_reducible exact laws_eqPuzzle.mono _ _ _)
   | (with_reducible exact laws_heldPuzzle.mono _ _ _)
   | (with_reducible exact laws_markPuzzle.mono _ _ _)
   | (with_reducible exact laws_toPuzzle.mono _ _)
   | (with_reducible exact spec_AddClue.mono _ _ _ _ _)
   | (with_reducible exact LeO.refl _)
   | (with_reducible exact LeO.none _)
   | (with_reducible refine LeO.ite ?_ ?_)
   | (with_reducible refine LeO.bind ?_ (fun _ => ?_))
   | exact ih0 _ _ _ _ _ _ _ _ _ _
   | exact ih1 _ _ _ _ _ _ _ _
   | exact ih2 _ _ _
   | exact laws_eqPuzzle.mono _ _ _
   | exact laws_heldPuzzle.mono _ _ _
   | exact laws_markPuzzle.mono _ _ _
   | exact laws_toPuzzle.mono _ _
   | exact spec_AddClue.mono _ _ _ _ _
   | exact LeO.none _
   | refine LeO.ite ?_ ?_
   | refine LeO.bind ?_ (fun _ => ?_)
  ·intro y0 y1 y2
   unfold laws_FnExactAddClue.j2
   repeat' first
   | (with_reducible exact ih0 _ _ _ _ _ _ _ _ _ _)
   | (with_reducible exact ih1 _ _ _ _ _ _ _ _)
   | (with_reducible exact ih2 _ _ _)
   | (with_reducible exact laws_eqPuzzle.mono _ _ _)
   | (with_reducible exact laws_heldPuzzle.mono _ _ _)
   | (with_reducible exact laws_markPuzzle.mono _ _ _)
   | (with_reducible exact laws_toPuzzle.mono _ _)
   | (with_reducible exact spec_AddClue.mono _ _ _ _ _)
   | (with_reducible exact LeO.refl _)
   | (with_reducible exact LeO.none _)
   | (with_reducible refine LeO.ite ?_ ?_)
   | (with_reducible refine LeO.bind ?_ (fun _ => ?_))
   | exact ih0 _ _ _ _ _ _ _ _ _ _
   | exact ih1 _ _ _ _ _ _ _ _
   | exact ih2 _ _ _
   | exact laws_eqPuzzle.mono _ _ _
   | exact laws_heldPuzzle.mono _ _ _
   | exact laws_markPuzzle.mono _ _ _
   | exact laws_toPuzzle.mono _ _
   | exact spec_AddClue.mono _ _ _ _ _
   | exact LeO.none _
   | refine LeO.ite ?_ ?_
   | refine LeO.bind ?_ (fun _ => ?_)
theorem laws_FnExactAddClue.mono : ∀ a0 a1 a2 a3 k, LeO (laws_FnExactAddClue.f k a0 a1 a2 a3) (laws_FnExactAddClue.f (k + 1) a0 a1 a2 a3) := by
 intro a0 a1 a2 a3 k
 obtain ⟨ih0, ih1, ih2⟩ := laws_FnExactAddClue.mono_l k
 unfold laws_FnExactAddClue.f
 repeat' first
   | (with_reducible exact ih0 _ _ _ _ _ _ _ _ _ _)
   | (with_reducible exact ih1 _ _ _ _ _ _ _ _)
   | (with_reducible exact ih2 _ _ _)
   | (with_reducible exact laws_eqPuzzle.mono _ _ _)
   | (with_reducible exact laws_heldPuzzle.mono _ _ _)
   | (with_reducible exact laws_markPuzzle.mono _ _ _)
   | (with_reducible exact laws_toPuzzle.mono _ _)
   | (with_reducible exact spec_AddClue.mono _ _ _ _ _)
   | (with_reducible exact LeO.refl _)
   | (with_reducible exact LeO.none _)
   | (with_reducible refine LeO.ite ?_ ?_)
   | (with_reducible refine LeO.bind ?_ (fun _ => ?_))
   | exact ih0 _ _ _ _ _ _ _ _ _ _
   | exact ih1 _ _ _ _ _ _ _ _
   | exact ih2 _ _ _
   | exact laws_eqPuzzle.mono _ _ _
   | exact laws_heldPuzzle.mono _ _ _
   | exact laws_markPuzzle.mono _ _ _
   | exact laws_toPuzzle.mono _ _
   | exact spec_AddClue.mono _ _ _ _ _
   | exact LeO.none _
   | refine LeO.ite ?_ ?_
   | refine LeO.bind ?_ (fun _ => ?_)
def laws_FnExactAddClue.T5 : Bool × List (List Nat × List Nat) := (true, [([], []), ([0], [0]), ([], []), ([2, 1], [2]), ([1, 3, 3], [1, 3]), ([4], [4]), ([5], [5]), ([5], [5]), ([], []), ([8, 6, 4, 0, 1, 2, 3, 4, 5, 6, 8], [6, 8]), ([7, 9, 0, 1, 2, 3, 4, 5, 6, 7, 8, 9], [7])])
def laws_FnExactAddClue.B5 : List Nat := [0, 1, 0, 7, 15, 31, 63, 63, 0, 383, 1023]
theorem laws_FnExactAddClue.tab5 : rtab .any (opsOf Try.f5 5) = laws_FnExactAddClue.T5 := by kernel_rfl
theorem laws_FnExactAddClue.bits5 : waitsOk laws_FnExactAddClue.T5.2 laws_FnExactAddClue.B5 = true := by kernel_rfl
def laws_FnExactAddClue.T7 : Bool × List (List Nat × List Nat) := (true, [([], []), ([], []), ([1], [1]), ([0, 2, 2], [0, 2]), ([3], [3]), ([4], [4]), ([4], [4]), ([], []), ([7, 5, 3, 0, 1, 2, 3, 4, 5, 7], [5, 7]), ([6, 8, 0, 1, 2, 3, 4, 5, 6, 7, 8], [6])])
def laws_FnExactAddClue.B7 : List Nat := [0, 0, 2, 7, 15, 31, 31, 0, 191, 511]
theorem laws_FnExactAddClue.tab7 : rtab .any (opsOf Try.f5 7) = laws_FnExactAddClue.T7 := by kernel_rfl
theorem laws_FnExactAddClue.bits7 : waitsOk laws_FnExactAddClue.T7.2 laws_FnExactAddClue.B7 = true := by kernel_rfl
def laws_FnExactAddClue.T24 : Bool × List (List Nat × List Nat) := (true, [([], []), ([0], [0]), ([], []), ([2, 1], [2]), ([1, 3, 3], [1, 3]), ([4], [4]), ([5], [5]), ([5], [5]), ([], []), ([8, 6, 4, 0, 1, 2, 3, 4, 5, 6, 8], [6, 8]), ([7, 9, 0, 1, 2, 3, 4, 5, 6, 7, 8, 9], [7])])
def laws_FnExactAddClue.B24 : List Nat := [0, 1, 0, 7, 15, 31, 63, 63, 0, 383, 1023]
theorem laws_FnExactAddClue.tab24 : rtab .any (opsOf Try.f5 24) = laws_FnExactAddClue.T24 := by kernel_rfl
theorem laws_FnExactAddClue.bits24 : waitsOk laws_FnExactAddClue.T24.2 laws_FnExactAddClue.B24 = true := by kernel_rfl
set_option maxHeartbeats 8000000 in
set_option maxRecDepth 100000 in
theorem laws_FnExactAddClue.calls (k : Nat) (A0_0 : Option Addr) (c0_0 : Nat) (l0_0 : List (S23)) (a1_0 : Int) (a1_1 : Int) (a1_2 : Int) (r : Bool) (w : World) (hr0_0 : Kd.C k23 w A0_0 l0_0.length l0_0) (hc0_0 : l0_0.length ≤ c0_0) (h : laws_FnExactAddClue.f k l0_0 a1_0 a1_1 a1_2 = some r) :
  Calls Try.prog 5 #[.agg #[.slice A0_0 l0_0.length c0_0], .agg #[.int .i64 a1_0, .int .i64 a1_1, .int .i64 a1_2]] w fun e w' => e = .returned (.bool r) ∧ Below w.heap.size w w' := by
 have hu30 := Try.underlying30
 have hu23 := Try.underlying23
 have hu35 := Try.underlying35
 have HR0_0 := Aside0.mk hr0_0
 have HC0_0 := Aside0.mk hc0_0
 clear hr0_0 hc0_0
 have HB := Aside0.mk (Below.refl w.heap.size w)
 have H : ((laws_szPuzzle.f l0_0 1048576).bind fun t224 => (if t224 < 0 then (some true) else ((laws_toPuzzle.f k l0_0).bind fun t225 => ((laws_toClue.f a1_0 a1_1 a1_2).bind fun bt228 => ((spec_AddClue.f k t225 bt228.1 bt228.2.1 bt228.2.2).bind fun bt231 => ((laws_toPuzzle.f k l0_0).bind fun t236 => ((laws_toClue.f a1_0 a1_1 a1_2).bind fun bt240 => ((impl_AddClue.f t236 bt240.1 bt240.2.1 bt240.2.2).bind fun bt243 => ((laws_eqPuzzle.f k bt243.1 bt231.1).bind fun t248 => (if t248 = true then (laws_FnExactAddClue.j0 k bt231.2 bt243.2 (bt243.2 != bt231.2) l0_0 a1_0 a1_1 a1_2 bt231.1 t236 bt243.1) else (laws_FnExactAddClue.j0 k bt231.2 bt243.2 true l0_0 a1_0 a1_1 a1_2 bt231.1 t236 bt243.1))))))))))) = some r := h
 clear h
 replace H := bI H
 obtain ⟨t224, A30, H⟩ := H
 replace H : (if t224 < 0 then (some true) else ((laws_toPuzzle.f k l0_0).bind fun t225 => ((laws_toClue.f a1_0 a1_1 a1_2).bind fun bt228 => ((spec_AddClue.f k t225 bt228.1 bt228.2.1 bt228.2.2).bind fun bt231 => ((laws_toPuzzle.f k l0_0).bind fun t236 => ((laws_toClue.f a1_0 a1_1 a1_2).bind fun bt240 => ((impl_AddClue.f t236 bt240.1 bt240.2.1 bt240.2.2).bind fun bt243 => ((laws_eqPuzzle.f k bt243.1 bt231.1).bind fun t248 => (if t248 = true then (laws_FnExactAddClue.j0 k bt231.2 bt243.2 (bt243.2 != bt231.2) l0_0 a1_0 a1_1 a1_2 bt231.1 t236 bt243.1) else (laws_FnExactAddClue.j0 k bt231.2 bt243.2 true l0_0 a1_0 a1_1 a1_2 bt231.1 t236 bt243.1)))))))))) = some r := H
 have A3 := Aside0.mk A30
 clear A30
 by_cases c4 : t224 < 0
 ·rw [if_pos c4] at H
  have c4b0 : decide (t224 < 0) = true := decide_eq_true c4
  clear c4
  obtain rfl := oI H
  go_enter Try.func5, Try.ntmps5
  go_wp2_with (first | ((with_reducible refine gate_dst (N := 2) rfl ?_); refine box_event ?hg (N := 2) ?hd (cs := #[.slice A0_0 l0_0.length c0_0]) (t := 30) ?hr ?_; (case hd => rfl); (case hg => rfl); (case hr => first | (go_simp; done) | (go_simp; rfl)); intro gb222 hg w5 hbox hb; have n0_ := Aside0.mk (below_step hb_ hb); have n1_ := Aside0.mk (hbox); have n2_ := Aside0.mk ((by rw [hg]; exact (below_size hb_) : w.heap.size ≤ gb222)); have n3_ := Aside0.mk ((by rw [hg]; exact (below_size hb_) : w.heap.size ≤ gb222)); clear HB; have HB := n0_; have BK222 := n1_; have GW222 := n2_; have GE222 := n3_; clear n0_ n1_ n2_ n3_; clear hb hbox hg) | ((with_reducible refine gate_dst (N := 3) rfl ?_); refine box_event ?hg (N := 3) ?hd (cs := #[.int .i64 a1_0, .int .i64 a1_1, .int .i64 a1_2]) (t := 23) ?hr ?_; (case hd => rfl); (case hg => rfl); (case hr => first | (go_simp; done) | (go_simp; rfl)); intro gb223 hg w6 hbox hb; have n0_ := Aside0.mk (blk_below (g := gb222) (o := .cells #[.slice A0_0 l0_0.length c0_0] 30 (0, 0)) (kx_ BK222.out) hb); have n1_ := Aside0.mk (below_step (hs_ GE222.out) hb); have n2_ := Aside0.mk (hbox); have n3_ := Aside0.mk ((by rw [hg]; exact (below_size (hs_ GE222.out)) : w.heap.size ≤ gb223)); have n4_ := Aside0.mk ((by rw [hg]; exact (below_size (hs_ GE222.out)) : w.heap.size ≤ gb223)); have n5_ := Aside0.mk ((by rw [hg]; exact Nat.ne_of_lt (blk_lt (g := gb222) (o := .cells #[.slice A0_0 l0_0.length c0_0] 30 (0, 0)) (kx_ BK222.out)) : gb222 ≠ gb223)); have n6_ := Aside0.mk ((by rw [hg]; exact Nat.ne_of_gt (blk_lt (g := gb222) (o := .cells #[.slice A0_0 l0_0.length c0_0] 30 (0, 0)) (kx_ BK222.out)) : gb223 ≠ gb222)); clear BK222; clear HB; have BK222 := n0_; have HB := n1_; have BK223 := n2_; have GW223 := n3_; have GE223 := n4_; have NB222_223 := n5_; have NB223_222 := n6_; clear n0_ n1_ n2_ n3_ n4_ n5_ n6_; clear hb hbox hg; have hnb7 := NB222_223.out; have hnc7 := NB223_222.out; have hcz8_0 : w6.cell? ⟨gb222, 0, none⟩ = some (.slice A0_0 l0_0.length c0_0) := bc_ BK222 0; have hfz8_0 := blk_frozen BK222.out 0) | ((with_reducible refine gate_callee (f := 12) rfl ?_); refine goesL_ (some 18) rfl rfl Try.func12 (by kernel_rfl) rfl #[.agg #[.slice A0_0 l0_0.length c0_0], .int .i64 1048576] rfl ar_ ?_; (with_reducible refine (laws_szPuzzle.calls _ _ l0_0 1048576 t224 _ ?side1 ?side2 A3.out).mono ?_); (case side1 => repeat (first | exact (Kd.C_below HR0_0.out HB.out) | (with_reducible refine Kd.C_alloc ?_ _) | (with_reducible refine Kd.C_drewN ?_ _) | (with_reducible refine Kd.C_drew ?_))); (case side2 => exact HC0_0.out); rintro e w9 ⟨rfl, hb⟩; refine ⟨_, rfl, ?_⟩; have n0_ := Aside0.mk (blk_below (g := gb222) (o := .cells #[.slice A0_0 l0_0.length c0_0] 30 (0, 0)) (kx_ BK222.out) hb); have n1_ := Aside0.mk (blk_below (g := gb223) (o := .cells #[.int .i64 a1_0, .int .i64 a1_1, .int .i64 a1_2] 23 (0, 0)) (kx_ BK223.out) hb); have n2_ := Aside0.mk (below_step (hm_) hb); clear BK222; clear BK223; clear HB; have BK222 := n0_; have BK223 := n1_; have HB := n2_; clear n0_ n1_ n2_; (try clear hb); (try clear hb2); (try clear hk); (try clear hi)))
  go_ret
  exact ⟨by first | rfl | (simp [errW_none, errW_some] <;> rfl) | (simp [*, errW_none, errW_some] <;> rfl), hm_⟩
 ·rw [if_neg c4] at H
  have c4b0 : decide (t224 < 0) = false := decide_eq_false c4
  clear c4
  replace H := bI H
  obtain ⟨t225, A100, H⟩ := H
  replace H : ((laws_toClue.f a1_0 a1_1 a1_2).bind fun bt228 => ((spec_AddClue.f k t225 bt228.1 bt228.2.1 bt228.2.2).bind fun bt231 => ((laws_toPuzzle.f k l0_0).bind fun t236 => ((laws_toClue.f a1_0 a1_1 a1_2).bind fun bt240 => ((impl_AddClue.f t236 bt240.1 bt240.2.1 bt240.2.2).bind fun bt243 => ((laws_eqPuzzle.f k bt243.1 bt231.1).bind fun t248 => (if t248 = true then (laws_FnExactAddClue.j0 k bt231.2 bt243.2 (bt243.2 != bt231.2) l0_0 a1_0 a1_1 a1_2 bt231.1 t236 bt243.1) else (laws_FnExactAddClue.j0 k bt231.2 bt243.2 true l0_0 a1_0 a1_1 a1_2 bt231.1 t236 bt243.1)))))))) = some r := H
  have A10 := Aside0.mk A100
  clear A100
  replace H := bI H
  obtain ⟨⟨t228, t229, t230⟩, A110, H⟩ := H
  replace H : ((spec_AddClue.f k t225 t228 t229 t230).bind fun bt231 => ((laws_toPuzzle.f k l0_0).bind fun t236 => ((laws_toClue.f a1_0 a1_1 a1_2).bind fun bt240 => ((impl_AddClue.f t236 bt240.1 bt240.2.1 bt240.2.2).bind fun bt243 => ((laws_eqPuzzle.f k bt243.1 bt231.1).bind fun t248 => (if t248 = true then (laws_FnExactAddClue.j0 k bt231.2 bt243.2 (bt243.2 != bt231.2) l0_0 a1_0 a1_1 a1_2 bt231.1 t236 bt243.1) else (laws_FnExactAddClue.j0 k bt231.2 bt243.2 true l0_0 a1_0 a1_1 a1_2 bt231.1 t236 bt243.1))))))) = some r := H
  have A11 := Aside0.mk A110
  clear A110
  replace H := bI H
  obtain ⟨⟨t231, t234⟩, A120, H⟩ := H
  replace H : ((laws_toPuzzle.f k l0_0).bind fun t236 => ((laws_toClue.f a1_0 a1_1 a1_2).bind fun bt240 => ((impl_AddClue.f t236 bt240.1 bt240.2.1 bt240.2.2).bind fun bt243 => ((laws_eqPuzzle.f k bt243.1 t231).bind fun t248 => (if t248 = true then (laws_FnExactAddClue.j0 k t234 bt243.2 (bt243.2 != t234) l0_0 a1_0 a1_1 a1_2 t231 t236 bt243.1) else (laws_FnExactAddClue.j0 k t234 bt243.2 true l0_0 a1_0 a1_1 a1_2 t231 t236 bt243.1)))))) = some r := H
  have A12 := Aside0.mk A120
  clear A120
  replace H := bI H
  obtain ⟨t236, A130, H⟩ := H
  replace H : ((laws_toClue.f a1_0 a1_1 a1_2).bind fun bt240 => ((impl_AddClue.f t236 bt240.1 bt240.2.1 bt240.2.2).bind fun bt243 => ((laws_eqPuzzle.f k bt243.1 t231).bind fun t248 => (if t248 = true then (laws_FnExactAddClue.j0 k t234 bt243.2 (bt243.2 != t234) l0_0 a1_0 a1_1 a1_2 t231 t236 bt243.1) else (laws_FnExactAddClue.j0 k t234 bt243.2 true l0_0 a1_0 a1_1 a1_2 t231 t236 bt243.1))))) = some r := H
  have A13 := Aside0.mk A130
  clear A130
  replace H := bI H
  obtain ⟨⟨t240, t241, t242⟩, A140, H⟩ := H
  replace H : ((impl_AddClue.f t236 t240 t241 t242).bind fun bt243 => ((laws_eqPuzzle.f k bt243.1 t231).bind fun t248 => (if t248 = true then (laws_FnExactAddClue.j0 k t234 bt243.2 (bt243.2 != t234) l0_0 a1_0 a1_1 a1_2 t231 t236 bt243.1) else (laws_FnExactAddClue.j0 k t234 bt243.2 true l0_0 a1_0 a1_1 a1_2 t231 t236 bt243.1)))) = some r := H
  have A14 := Aside0.mk A140
  clear A140
  replace H := bI H
  obtain ⟨⟨t243, t246⟩, A150, H⟩ := H
  replace H : ((laws_eqPuzzle.f k t243 t231).bind fun t248 => (if t248 = true then (laws_FnExactAddClue.j0 k t234 t246 (t246 != t234) l0_0 a1_0 a1_1 a1_2 t231 t236 t243) else (laws_FnExactAddClue.j0 k t234 t246 true l0_0 a1_0 a1_1 a1_2 t231 t236 t243))) = some r := H
  have A15 := Aside0.mk A150
  clear A150
  have HC16 := Aside0.mk H
  clear H
  go_enter Try.func5, Try.ntmps5
  try go_wp2_with (first | ((with_reducible refine gate_dst (N := 2) rfl ?_); refine box_event ?hg (N := 2) ?hd (cs := #[.slice A0_0 l0_0.length c0_0]) (t := 30) ?hr ?_; (case hd => rfl); (case hg => rfl); (case hr => first | (go_simp; done) | (go_simp; rfl)); intro gb222 hg w17 hbox hb; have n0_ := Aside0.mk (below_step hb_ hb); have n1_ := Aside0.mk (hbox); have n2_ := Aside0.mk ((by rw [hg]; exact (below_size hb_) : w.heap.size ≤ gb222)); have n3_ := Aside0.mk ((by rw [hg]; exact (below_size hb_) : w.heap.size ≤ gb222)); clear HB; have HB := n0_; have BK222 := n1_; have GW222 := n2_; have GE222 := n3_; clear n0_ n1_ n2_ n3_; clear hb hbox hg) | ((with_reducible refine gate_dst (N := 3) rfl ?_); refine box_event ?hg (N := 3) ?hd (cs := #[.int .i64 a1_0, .int .i64 a1_1, .int .i64 a1_2]) (t := 23) ?hr ?_; (case hd => rfl); (case hg => rfl); (case hr => first | (go_simp; done) | (go_simp; rfl)); intro gb223 hg w18 hbox hb; have n0_ := Aside0.mk (blk_below (g := gb222) (o := .cells #[.slice A0_0 l0_0.length c0_0] 30 (0, 0)) (kx_ BK222.out) hb); have n1_ := Aside0.mk (below_step (hs_ GE222.out) hb); have n2_ := Aside0.mk (hbox); have n3_ := Aside0.mk ((by rw [hg]; exact (below_size (hs_ GE222.out)) : w.heap.size ≤ gb223)); have n4_ := Aside0.mk ((by rw [hg]; exact (below_size (hs_ GE222.out)) : w.heap.size ≤ gb223)); have n5_ := Aside0.mk ((by rw [hg]; exact Nat.ne_of_lt (blk_lt (g := gb222) (o := .cells #[.slice A0_0 l0_0.length c0_0] 30 (0, 0)) (kx_ BK222.out)) : gb222 ≠ gb223)); have n6_ := Aside0.mk ((by rw [hg]; exact Nat.ne_of_gt (blk_lt (g := gb222) (o := .cells #[.slice A0_0 l0_0.length c0_0] 30 (0, 0)) (kx_ BK222.out)) : gb223 ≠ gb222)); clear BK222; clear HB; have BK222 := n0_; have HB := n1_; have BK223 := n2_; have GW223 := n3_; have GE223 := n4_; have NB222_223 := n5_; have NB223_222 := n6_; clear n0_ n1_ n2_ n3_ n4_ n5_ n6_; clear hb hbox hg; have hnb19 := NB222_223.out; have hnc19 := NB223_222.out; have hcz20_0 : w18.cell? ⟨gb222, 0, none⟩ = some (.slice A0_0 l0_0.length c0_0) := bc_ BK222 0; have hfz20_0 := blk_frozen BK222.out 0) | ((with_reducible refine gate_callee (f := 12) rfl ?_); refine goesL_ (some 18) rfl rfl Try.func12 (by kernel_rfl) rfl #[.agg #[.slice A0_0 l0_0.length c0_0], .int .i64 1048576] rfl ar_ ?_; (with_reducible refine (laws_szPuzzle.calls _ _ l0_0 1048576 t224 _ ?side1 ?side2 A3.out).mono ?_); (case side1 => repeat (first | exact (Kd.C_below HR0_0.out HB.out) | (with_reducible refine Kd.C_alloc ?_ _) | (with_reducible refine Kd.C_drewN ?_ _) | (with_reducible refine Kd.C_drew ?_))); (case side2 => exact HC0_0.out); rintro e w21 ⟨rfl, hb⟩; refine ⟨_, rfl, ?_⟩; have n0_ := Aside0.mk (blk_below (g := gb222) (o := .cells #[.slice A0_0 l0_0.length c0_0] 30 (0, 0)) (kx_ BK222.out) hb); have n1_ := Aside0.mk (blk_below (g := gb223) (o := .cells #[.int .i64 a1_0, .int .i64 a1_1, .int .i64 a1_2] 23 (0, 0)) (kx_ BK223.out) hb); have n2_ := Aside0.mk (below_step (hm_) hb); clear BK222; clear BK223; clear HB; have BK222 := n0_; have BK223 := n1_; have HB := n2_; clear n0_ n1_ n2_; (try clear hb); (try clear hb2); (try clear hk); (try clear hi)))
  have n0_ := Aside0.mk (blk_drew BK222.out)
  have n1_ := Aside0.mk (blk_drew BK223.out)
  have n2_ := Aside0.mk (below_drew1 HB.out)
  clear BK222
  clear BK223
  clear HB
  have BK222 := n0_
  have BK223 := n1_
  have HB := n2_
  clear n0_ n1_ n2_
  refine start_ (n := 11) (S := fun w' => w'.cell? ⟨gb222, 0, none⟩ = some (.slice A0_0 l0_0.length c0_0) ∧ w'.cell? ⟨gb223, 0, none⟩ = some (.int .i64 a1_0) ∧ w'.cell? ⟨gb223, 1, none⟩ = some (.int .i64 a1_1) ∧ w'.cell? ⟨gb223, 2, none⟩ = some (.int .i64 a1_2)) (ds := []) #[false, false, false, false, false, false, false, false, false, false, false] (by kernel_rfl) rfl rfl ⟨bc_ BK222 0, bc_ BK223 0, bc_ BK223 1, bc_ BK223 2⟩ (fun hHeld => ?_); refine with_tabW laws_FnExactAddClue.tab5 laws_FnExactAddClue.bits5 (fun HT_ HW_ => ?_)
  generalize w21.drew = w22 at BK222 BK223 HB hHeld ⊢
  refine take_ (i := 0) (N := some 22) (v := ?_) (a' := ?_) #[true, false, false, false, false, false, false, false, false, false, false] rfl rfl (take_ofW HT_.out HW_.out (by kernel_rfl)) (fun _ _ _ h => h) (Or.inl ⟨by rfl, ?_⟩) hHeld ?_ ?_
  rotate_left
  ·rintro w' ⟨s0, s1, s2, s3⟩
   go_simp
   with_reducible rfl
  rotate_left
  ·simp only [Act.put, sT, sZ, sS, i64_w, i32_w]
   rfl
  refine take_ (i := 2) (N := some 24) (v := ?_) (a' := ?_) #[true, false, true, false, false, false, false, false, false, false, false] rfl rfl (take_ofW HT_.out HW_.out (by kernel_rfl)) (fun _ _ _ h => h) (Or.inl ⟨by rfl, ?_⟩) hHeld ?_ ?_
  rotate_left
  ·rintro w' ⟨s0, s1, s2, s3⟩
   go_simp
   with_reducible rfl
  rotate_left
  ·simp only [Act.put, sT, sZ, sS, i64_w, i32_w]
   rfl
  refine join_ (σ := Value × Value × Nat) 2 #[true, true, true, true, true, true, true, true, true, false, false] (fun s_ => [(23, .agg #[s_.1]), (25, .agg #[.int .i64 t228, .int .i64 t229, .int .i64 t230]), (26, .tuple #[.agg #[s_.2.1], .bool t234]), (6, .pointer (some ⟨s_.2.2, 0, none⟩)), (21, .tuple #[.agg #[s_.2.1], .bool t234]), (27, .agg #[s_.2.1]), (28, .bool t234)]) (fun s_ w' => (w'.cell? ⟨gb222, 0, none⟩ = some (.slice A0_0 l0_0.length c0_0) ∧ w'.cell? ⟨gb223, 0, none⟩ = some (.int .i64 a1_0) ∧ w'.cell? ⟨gb223, 1, none⟩ = some (.int .i64 a1_1) ∧ w'.cell? ⟨gb223, 2, none⟩ = some (.int .i64 a1_2)) ∧ (Kd.R k25 25 w' w.heap.size (fun k_ => some k_ ≠ (s_.2.1 : Value).ownBlock) s_.1 t225) ∧ (Kd.R k25 25 w' w.heap.size (fun k_ => some k_ ≠ (s_.1 : Value).ownBlock) s_.2.1 t231) ∧ (w'.heap[gb222]? = some (.cells #[.slice A0_0 l0_0.length c0_0] 30 (0, 0))) ∧ (w'.heap[gb223]? = some (.cells #[.int .i64 a1_0, .int .i64 a1_1, .int .i64 a1_2] 23 (0, 0))) ∧ (w'.heap[s_.2.2]? = some (.cells #[.slice none 0 0] 35 (0, 0))) ∧ (w.heap.size ≤ s_.2.2) ∧ (w.heap.size ≤ s_.2.2) ∧ (gb222 ≠ s_.2.2) ∧ (s_.2.2 ≠ gb222) ∧ (gb223 ≠ s_.2.2) ∧ (s_.2.2 ≠ gb223) ∧ (Below w.heap.size w w')) ?_ ?_
  rotate_left
  ·intro hCont
   refine two_ (i := 1) (j := 8) (Ni := some 23) (Nj := some 6) #[true, true, true, false, false, false, false, false, false, false, false] #[true, false, true, false, false, false, false, false, true, false, false] rfl rfl rfl rfl (two_of HT_.out (by kernel_rfl)) (by decide) (by decide) (fun K hK => ?_) (fun K hK => ?_)
   ·skip
    refine goes_ Try.func14 (by kernel_rfl) rfl #[.agg #[.slice A0_0 l0_0.length c0_0]] (by rfl) rfl rfl ar_ ?_
    with_reducible refine (laws_toPuzzle.calls k _ _ l0_0 t225 _ ?side1 ?side2 A10.out).mono ?_
    (case side1 => repeat (first | exact (Kd.C_below HR0_0.out HB.out) | (with_reducible refine Kd.C_alloc ?_ _) | (with_reducible refine Kd.C_drewN ?_ _) | (with_reducible refine Kd.C_drew ?_)))
    (case side2 => exact HC0_0.out)
    rintro e w23 ⟨v226, rfl, ho0, hb⟩
    refine ⟨_, rfl, ?_⟩
    have n0_ := Aside0.mk (Kd.R_lower ho0 (below_size (hm_)))
    have n1_ := Aside0.mk (blk_below (g := gb222) (o := .cells #[.slice A0_0 l0_0.length c0_0] 30 (0, 0)) (kx_ BK222.out) hb)
    have n2_ := Aside0.mk (blk_below (g := gb223) (o := .cells #[.int .i64 a1_0, .int .i64 a1_1, .int .i64 a1_2] 23 (0, 0)) (kx_ BK223.out) hb)
    have n3_ := Aside0.mk (below_step (hm_) hb)
    clear BK222
    clear BK223
    clear HB
    have HO227 := n0_
    have BK222 := n1_
    have BK223 := n2_
    have HB := n3_
    clear n0_ n1_ n2_ n3_
    (try clear hb)
    (try clear hb2)
    (try clear hk)
    (try clear hi)
    (try clear ho0)
    refine hK.out _ _ ⟨bc_ BK222 0, bc_ BK223 0, bc_ BK223 1, bc_ BK223 2⟩ (fun hHeld => ?_)
    clear hK K
    refine norm_ (a' := ?_) ?_ ?_
    rotate_left
    ·show Act.put _ (some 23) _ = _
     simp only [Act.put, sT, sZ, sS, i64_w, i32_w]
     rfl
    refine two_ (i := 3) (j := 8) (Ni := some 25) (Nj := some 6) #[true, true, true, true, false, false, false, false, false, false, false] #[true, true, true, false, false, false, false, false, true, false, false] rfl rfl rfl rfl (two_of HT_.out (by kernel_rfl)) (by decide) (by decide) (fun K hK => ?_) (fun K hK => ?_)
    ·skip
     refine goes_ Try.func10 (by kernel_rfl) rfl #[.agg #[.int .i64 a1_0, .int .i64 a1_1, .int .i64 a1_2]] (by rfl) rfl rfl ar_ ?_
     with_reducible refine (laws_toClue.calls a1_0 a1_1 a1_2 t228 t229 t230 _ A11.out).mono ?_
     rintro e w24 ⟨rfl, hb⟩
     refine ⟨_, rfl, ?_⟩
     have n0_ := Aside0.mk (Kd.R_below (ra_ HO227.out) hb)
     have n1_ := Aside0.mk (blk_below (g := gb222) (o := .cells #[.slice A0_0 l0_0.length c0_0] 30 (0, 0)) (kx_ BK222.out) hb)
     have n2_ := Aside0.mk (blk_below (g := gb223) (o := .cells #[.int .i64 a1_0, .int .i64 a1_1, .int .i64 a1_2] 23 (0, 0)) (kx_ BK223.out) hb)
     have n3_ := Aside0.mk (below_step (hm_) hb)
     clear HO227
     clear BK222
     clear BK223
     clear HB
     have HO227 := n0_
     have BK222 := n1_
     have BK223 := n2_
     have HB := n3_
     clear n0_ n1_ n2_ n3_
     (try clear hb)
     (try clear hb2)
     (try clear hk)
     (try clear hi)
     obtain ⟨Ao25, co25, eo25⟩ := Kd.R_slice HO227.out
     (first | subst eo25 | (injection eo25 with f1_ f2_ f3_; have f4_ := f1_.symm; have f5_ := f3_.symm; clear f1_ f2_ f3_; subst f4_; subst f5_))
     refine hK.out _ _ ⟨bc_ BK222 0, bc_ BK223 0, bc_ BK223 1, bc_ BK223 2⟩ (fun hHeld => ?_)
     clear hK K
     refine norm_ (a' := ?_) ?_ ?_
     rotate_left
     ·show Act.put _ (some 25) _ = _
      simp only [Act.put, sT, sZ, sS, i64_w, i32_w]
      rfl
     refine two_ (i := 4) (j := 8) (Ni := some 26) (Nj := some 6) #[true, true, true, true, true, false, false, false, false, false, false] #[true, true, true, true, false, false, false, false, true, false, false] rfl rfl rfl rfl (two_of HT_.out (by kernel_rfl)) (by decide) (by decide) (fun K hK => ?_) (fun K hK => ?_)
     ·skip
      refine goes_ Try.func17 (by kernel_rfl) rfl #[.agg #[.slice Ao25 t225.length co25], .agg #[.int .i64 t228, .int .i64 t229, .int .i64 t230]] (by rfl) rfl rfl ar_ ?_
      with_reducible refine (spec_AddClue.calls k _ _ t225 t228 t229 t230 t231 t234 _ ?side1 ?side2 A12.out).mono ?_
      (case side1 => repeat (first | exact (Kd.R_reads' HO227.out).2.2 | (with_reducible refine Kd.C_alloc ?_ _) | (with_reducible refine Kd.C_drewN ?_ _) | (with_reducible refine Kd.C_drew ?_)))
      (case side2 => exact (Kd.R_reads' HO227.out).2.1)
      rintro e w26 ⟨v232, rfl, ho0, hb⟩
      refine ⟨_, rfl, ?_⟩
      have n0_ := Aside0.mk (Kd.R_elder' (ra_ HO227.out) (Kd.R_base ho0) hb)
      have n1_ := Aside0.mk (Kd.R_lower (Kd.R_new' ho0 (Kd.R_lt (ra_ HO227.out))) (below_size (hm_)))
      have n2_ := Aside0.mk (blk_below (g := gb222) (o := .cells #[.slice A0_0 l0_0.length c0_0] 30 (0, 0)) (kx_ BK222.out) hb)
      have n3_ := Aside0.mk (blk_below (g := gb223) (o := .cells #[.int .i64 a1_0, .int .i64 a1_1, .int .i64 a1_2] 23 (0, 0)) (kx_ BK223.out) hb)
      have n4_ := Aside0.mk (below_step (hm_) hb)
      clear HO227
      clear BK222
      clear BK223
      clear HB
      have HO227 := n0_
      have HO233 := n1_
      have BK222 := n2_
      have BK223 := n3_
      have HB := n4_
      clear n0_ n1_ n2_ n3_ n4_
      (try clear hb)
      (try clear hb2)
      (try clear hk)
      (try clear hi)
      (try clear ho0)
      refine hK.out _ _ ⟨bc_ BK222 0, bc_ BK223 0, bc_ BK223 1, bc_ BK223 2⟩ (fun hHeld => ?_)
      clear hK K
      refine norm_ (a' := ?_) ?_ ?_
      rotate_left
      ·show Act.put _ (some 26) _ = _
       simp only [Act.put, sT, sZ, sS, i64_w, i32_w]
       rfl
      refine pure_ (i := 5) (N := some 21) (v := ?_) (a' := ?_) #[true, true, true, true, true, true, false, false, false, false, false] rfl rfl (any_of HT_.out (by kernel_rfl)) (fun _ _ _ h => h) (Or.inl ⟨by rfl, ?_⟩) ?_ ?_
      rotate_left
      ·intro w'
       go_simp
       with_reducible rfl
      rotate_left
      ·simp only [Act.put, sT, sZ, sS, i64_w, i32_w]
       rfl
      refine pure_ (i := 6) (N := some 27) (v := ?_) (a' := ?_) #[true, true, true, true, true, true, true, false, false, false, false] rfl rfl (any_of HT_.out (by kernel_rfl)) (fun _ _ _ h => h) (Or.inl ⟨by rfl, ?_⟩) ?_ ?_
      rotate_left
      ·intro w'
       go_simp
       with_reducible rfl
      rotate_left
      ·simp only [Act.put, sT, sZ, sS, i64_w, i32_w]
       rfl
      refine pure_ (i := 7) (N := some 28) (v := ?_) (a' := ?_) #[true, true, true, true, true, true, true, true, false, false, false] rfl rfl (any_of HT_.out (by kernel_rfl)) (fun _ _ _ h => h) (Or.inl ⟨by rfl, ?_⟩) ?_ ?_
      rotate_left
      ·intro w'
       go_simp
       with_reducible rfl
      rotate_left
      ·simp only [Act.put, sT, sZ, sS, i64_w, i32_w]
       rfl
      refine one_ (i := 8) (N := some 6) #[true, true, true, true, true, true, true, true, true, false, false] rfl rfl (one_of HT_.out (by kernel_rfl)) (by decide) (fun K hK => ?_)
      refine box_step ?hg (N := 6) ?hd (cs := #[.slice none 0 0]) (t := 35) ?hr ?_; (case hd => rfl); (case hg => rfl); (case hr => first | (go_simp; done) | (go_simp; rfl))
      intro gb235 hg w27 hbox hb
      have n0_ := Aside0.mk (Kd.R_below (ra_ HO227.out) hb)
      have n1_ := Aside0.mk (Kd.R_below (ra_ HO233.out) hb)
      have n2_ := Aside0.mk (blk_below (g := gb222) (o := .cells #[.slice A0_0 l0_0.length c0_0] 30 (0, 0)) (kx_ BK222.out) hb)
      have n3_ := Aside0.mk (blk_below (g := gb223) (o := .cells #[.int .i64 a1_0, .int .i64 a1_1, .int .i64 a1_2] 23 (0, 0)) (kx_ BK223.out) hb)
      have n4_ := Aside0.mk (below_step (hm_) hb)
      have n5_ := Aside0.mk (hbox)
      have n6_ := Aside0.mk ((by rw [hg]; exact (below_size (hm_)) : w.heap.size ≤ gb235))
      have n7_ := Aside0.mk ((by rw [hg]; exact (below_size (hm_)) : w.heap.size ≤ gb235))
      have n8_ := Aside0.mk ((by rw [hg]; exact Nat.ne_of_lt (blk_lt (g := gb222) (o := .cells #[.slice A0_0 l0_0.length c0_0] 30 (0, 0)) (kx_ BK222.out)) : gb222 ≠ gb235))
      have n9_ := Aside0.mk ((by rw [hg]; exact Nat.ne_of_gt (blk_lt (g := gb222) (o := .cells #[.slice A0_0 l0_0.length c0_0] 30 (0, 0)) (kx_ BK222.out)) : gb235 ≠ gb222))
      have n10_ := Aside0.mk ((by rw [hg]; exact Nat.ne_of_lt (blk_lt (g := gb223) (o := .cells #[.int .i64 a1_0, .int .i64 a1_1, .int .i64 a1_2] 23 (0, 0)) (kx_ BK223.out)) : gb223 ≠ gb235))
      have n11_ := Aside0.mk ((by rw [hg]; exact Nat.ne_of_gt (blk_lt (g := gb223) (o := .cells #[.int .i64 a1_0, .int .i64 a1_1, .int .i64 a1_2] 23 (0, 0)) (kx_ BK223.out)) : gb235 ≠ gb223))
      clear HO227
      clear HO233
      clear BK222
      clear BK223
      clear HB
      have HO227 := n0_
      have HO233 := n1_
      have BK222 := n2_
      have BK223 := n3_
      have HB := n4_
      have BK235 := n5_
      have GW235 := n6_
      have GE235 := n7_
      have NB222_235 := n8_
      have NB235_222 := n9_
      have NB223_235 := n10_
      have NB235_223 := n11_
      clear n0_ n1_ n2_ n3_ n4_ n5_ n6_ n7_ n8_ n9_ n10_ n11_
      clear hb hbox hg
      refine hK.out _ _ ⟨bc_ BK222 0, bc_ BK223 0, bc_ BK223 1, bc_ BK223 2⟩ (fun hHeld => ?_)
      clear hK K
      refine norm_ (a' := ?_) ?_ ?_
      rotate_left
      ·show Act.put _ (some 6) _ = _
       simp only [Act.put, sT, sZ, sS, i64_w, i32_w]
       rfl
      exact norm_ (by simp only [putAll, Act.put, sT, sZ, sS]) (hCont (.slice Ao25 t225.length co25, v232, gb235) _ ⟨hHeld, (by (with_reducible repeat (first | apply rA | apply rN | apply rD)); exact Kd.R_mono HO227.out (fun _ hk => hk.2)), (by (with_reducible repeat (first | apply rA | apply rN | apply rD)); exact Kd.R_mono HO233.out (fun _ hk => hk.2)), (kx_ BK222.out), (kx_ BK223.out), (kx_ BK235.out), GW235.out, GE235.out, NB222_235.out, NB235_222.out, NB223_235.out, NB235_223.out, (hm_)⟩)
     ·skip
      refine box_step ?hg (N := 6) ?hd (cs := #[.slice none 0 0]) (t := 35) ?hr ?_; (case hd => rfl); (case hg => rfl); (case hr => first | (go_simp; done) | (go_simp; rfl))
      intro gb235 hg w25 hbox hb
      have n0_ := Aside0.mk (Kd.R_below (ra_ HO227.out) hb)
      have n1_ := Aside0.mk (blk_below (g := gb222) (o := .cells #[.slice A0_0 l0_0.length c0_0] 30 (0, 0)) (kx_ BK222.out) hb)
      have n2_ := Aside0.mk (blk_below (g := gb223) (o := .cells #[.int .i64 a1_0, .int .i64 a1_1, .int .i64 a1_2] 23 (0, 0)) (kx_ BK223.out) hb)
      have n3_ := Aside0.mk (below_step (hm_) hb)
      have n4_ := Aside0.mk (hbox)
      have n5_ := Aside0.mk ((by rw [hg]; exact (below_size (hm_)) : w.heap.size ≤ gb235))
      have n6_ := Aside0.mk ((by rw [hg]; exact (below_size (hm_)) : w.heap.size ≤ gb235))
      have n7_ := Aside0.mk ((by rw [hg]; exact Nat.ne_of_lt (blk_lt (g := gb222) (o := .cells #[.slice A0_0 l0_0.length c0_0] 30 (0, 0)) (kx_ BK222.out)) : gb222 ≠ gb235))
      have n8_ := Aside0.mk ((by rw [hg]; exact Nat.ne_of_gt (blk_lt (g := gb222) (o := .cells #[.slice A0_0 l0_0.length c0_0] 30 (0, 0)) (kx_ BK222.out)) : gb235 ≠ gb222))
      have n9_ := Aside0.mk ((by rw [hg]; exact Nat.ne_of_lt (blk_lt (g := gb223) (o := .cells #[.int .i64 a1_0, .int .i64 a1_1, .int .i64 a1_2] 23 (0, 0)) (kx_ BK223.out)) : gb223 ≠ gb235))
      have n10_ := Aside0.mk ((by rw [hg]; exact Nat.ne_of_gt (blk_lt (g := gb223) (o := .cells #[.int .i64 a1_0, .int .i64 a1_1, .int .i64 a1_2] 23 (0, 0)) (kx_ BK223.out)) : gb235 ≠ gb223))
      clear HO227
      clear BK222
      clear BK223
      clear HB
      have HO227 := n0_
      have BK222 := n1_
      have BK223 := n2_
      have HB := n3_
      have BK235 := n4_
      have GW235 := n5_
      have GE235 := n6_
      have NB222_235 := n7_
      have NB235_222 := n8_
      have NB223_235 := n9_
      have NB235_223 := n10_
      clear n0_ n1_ n2_ n3_ n4_ n5_ n6_ n7_ n8_ n9_ n10_
      clear hb hbox hg
      obtain ⟨Ao26, co26, eo26⟩ := Kd.R_slice HO227.out
      (first | subst eo26 | (injection eo26 with f1_ f2_ f3_; have f4_ := f1_.symm; have f5_ := f3_.symm; clear f1_ f2_ f3_; subst f4_; subst f5_))
      refine hK.out _ _ ⟨bc_ BK222 0, bc_ BK223 0, bc_ BK223 1, bc_ BK223 2⟩ (fun hHeld => ?_)
      clear hK K
      refine norm_ (a' := ?_) ?_ ?_
      rotate_left
      ·show Act.put _ (some 6) _ = _
       simp only [Act.put, sT, sZ, sS, i64_w, i32_w]
       rfl
      refine one_ (i := 4) (N := some 26) #[true, true, true, true, true, false, false, false, true, false, false] rfl rfl (one_of HT_.out (by kernel_rfl)) (by decide) (fun K hK => ?_)
      refine goes_ Try.func17 (by kernel_rfl) rfl #[.agg #[.slice Ao26 t225.length co26], .agg #[.int .i64 t228, .int .i64 t229, .int .i64 t230]] (by rfl) rfl rfl ar_ ?_
      with_reducible refine (spec_AddClue.calls k _ _ t225 t228 t229 t230 t231 t234 _ ?side1 ?side2 A12.out).mono ?_
      (case side1 => repeat (first | exact (Kd.R_reads' HO227.out).2.2 | (with_reducible refine Kd.C_alloc ?_ _) | (with_reducible refine Kd.C_drewN ?_ _) | (with_reducible refine Kd.C_drew ?_)))
      (case side2 => exact (Kd.R_reads' HO227.out).2.1)
      rintro e w27 ⟨v232, rfl, ho0, hb⟩
      refine ⟨_, rfl, ?_⟩
      have n0_ := Aside0.mk (Kd.R_elder' (ra_ HO227.out) (Kd.R_base ho0) hb)
      have n1_ := Aside0.mk (Kd.R_lower (Kd.R_new' ho0 (Kd.R_lt (ra_ HO227.out))) (below_size (hm_)))
      have n2_ := Aside0.mk (blk_below (g := gb222) (o := .cells #[.slice A0_0 l0_0.length c0_0] 30 (0, 0)) (kx_ BK222.out) hb)
      have n3_ := Aside0.mk (blk_below (g := gb223) (o := .cells #[.int .i64 a1_0, .int .i64 a1_1, .int .i64 a1_2] 23 (0, 0)) (kx_ BK223.out) hb)
      have n4_ := Aside0.mk (blk_below (g := gb235) (o := .cells #[.slice none 0 0] 35 (0, 0)) (kx_ BK235.out) hb)
      have n5_ := Aside0.mk (below_step (hm_) hb)
      clear HO227
      clear BK222
      clear BK223
      clear BK235
      clear HB
      have HO227 := n0_
      have HO233 := n1_
      have BK222 := n2_
      have BK223 := n3_
      have BK235 := n4_
      have HB := n5_
      clear n0_ n1_ n2_ n3_ n4_ n5_
      (try clear hb)
      (try clear hb2)
      (try clear hk)
      (try clear hi)
      (try clear ho0)
      refine hK.out _ _ ⟨bc_ BK222 0, bc_ BK223 0, bc_ BK223 1, bc_ BK223 2⟩ (fun hHeld => ?_)
      clear hK K
      refine norm_ (a' := ?_) ?_ ?_
      rotate_left
      ·show Act.put _ (some 26) _ = _
       simp only [Act.put, sT, sZ, sS, i64_w, i32_w]
       rfl
      refine pure_ (i := 5) (N := some 21) (v := ?_) (a' := ?_) #[true, true, true, true, true, true, false, false, true, false, false] rfl rfl (any_of HT_.out (by kernel_rfl)) (fun _ _ _ h => h) (Or.inl ⟨by rfl, ?_⟩) ?_ ?_
      rotate_left
      ·intro w'
       go_simp
       with_reducible rfl
      rotate_left
      ·simp only [Act.put, sT, sZ, sS, i64_w, i32_w]
       rfl
      refine pure_ (i := 6) (N := some 27) (v := ?_) (a' := ?_) #[true, true, true, true, true, true, true, false, true, false, false] rfl rfl (any_of HT_.out (by kernel_rfl)) (fun _ _ _ h => h) (Or.inl ⟨by rfl, ?_⟩) ?_ ?_
      rotate_left
      ·intro w'
       go_simp
       with_reducible rfl
      rotate_left
      ·simp only [Act.put, sT, sZ, sS, i64_w, i32_w]
       rfl
      refine pure_ (i := 7) (N := some 28) (v := ?_) (a' := ?_) #[true, true, true, true, true, true, true, true, true, false, false] rfl rfl (any_of HT_.out (by kernel_rfl)) (fun _ _ _ h => h) (Or.inl ⟨by rfl, ?_⟩) ?_ ?_
      rotate_left
      ·intro w'
       go_simp
       with_reducible rfl
      rotate_left
      ·simp only [Act.put, sT, sZ, sS, i64_w, i32_w]
       rfl
      exact norm_ (by simp only [putAll, Act.put, sT, sZ, sS]) (hCont (.slice Ao26 t225.length co26, v232, gb235) _ ⟨hHeld, (by (with_reducible repeat (first | apply rA | apply rN | apply rD)); exact Kd.R_mono HO227.out (fun _ hk => hk.2)), (by (with_reducible repeat (first | apply rA | apply rN | apply rD)); exact Kd.R_mono HO233.out (fun _ hk => hk.2)), (kx_ BK222.out), (kx_ BK223.out), (kx_ BK235.out), GW235.out, GE235.out, NB222_235.out, NB235_222.out, NB223_235.out, NB235_223.out, (hm_)⟩)
    ·skip
     refine box_step ?hg (N := 6) ?hd (cs := #[.slice none 0 0]) (t := 35) ?hr ?_; (case hd => rfl); (case hg => rfl); (case hr => first | (go_simp; done) | (go_simp; rfl))
     intro gb235 hg w24 hbox hb
     have n0_ := Aside0.mk (Kd.R_below (ra_ HO227.out) hb)
     have n1_ := Aside0.mk (blk_below (g := gb222) (o := .cells #[.slice A0_0 l0_0.length c0_0] 30 (0, 0)) (kx_ BK222.out) hb)
     have n2_ := Aside0.mk (blk_below (g := gb223) (o := .cells #[.int .i64 a1_0, .int .i64 a1_1, .int .i64 a1_2] 23 (0, 0)) (kx_ BK223.out) hb)
     have n3_ := Aside0.mk (below_step (hm_) hb)
     have n4_ := Aside0.mk (hbox)
     have n5_ := Aside0.mk ((by rw [hg]; exact (below_size (hm_)) : w.heap.size ≤ gb235))
     have n6_ := Aside0.mk ((by rw [hg]; exact (below_size (hm_)) : w.heap.size ≤ gb235))
     have n7_ := Aside0.mk ((by rw [hg]; exact Nat.ne_of_lt (blk_lt (g := gb222) (o := .cells #[.slice A0_0 l0_0.length c0_0] 30 (0, 0)) (kx_ BK222.out)) : gb222 ≠ gb235))
     have n8_ := Aside0.mk ((by rw [hg]; exact Nat.ne_of_gt (blk_lt (g := gb222) (o := .cells #[.slice A0_0 l0_0.length c0_0] 30 (0, 0)) (kx_ BK222.out)) : gb235 ≠ gb222))
     have n9_ := Aside0.mk ((by rw [hg]; exact Nat.ne_of_lt (blk_lt (g := gb223) (o := .cells #[.int .i64 a1_0, .int .i64 a1_1, .int .i64 a1_2] 23 (0, 0)) (kx_ BK223.out)) : gb223 ≠ gb235))
     have n10_ := Aside0.mk ((by rw [hg]; exact Nat.ne_of_gt (blk_lt (g := gb223) (o := .cells #[.int .i64 a1_0, .int .i64 a1_1, .int .i64 a1_2] 23 (0, 0)) (kx_ BK223.out)) : gb235 ≠ gb223))
     clear HO227
     clear BK222
     clear BK223
     clear HB
     have HO227 := n0_
     have BK222 := n1_
     have BK223 := n2_
     have HB := n3_
     have BK235 := n4_
     have GW235 := n5_
     have GE235 := n6_
     have NB222_235 := n7_
     have NB235_222 := n8_
     have NB223_235 := n9_
     have NB235_223 := n10_
     clear n0_ n1_ n2_ n3_ n4_ n5_ n6_ n7_ n8_ n9_ n10_
     clear hb hbox hg
     refine hK.out _ _ ⟨bc_ BK222 0, bc_ BK223 0, bc_ BK223 1, bc_ BK223 2⟩ (fun hHeld => ?_)
     clear hK K
     refine norm_ (a' := ?_) ?_ ?_
     rotate_left
     ·show Act.put _ (some 6) _ = _
      simp only [Act.put, sT, sZ, sS, i64_w, i32_w]
      rfl
     refine one_ (i := 3) (N := some 25) #[true, true, true, true, false, false, false, false, true, false, false] rfl rfl (one_of HT_.out (by kernel_rfl)) (by decide) (fun K hK => ?_)
     refine goes_ Try.func10 (by kernel_rfl) rfl #[.agg #[.int .i64 a1_0, .int .i64 a1_1, .int .i64 a1_2]] (by rfl) rfl rfl ar_ ?_
     with_reducible refine (laws_toClue.calls a1_0 a1_1 a1_2 t228 t229 t230 _ A11.out).mono ?_
     rintro e w25 ⟨rfl, hb⟩
     refine ⟨_, rfl, ?_⟩
     have n0_ := Aside0.mk (Kd.R_below (ra_ HO227.out) hb)
     have n1_ := Aside0.mk (blk_below (g := gb222) (o := .cells #[.slice A0_0 l0_0.length c0_0] 30 (0, 0)) (kx_ BK222.out) hb)
     have n2_ := Aside0.mk (blk_below (g := gb223) (o := .cells #[.int .i64 a1_0, .int .i64 a1_1, .int .i64 a1_2] 23 (0, 0)) (kx_ BK223.out) hb)
     have n3_ := Aside0.mk (blk_below (g := gb235) (o := .cells #[.slice none 0 0] 35 (0, 0)) (kx_ BK235.out) hb)
     have n4_ := Aside0.mk (below_step (hm_) hb)
     clear HO227
     clear BK222
     clear BK223
     clear BK235
     clear HB
     have HO227 := n0_
     have BK222 := n1_
     have BK223 := n2_
     have BK235 := n3_
     have HB := n4_
     clear n0_ n1_ n2_ n3_ n4_
     (try clear hb)
     (try clear hb2)
     (try clear hk)
     (try clear hi)
     obtain ⟨Ao26, co26, eo26⟩ := Kd.R_slice HO227.out
     (first | subst eo26 | (injection eo26 with f1_ f2_ f3_; have f4_ := f1_.symm; have f5_ := f3_.symm; clear f1_ f2_ f3_; subst f4_; subst f5_))
     refine hK.out _ _ ⟨bc_ BK222 0, bc_ BK223 0, bc_ BK223 1, bc_ BK223 2⟩ (fun hHeld => ?_)
     clear hK K
     refine norm_ (a' := ?_) ?_ ?_
     rotate_left
     ·show Act.put _ (some 25) _ = _
      simp only [Act.put, sT, sZ, sS, i64_w, i32_w]
      rfl
     refine one_ (i := 4) (N := some 26) #[true, true, true, true, true, false, false, false, true, false, false] rfl rfl (one_of HT_.out (by kernel_rfl)) (by decide) (fun K hK => ?_)
     refine goes_ Try.func17 (by kernel_rfl) rfl #[.agg #[.slice Ao26 t225.length co26], .agg #[.int .i64 t228, .int .i64 t229, .int .i64 t230]] (by rfl) rfl rfl ar_ ?_
     with_reducible refine (spec_AddClue.calls k _ _ t225 t228 t229 t230 t231 t234 _ ?side1 ?side2 A12.out).mono ?_
     (case side1 => repeat (first | exact (Kd.R_reads' HO227.out).2.2 | (with_reducible refine Kd.C_alloc ?_ _) | (with_reducible refine Kd.C_drewN ?_ _) | (with_reducible refine Kd.C_drew ?_)))
     (case side2 => exact (Kd.R_reads' HO227.out).2.1)
     rintro e w27 ⟨v232, rfl, ho0, hb⟩
     refine ⟨_, rfl, ?_⟩
     have n0_ := Aside0.mk (Kd.R_elder' (ra_ HO227.out) (Kd.R_base ho0) hb)
     have n1_ := Aside0.mk (Kd.R_lower (Kd.R_new' ho0 (Kd.R_lt (ra_ HO227.out))) (below_size (hm_)))
     have n2_ := Aside0.mk (blk_below (g := gb222) (o := .cells #[.slice A0_0 l0_0.length c0_0] 30 (0, 0)) (kx_ BK222.out) hb)
     have n3_ := Aside0.mk (blk_below (g := gb223) (o := .cells #[.int .i64 a1_0, .int .i64 a1_1, .int .i64 a1_2] 23 (0, 0)) (kx_ BK223.out) hb)
     have n4_ := Aside0.mk (blk_below (g := gb235) (o := .cells #[.slice none 0 0] 35 (0, 0)) (kx_ BK235.out) hb)
     have n5_ := Aside0.mk (below_step (hm_) hb)
     clear HO227
     clear BK222
     clear BK223
     clear BK235
     clear HB
     have HO227 := n0_
     have HO233 := n1_
     have BK222 := n2_
     have BK223 := n3_
     have BK235 := n4_
     have HB := n5_
     clear n0_ n1_ n2_ n3_ n4_ n5_
     (try clear hb)
     (try clear hb2)
     (try clear hk)
     (try clear hi)
     (try clear ho0)
     refine hK.out _ _ ⟨bc_ BK222 0, bc_ BK223 0, bc_ BK223 1, bc_ BK223 2⟩ (fun hHeld => ?_)
     clear hK K
     refine norm_ (a' := ?_) ?_ ?_
     rotate_left
     ·show Act.put _ (some 26) _ = _
      simp only [Act.put, sT, sZ, sS, i64_w, i32_w]
      rfl
     refine pure_ (i := 5) (N := some 21) (v := ?_) (a' := ?_) #[true, true, true, true, true, true, false, false, true, false, false] rfl rfl (any_of HT_.out (by kernel_rfl)) (fun _ _ _ h => h) (Or.inl ⟨by rfl, ?_⟩) ?_ ?_
     rotate_left
     ·intro w'
      go_simp
      with_reducible rfl
     rotate_left
     ·simp only [Act.put, sT, sZ, sS, i64_w, i32_w]
      rfl
     refine pure_ (i := 6) (N := some 27) (v := ?_) (a' := ?_) #[true, true, true, true, true, true, true, false, true, false, false] rfl rfl (any_of HT_.out (by kernel_rfl)) (fun _ _ _ h => h) (Or.inl ⟨by rfl, ?_⟩) ?_ ?_
     rotate_left
     ·intro w'
      go_simp
      with_reducible rfl
     rotate_left
     ·simp only [Act.put, sT, sZ, sS, i64_w, i32_w]
      rfl
     refine pure_ (i := 7) (N := some 28) (v := ?_) (a' := ?_) #[true, true, true, true, true, true, true, true, true, false, false] rfl rfl (any_of HT_.out (by kernel_rfl)) (fun _ _ _ h => h) (Or.inl ⟨by rfl, ?_⟩) ?_ ?_
     rotate_left
     ·intro w'
      go_simp
      with_reducible rfl
     rotate_left
     ·simp only [Act.put, sT, sZ, sS, i64_w, i32_w]
      rfl
     exact norm_ (by simp only [putAll, Act.put, sT, sZ, sS]) (hCont (.slice Ao26 t225.length co26, v232, gb235) _ ⟨hHeld, (by (with_reducible repeat (first | apply rA | apply rN | apply rD)); exact Kd.R_mono HO227.out (fun _ hk => hk.2)), (by (with_reducible repeat (first | apply rA | apply rN | apply rD)); exact Kd.R_mono HO233.out (fun _ hk => hk.2)), (kx_ BK222.out), (kx_ BK223.out), (kx_ BK235.out), GW235.out, GE235.out, NB222_235.out, NB235_222.out, NB223_235.out, NB235_223.out, (hm_)⟩)
   ·skip
    refine box_step ?hg (N := 6) ?hd (cs := #[.slice none 0 0]) (t := 35) ?hr ?_; (case hd => rfl); (case hg => rfl); (case hr => first | (go_simp; done) | (go_simp; rfl))
    intro gb235 hg w23 hbox hb
    have n0_ := Aside0.mk (blk_below (g := gb222) (o := .cells #[.slice A0_0 l0_0.length c0_0] 30 (0, 0)) (kx_ BK222.out) hb)
    have n1_ := Aside0.mk (blk_below (g := gb223) (o := .cells #[.int .i64 a1_0, .int .i64 a1_1, .int .i64 a1_2] 23 (0, 0)) (kx_ BK223.out) hb)
    have n2_ := Aside0.mk (below_step (hm_) hb)
    have n3_ := Aside0.mk (hbox)
    have n4_ := Aside0.mk ((by rw [hg]; exact (below_size (hm_)) : w.heap.size ≤ gb235))
    have n5_ := Aside0.mk ((by rw [hg]; exact (below_size (hm_)) : w.heap.size ≤ gb235))
    have n6_ := Aside0.mk ((by rw [hg]; exact Nat.ne_of_lt (blk_lt (g := gb222) (o := .cells #[.slice A0_0 l0_0.length c0_0] 30 (0, 0)) (kx_ BK222.out)) : gb222 ≠ gb235))
    have n7_ := Aside0.mk ((by rw [hg]; exact Nat.ne_of_gt (blk_lt (g := gb222) (o := .cells #[.slice A0_0 l0_0.length c0_0] 30 (0, 0)) (kx_ BK222.out)) : gb235 ≠ gb222))
    have n8_ := Aside0.mk ((by rw [hg]; exact Nat.ne_of_lt (blk_lt (g := gb223) (o := .cells #[.int .i64 a1_0, .int .i64 a1_1, .int .i64 a1_2] 23 (0, 0)) (kx_ BK223.out)) : gb223 ≠ gb235))
    have n9_ := Aside0.mk ((by rw [hg]; exact Nat.ne_of_gt (blk_lt (g := gb223) (o := .cells #[.int .i64 a1_0, .int .i64 a1_1, .int .i64 a1_2] 23 (0, 0)) (kx_ BK223.out)) : gb235 ≠ gb223))
    clear BK222
    clear BK223
    clear HB
    have BK222 := n0_
    have BK223 := n1_
    have HB := n2_
    have BK235 := n3_
    have GW235 := n4_
    have GE235 := n5_
    have NB222_235 := n6_
    have NB235_222 := n7_
    have NB223_235 := n8_
    have NB235_223 := n9_
    clear n0_ n1_ n2_ n3_ n4_ n5_ n6_ n7_ n8_ n9_
    clear hb hbox hg
    refine hK.out _ _ ⟨bc_ BK222 0, bc_ BK223 0, bc_ BK223 1, bc_ BK223 2⟩ (fun hHeld => ?_)
    clear hK K
    refine norm_ (a' := ?_) ?_ ?_
    rotate_left
    ·show Act.put _ (some 6) _ = _
     simp only [Act.put, sT, sZ, sS, i64_w, i32_w]
     rfl
    refine one_ (i := 1) (N := some 23) #[true, true, true, false, false, false, false, false, true, false, false] rfl rfl (one_of HT_.out (by kernel_rfl)) (by decide) (fun K hK => ?_)
    refine goes_ Try.func14 (by kernel_rfl) rfl #[.agg #[.slice A0_0 l0_0.length c0_0]] (by rfl) rfl rfl ar_ ?_
    with_reducible refine (laws_toPuzzle.calls k _ _ l0_0 t225 _ ?side1 ?side2 A10.out).mono ?_
    (case side1 => repeat (first | exact (Kd.C_below HR0_0.out HB.out) | (with_reducible refine Kd.C_alloc ?_ _) | (with_reducible refine Kd.C_drewN ?_ _) | (with_reducible refine Kd.C_drew ?_)))
    (case side2 => exact HC0_0.out)
    rintro e w24 ⟨v226, rfl, ho0, hb⟩
    refine ⟨_, rfl, ?_⟩
    have n0_ := Aside0.mk (Kd.R_lower ho0 (below_size (hm_)))
    have n1_ := Aside0.mk (blk_below (g := gb222) (o := .cells #[.slice A0_0 l0_0.length c0_0] 30 (0, 0)) (kx_ BK222.out) hb)
    have n2_ := Aside0.mk (blk_below (g := gb223) (o := .cells #[.int .i64 a1_0, .int .i64 a1_1, .int .i64 a1_2] 23 (0, 0)) (kx_ BK223.out) hb)
    have n3_ := Aside0.mk (blk_below (g := gb235) (o := .cells #[.slice none 0 0] 35 (0, 0)) (kx_ BK235.out) hb)
    have n4_ := Aside0.mk (below_step (hm_) hb)
    clear BK222
    clear BK223
    clear BK235
    clear HB
    have HO227 := n0_
    have BK222 := n1_
    have BK223 := n2_
    have BK235 := n3_
    have HB := n4_
    clear n0_ n1_ n2_ n3_ n4_
    (try clear hb)
    (try clear hb2)
    (try clear hk)
    (try clear hi)
    (try clear ho0)
    refine hK.out _ _ ⟨bc_ BK222 0, bc_ BK223 0, bc_ BK223 1, bc_ BK223 2⟩ (fun hHeld => ?_)
    clear hK K
    refine norm_ (a' := ?_) ?_ ?_
    rotate_left
    ·show Act.put _ (some 23) _ = _
     simp only [Act.put, sT, sZ, sS, i64_w, i32_w]
     rfl
    refine one_ (i := 3) (N := some 25) #[true, true, true, true, false, false, false, false, true, false, false] rfl rfl (one_of HT_.out (by kernel_rfl)) (by decide) (fun K hK => ?_)
    refine goes_ Try.func10 (by kernel_rfl) rfl #[.agg #[.int .i64 a1_0, .int .i64 a1_1, .int .i64 a1_2]] (by rfl) rfl rfl ar_ ?_
    with_reducible refine (laws_toClue.calls a1_0 a1_1 a1_2 t228 t229 t230 _ A11.out).mono ?_
    rintro e w25 ⟨rfl, hb⟩
    refine ⟨_, rfl, ?_⟩
    have n0_ := Aside0.mk (Kd.R_below (ra_ HO227.out) hb)
    have n1_ := Aside0.mk (blk_below (g := gb222) (o := .cells #[.slice A0_0 l0_0.length c0_0] 30 (0, 0)) (kx_ BK222.out) hb)
    have n2_ := Aside0.mk (blk_below (g := gb223) (o := .cells #[.int .i64 a1_0, .int .i64 a1_1, .int .i64 a1_2] 23 (0, 0)) (kx_ BK223.out) hb)
    have n3_ := Aside0.mk (blk_below (g := gb235) (o := .cells #[.slice none 0 0] 35 (0, 0)) (kx_ BK235.out) hb)
    have n4_ := Aside0.mk (below_step (hm_) hb)
    clear HO227
    clear BK222
    clear BK223
    clear BK235
    clear HB
    have HO227 := n0_
    have BK222 := n1_
    have BK223 := n2_
    have BK235 := n3_
    have HB := n4_
    clear n0_ n1_ n2_ n3_ n4_
    (try clear hb)
    (try clear hb2)
    (try clear hk)
    (try clear hi)
    obtain ⟨Ao26, co26, eo26⟩ := Kd.R_slice HO227.out
    (first | subst eo26 | (injection eo26 with f1_ f2_ f3_; have f4_ := f1_.symm; have f5_ := f3_.symm; clear f1_ f2_ f3_; subst f4_; subst f5_))
    refine hK.out _ _ ⟨bc_ BK222 0, bc_ BK223 0, bc_ BK223 1, bc_ BK223 2⟩ (fun hHeld => ?_)
    clear hK K
    refine norm_ (a' := ?_) ?_ ?_
    rotate_left
    ·show Act.put _ (some 25) _ = _
     simp only [Act.put, sT, sZ, sS, i64_w, i32_w]
     rfl
    refine one_ (i := 4) (N := some 26) #[true, true, true, true, true, false, false, false, true, false, false] rfl rfl (one_of HT_.out (by kernel_rfl)) (by decide) (fun K hK => ?_)
    refine goes_ Try.func17 (by kernel_rfl) rfl #[.agg #[.slice Ao26 t225.length co26], .agg #[.int .i64 t228, .int .i64 t229, .int .i64 t230]] (by rfl) rfl rfl ar_ ?_
    with_reducible refine (spec_AddClue.calls k _ _ t225 t228 t229 t230 t231 t234 _ ?side1 ?side2 A12.out).mono ?_
    (case side1 => repeat (first | exact (Kd.R_reads' HO227.out).2.2 | (with_reducible refine Kd.C_alloc ?_ _) | (with_reducible refine Kd.C_drewN ?_ _) | (with_reducible refine Kd.C_drew ?_)))
    (case side2 => exact (Kd.R_reads' HO227.out).2.1)
    rintro e w27 ⟨v232, rfl, ho0, hb⟩
    refine ⟨_, rfl, ?_⟩
    have n0_ := Aside0.mk (Kd.R_elder' (ra_ HO227.out) (Kd.R_base ho0) hb)
    have n1_ := Aside0.mk (Kd.R_lower (Kd.R_new' ho0 (Kd.R_lt (ra_ HO227.out))) (below_size (hm_)))
    have n2_ := Aside0.mk (blk_below (g := gb222) (o := .cells #[.slice A0_0 l0_0.length c0_0] 30 (0, 0)) (kx_ BK222.out) hb)
    have n3_ := Aside0.mk (blk_below (g := gb223) (o := .cells #[.int .i64 a1_0, .int .i64 a1_1, .int .i64 a1_2] 23 (0, 0)) (kx_ BK223.out) hb)
    have n4_ := Aside0.mk (blk_below (g := gb235) (o := .cells #[.slice none 0 0] 35 (0, 0)) (kx_ BK235.out) hb)
    have n5_ := Aside0.mk (below_step (hm_) hb)
    clear HO227
    clear BK222
    clear BK223
    clear BK235
    clear HB
    have HO227 := n0_
    have HO233 := n1_
    have BK222 := n2_
    have BK223 := n3_
    have BK235 := n4_
    have HB := n5_
    clear n0_ n1_ n2_ n3_ n4_ n5_
    (try clear hb)
    (try clear hb2)
    (try clear hk)
    (try clear hi)
    (try clear ho0)
    refine hK.out _ _ ⟨bc_ BK222 0, bc_ BK223 0, bc_ BK223 1, bc_ BK223 2⟩ (fun hHeld => ?_)
    clear hK K
    refine norm_ (a' := ?_) ?_ ?_
    rotate_left
    ·show Act.put _ (some 26) _ = _
     simp only [Act.put, sT, sZ, sS, i64_w, i32_w]
     rfl
    refine pure_ (i := 5) (N := some 21) (v := ?_) (a' := ?_) #[true, true, true, true, true, true, false, false, true, false, false] rfl rfl (any_of HT_.out (by kernel_rfl)) (fun _ _ _ h => h) (Or.inl ⟨by rfl, ?_⟩) ?_ ?_
    rotate_left
    ·intro w'
     go_simp
     with_reducible rfl
    rotate_left
    ·simp only [Act.put, sT, sZ, sS, i64_w, i32_w]
     rfl
    refine pure_ (i := 6) (N := some 27) (v := ?_) (a' := ?_) #[true, true, true, true, true, true, true, false, true, false, false] rfl rfl (any_of HT_.out (by kernel_rfl)) (fun _ _ _ h => h) (Or.inl ⟨by rfl, ?_⟩) ?_ ?_
    rotate_left
    ·intro w'
     go_simp
     with_reducible rfl
    rotate_left
    ·simp only [Act.put, sT, sZ, sS, i64_w, i32_w]
     rfl
    refine pure_ (i := 7) (N := some 28) (v := ?_) (a' := ?_) #[true, true, true, true, true, true, true, true, true, false, false] rfl rfl (any_of HT_.out (by kernel_rfl)) (fun _ _ _ h => h) (Or.inl ⟨by rfl, ?_⟩) ?_ ?_
    rotate_left
    ·intro w'
     go_simp
     with_reducible rfl
    rotate_left
    ·simp only [Act.put, sT, sZ, sS, i64_w, i32_w]
     rfl
    exact norm_ (by simp only [putAll, Act.put, sT, sZ, sS]) (hCont (.slice Ao26 t225.length co26, v232, gb235) _ ⟨hHeld, (by (with_reducible repeat (first | apply rA | apply rN | apply rD)); exact Kd.R_mono HO227.out (fun _ hk => hk.2)), (by (with_reducible repeat (first | apply rA | apply rN | apply rD)); exact Kd.R_mono HO233.out (fun _ hk => hk.2)), (kx_ BK222.out), (kx_ BK223.out), (kx_ BK235.out), GW235.out, GE235.out, NB222_235.out, NB235_222.out, NB223_235.out, NB235_223.out, (hm_)⟩)
  rintro ⟨v226, v232, gb235⟩ w28 ⟨hS_, h0_, h1_, h2_, h3_, h4_, h5_, h6_, h7_, h8_, h9_, h10_, h11_⟩
  have n0_ : Aside0 (Kd.R k25 25 w28 w.heap.size (fun k_ => some k_ ≠ (v232 : Value).ownBlock) v226 t225) := ⟨h0_⟩
  have n1_ : Aside0 (Kd.R k25 25 w28 w.heap.size (fun k_ => some k_ ≠ (v226 : Value).ownBlock) v232 t231) := ⟨h1_⟩
  have n2_ : Aside0 (w28.heap[gb222]? = some (.cells #[.slice A0_0 l0_0.length c0_0] 30 (0, 0))) := ⟨h2_⟩
  have n3_ : Aside0 (w28.heap[gb223]? = some (.cells #[.int .i64 a1_0, .int .i64 a1_1, .int .i64 a1_2] 23 (0, 0))) := ⟨h3_⟩
  have n4_ : Aside0 (w28.heap[gb235]? = some (.cells #[.slice none 0 0] 35 (0, 0))) := ⟨h4_⟩
  have n5_ : Aside0 (w.heap.size ≤ gb235) := ⟨h5_⟩
  have n6_ : Aside0 (w.heap.size ≤ gb235) := ⟨h6_⟩
  have n7_ : Aside0 (gb222 ≠ gb235) := ⟨h7_⟩
  have n8_ : Aside0 (gb235 ≠ gb222) := ⟨h8_⟩
  have n9_ : Aside0 (gb223 ≠ gb235) := ⟨h9_⟩
  have n10_ : Aside0 (gb235 ≠ gb223) := ⟨h10_⟩
  have n11_ : Aside0 (Below w.heap.size w w28) := ⟨h11_⟩
  clear BK222
  clear BK223
  clear HB
  clear h0_ h1_ h2_ h3_ h4_ h5_ h6_ h7_ h8_ h9_ h10_ h11_
  have HO227 := n0_
  have HO233 := n1_
  have BK222 := n2_
  have BK223 := n3_
  have BK235 := n4_
  have GW235 := n5_
  have GE235 := n6_
  have NB222_235 := n7_
  have NB235_222 := n8_
  have NB223_235 := n9_
  have NB235_223 := n10_
  have HB := n11_
  clear n0_ n1_ n2_ n3_ n4_ n5_ n6_ n7_ n8_ n9_ n10_ n11_
  have hHeld : w28.cell? ⟨gb222, 0, none⟩ = some (.slice A0_0 l0_0.length c0_0) ∧ w28.cell? ⟨gb223, 0, none⟩ = some (.int .i64 a1_0) ∧ w28.cell? ⟨gb223, 1, none⟩ = some (.int .i64 a1_1) ∧ w28.cell? ⟨gb223, 2, none⟩ = some (.int .i64 a1_2) := hS_
  obtain ⟨Ao29, co29, eo29⟩ := Kd.R_slice HO233.out
  (first | subst eo29 | (injection eo29 with f1_ f2_ f3_; have f4_ := f1_.symm; have f5_ := f3_.symm; clear f1_ f2_ f3_; subst f4_; subst f5_))
  refine norm_ (a' := ?_) ?_ ?_
  rotate_left
  ·simp only [putAll, Act.put, sT, sZ, sS]
   rfl
  refine one_ (i := 9) (N := none) #[true, true, true, true, true, true, true, true, true, true, false] rfl rfl (one_of HT_.out (by kernel_rfl)) (by decide) (fun K hK => ?_)
  have hs30 : w28.cell? ⟨gb235, 0, none⟩ = some (.slice none 0 0) := bc_ BK235 0
  have hfs30 := blk_frozen BK235.out 0
  have hns30_0 := NB222_235.out
  have hns30_1 := NB223_235.out
  have hms30_0 := NB235_222.out
  have hms30_1 := NB235_223.out
  refine skip_ (w1 := ?_) (by rfl) rfl ?_ ?_
  rotate_left
  ·go_simp
   rfl
  refine hK.out _ _ ⟨((cell_far (p := ⟨gb235, _, none⟩) NB222_235.out _).trans (hHeld.1)), ((cell_far (p := ⟨gb235, _, none⟩) NB223_235.out _).trans (hHeld.2.1)), ((cell_far (p := ⟨gb235, _, none⟩) NB223_235.out _).trans (hHeld.2.2.1)), ((cell_far (p := ⟨gb235, _, none⟩) NB223_235.out _).trans (hHeld.2.2.2))⟩ (fun hHeld => ?_)
  clear hK K
  refine pure_ (i := 10) (N := some 7) (v := ?_) (a' := ?_) #[true, true, true, true, true, true, true, true, true, true, true] rfl rfl (any_of HT_.out (by kernel_rfl)) (fun _ _ _ h => h) (Or.inl ⟨by rfl, ?_⟩) ?_ ?_
  rotate_left
  ·intro w'
   go_simp
   with_reducible rfl
  rotate_left
  ·simp only [Act.put, sT, sZ, sS, i64_w, i32_w]
   rfl
  refine done_ (done_of HT_.out (by kernel_rfl)) ?_
  have hnb31 := NB222_235.out
  have hnc31 := NB235_222.out
  have hcz32_0 : w28.cell? ⟨gb222, 0, none⟩ = some (.slice A0_0 l0_0.length c0_0) := bc_ BK222 0
  have hfz32_0 := blk_frozen BK222.out 0
  try go_wp2_with (first | ((with_reducible refine gate_callee (f := 14) rfl ?_); refine goesL_ (some 30) rfl rfl Try.func14 (by kernel_rfl) rfl #[.agg #[.slice A0_0 l0_0.length c0_0]] rfl ar_ ?_; (with_reducible refine (laws_toPuzzle.calls k _ _ l0_0 t236 _ ?side1 ?side2 A13.out).mono ?_); (case side1 => exact Kd.C_below HR0_0.out (hm_)); (case side2 => exact HC0_0.out); rintro e w33 ⟨v237, rfl, ho0, hb⟩; refine ⟨_, rfl, ?_⟩; have n0_ := Aside0.mk (Kd.R_elder' (by (with_reducible repeat (first | apply rA | apply rN | apply rD)); exact (Kd.R_mono (Kd.R_far (p := ⟨gb235, 0, none⟩) (Kd.R_types HO227.out BK235.out (by decide)) (fun _ hk => hk.2) (.slice Ao29 t231.length co29)) (fun _ h_ => h_.1))) (Kd.R_base ho0) hb); have n1_ := Aside0.mk (Kd.R_elder' (by (with_reducible repeat (first | apply rA | apply rN | apply rD)); exact (Kd.R_mono (Kd.R_far (p := ⟨gb235, 0, none⟩) (Kd.R_types HO233.out BK235.out (by decide)) (fun _ hk => hk.2) (.slice Ao29 t231.length co29)) (fun _ h_ => h_.1))) (Kd.R_base ho0) hb); have n2_ := Aside0.mk (Kd.R_lower (Kd.R_new' (Kd.R_new' ho0 (Kd.R_lt (by (with_reducible repeat (first | apply rA | apply rN | apply rD)); exact (Kd.R_mono (Kd.R_far (p := ⟨gb235, 0, none⟩) (Kd.R_types HO227.out BK235.out (by decide)) (fun _ hk => hk.2) (.slice Ao29 t231.length co29)) (fun _ h_ => h_.1))))) (Kd.R_lt (by (with_reducible repeat (first | apply rA | apply rN | apply rD)); exact (Kd.R_mono (Kd.R_far (p := ⟨gb235, 0, none⟩) (Kd.R_types HO233.out BK235.out (by decide)) (fun _ hk => hk.2) (.slice Ao29 t231.length co29)) (fun _ h_ => h_.1))))) (below_size (hm_))); have n3_ := Aside0.mk (blk_below (g := gb222) (o := .cells #[.slice A0_0 l0_0.length c0_0] 30 (0, 0)) (by (with_reducible repeat (first | refine kN ?_ _ | refine kD ?_ | refine kA ?_ _)); refine blk_far ?_ NB222_235.out _; (with_reducible repeat (first | refine kN ?_ _ | refine kD ?_ | refine kA ?_ _)); exact BK222.out) hb); have n4_ := Aside0.mk (blk_below (g := gb223) (o := .cells #[.int .i64 a1_0, .int .i64 a1_1, .int .i64 a1_2] 23 (0, 0)) (by (with_reducible repeat (first | refine kN ?_ _ | refine kD ?_ | refine kA ?_ _)); refine blk_far ?_ NB223_235.out _; (with_reducible repeat (first | refine kN ?_ _ | refine kD ?_ | refine kA ?_ _)); exact BK223.out) hb); have n5_ := Aside0.mk (blk_below (g := gb235) (o := .cells #[.slice Ao29 t231.length co29] 35 (0, 0)) (by (with_reducible repeat (first | refine kN ?_ _ | refine kD ?_ | refine kA ?_ _)); refine blk_put (cs := #[.slice none 0 0]) ?_ 0 _ rfl; (with_reducible repeat (first | refine kN ?_ _ | refine kD ?_ | refine kA ?_ _)); exact BK235.out) hb); have n6_ := Aside0.mk (below_step (hm_) hb); clear HO227; clear HO233; clear BK222; clear BK223; clear BK235; clear HB; have HO227 := n0_; have HO233 := n1_; have HO238 := n2_; have BK222 := n3_; have BK223 := n4_; have BK235 := n5_; have HB := n6_; clear n0_ n1_ n2_ n3_ n4_ n5_ n6_; (try clear hb); (try clear hb2); (try clear hk); (try clear hi); (try clear ho0)) | ((with_reducible refine gate_dst (N := 8) rfl ?_); refine box_event ?hg (N := 8) ?hd (cs := #[.slice none 0 0]) (t := 35) ?hr ?_; (case hd => rfl); (case hg => rfl); (case hr => first | (go_simp; done) | (go_simp; rfl)); intro gb239 hg w34 hbox hb; have n0_ := Aside0.mk (Kd.R_below (ra_ HO227.out) hb); have n1_ := Aside0.mk (Kd.R_below (ra_ HO233.out) hb); have n2_ := Aside0.mk (Kd.R_below (ra_ HO238.out) hb); have n3_ := Aside0.mk (blk_below (g := gb222) (o := .cells #[.slice A0_0 l0_0.length c0_0] 30 (0, 0)) (kx_ BK222.out) hb); have n4_ := Aside0.mk (blk_below (g := gb223) (o := .cells #[.int .i64 a1_0, .int .i64 a1_1, .int .i64 a1_2] 23 (0, 0)) (kx_ BK223.out) hb); have n5_ := Aside0.mk (blk_below (g := gb235) (o := .cells #[.slice Ao29 t231.length co29] 35 (0, 0)) (kx_ BK235.out) hb); have n6_ := Aside0.mk (below_step (hm_) hb); have n7_ := Aside0.mk (hbox); have n8_ := Aside0.mk ((by rw [hg]; exact (below_size (hm_)) : w.heap.size ≤ gb239)); have n9_ := Aside0.mk ((by rw [hg]; exact (below_size (hm_)) : w.heap.size ≤ gb239)); have n10_ := Aside0.mk ((by rw [hg]; exact Nat.ne_of_lt (blk_lt (g := gb222) (o := .cells #[.slice A0_0 l0_0.length c0_0] 30 (0, 0)) (kx_ BK222.out)) : gb222 ≠ gb239)); have n11_ := Aside0.mk ((by rw [hg]; exact Nat.ne_of_gt (blk_lt (g := gb222) (o := .cells #[.slice A0_0 l0_0.length c0_0] 30 (0, 0)) (kx_ BK222.out)) : gb239 ≠ gb222)); have n12_ := Aside0.mk ((by rw [hg]; exact Nat.ne_of_lt (blk_lt (g := gb223) (o := .cells #[.int .i64 a1_0, .int .i64 a1_1, .int .i64 a1_2] 23 (0, 0)) (kx_ BK223.out)) : gb223 ≠ gb239)); have n13_ := Aside0.mk ((by rw [hg]; exact Nat.ne_of_gt (blk_lt (g := gb223) (o := .cells #[.int .i64 a1_0, .int .i64 a1_1, .int .i64 a1_2] 23 (0, 0)) (kx_ BK223.out)) : gb239 ≠ gb223)); have n14_ := Aside0.mk ((by rw [hg]; exact Nat.ne_of_lt (blk_lt (g := gb235) (o := .cells #[.slice Ao29 t231.length co29] 35 (0, 0)) (kx_ BK235.out)) : gb235 ≠ gb239)); have n15_ := Aside0.mk ((by rw [hg]; exact Nat.ne_of_gt (blk_lt (g := gb235) (o := .cells #[.slice Ao29 t231.length co29] 35 (0, 0)) (kx_ BK235.out)) : gb239 ≠ gb235)); clear HO227; clear HO233; clear HO238; clear BK222; clear BK223; clear BK235; clear HB; have HO227 := n0_; have HO233 := n1_; have HO238 := n2_; have BK222 := n3_; have BK223 := n4_; have BK235 := n5_; have HB := n6_; have BK239 := n7_; have GW239 := n8_; have GE239 := n9_; have NB222_239 := n10_; have NB239_222 := n11_; have NB223_239 := n12_; have NB239_223 := n13_; have NB235_239 := n14_; have NB239_235 := n15_; clear n0_ n1_ n2_ n3_ n4_ n5_ n6_ n7_ n8_ n9_ n10_ n11_ n12_ n13_ n14_ n15_; clear hb hbox hg; obtain ⟨Ao35, co35, eo35⟩ := Kd.R_slice HO238.out; subst eo35; have hnb36 := NB239_222.out; have hnc36 := NB222_239.out; have hnb37 := NB239_223.out; have hnc37 := NB223_239.out; have hnb38 := NB239_235.out; have hnc38 := NB235_239.out; have hcz39_0 : w34.cell? ⟨gb239, 0, none⟩ = some (.slice none 0 0) := bc_ BK239 0; have hfz39_0 := blk_frozen BK239.out 0))
  have n0_ : Aside0 (Kd.R k25 25 (w34.setCell ⟨gb239, 0, none⟩ (.slice Ao35 t236.length co35)) w.heap.size (fun k_ => some k_ ≠ (.slice Ao29 t231.length co29 : Value).ownBlock ∧ some k_ ≠ (.slice Ao35 t236.length co35 : Value).ownBlock) v226 t225) := ⟨by (with_reducible repeat (first | apply rA | apply rN | apply rD)); exact Kd.R_mono (Kd.R_far (p := ⟨gb239, 0, none⟩) (Kd.R_types HO227.out BK239.out (by decide)) (fun _ hk => hk.2) (.slice Ao35 t236.length co35)) (fun _ hk => ⟨hk.1.1, hk.1.2⟩)⟩
  have n1_ : Aside0 (Kd.R k25 25 (w34.setCell ⟨gb239, 0, none⟩ (.slice Ao35 t236.length co35)) w.heap.size (fun k_ => some k_ ≠ (v226 : Value).ownBlock ∧ some k_ ≠ (.slice Ao35 t236.length co35 : Value).ownBlock) (.slice Ao29 t231.length co29) t231) := ⟨by (with_reducible repeat (first | apply rA | apply rN | apply rD)); exact Kd.R_mono (Kd.R_far (p := ⟨gb239, 0, none⟩) (Kd.R_types HO233.out BK239.out (by decide)) (fun _ hk => hk.2) (.slice Ao35 t236.length co35)) (fun _ hk => ⟨hk.1.1, hk.1.2⟩)⟩
  have n2_ : Aside0 (Kd.R k25 25 (w34.setCell ⟨gb239, 0, none⟩ (.slice Ao35 t236.length co35)) w.heap.size (fun k_ => some k_ ≠ (v226 : Value).ownBlock ∧ some k_ ≠ (.slice Ao29 t231.length co29 : Value).ownBlock) (.slice Ao35 t236.length co35) t236) := ⟨by (with_reducible repeat (first | apply rA | apply rN | apply rD)); exact Kd.R_mono (Kd.R_far (p := ⟨gb239, 0, none⟩) (Kd.R_types HO238.out BK239.out (by decide)) (fun _ hk => hk.2) (.slice Ao35 t236.length co35)) (fun _ hk => ⟨hk.1.1.2, hk.1.2⟩)⟩
  have n3_ : Aside0 ((w34.setCell ⟨gb239, 0, none⟩ (.slice Ao35 t236.length co35)).heap[gb222]? = some (.cells #[.slice A0_0 l0_0.length c0_0] 30 (0, 0))) := ⟨by (with_reducible repeat (first | refine kN ?_ _ | refine kD ?_ | refine kA ?_ _)); refine blk_far ?_ NB222_239.out _; (with_reducible repeat (first | refine kN ?_ _ | refine kD ?_ | refine kA ?_ _)); exact BK222.out⟩
  have n4_ : Aside0 ((w34.setCell ⟨gb239, 0, none⟩ (.slice Ao35 t236.length co35)).heap[gb223]? = some (.cells #[.int .i64 a1_0, .int .i64 a1_1, .int .i64 a1_2] 23 (0, 0))) := ⟨by (with_reducible repeat (first | refine kN ?_ _ | refine kD ?_ | refine kA ?_ _)); refine blk_far ?_ NB223_239.out _; (with_reducible repeat (first | refine kN ?_ _ | refine kD ?_ | refine kA ?_ _)); exact BK223.out⟩
  have n5_ : Aside0 ((w34.setCell ⟨gb239, 0, none⟩ (.slice Ao35 t236.length co35)).heap[gb235]? = some (.cells #[.slice Ao29 t231.length co29] 35 (0, 0))) := ⟨by (with_reducible repeat (first | refine kN ?_ _ | refine kD ?_ | refine kA ?_ _)); refine blk_far ?_ NB235_239.out _; (with_reducible repeat (first | refine kN ?_ _ | refine kD ?_ | refine kA ?_ _)); exact BK235.out⟩
  have n6_ : Aside0 ((w34.setCell ⟨gb239, 0, none⟩ (.slice Ao35 t236.length co35)).heap[gb239]? = some (.cells #[.slice Ao35 t236.length co35] 35 (0, 0))) := ⟨by (with_reducible repeat (first | refine kN ?_ _ | refine kD ?_ | refine kA ?_ _)); refine blk_put (cs := #[.slice none 0 0]) ?_ 0 _ rfl; (with_reducible repeat (first | refine kN ?_ _ | refine kD ?_ | refine kA ?_ _)); exact BK239.out⟩
  have n7_ : Aside0 (Below w.heap.size w (w34.setCell ⟨gb239, 0, none⟩ (.slice Ao35 t236.length co35))) := ⟨hm_⟩
  (try clear HO227)
  (try clear HO233)
  (try clear HO238)
  (try clear BK222)
  (try clear BK223)
  (try clear BK235)
  (try clear BK239)
  (try clear HB)
  generalize (w34.setCell ⟨gb239, 0, none⟩ (.slice Ao35 t236.length co35)) = w40 at n0_ n1_ n2_ n3_ n4_ n5_ n6_ n7_ ⊢
  have HO227 := n0_
  have HO233 := n1_
  have HO238 := n2_
  have BK222 := n3_
  have BK223 := n4_
  have BK235 := n5_
  have BK239 := n6_
  have HB := n7_
  clear n0_ n1_ n2_ n3_ n4_ n5_ n6_ n7_
  have n0_ := Aside0.mk (Kd.R_drew HO227.out)
  have n1_ := Aside0.mk (Kd.R_drew HO233.out)
  have n2_ := Aside0.mk (Kd.R_drew HO238.out)
  have n3_ := Aside0.mk (blk_drew BK222.out)
  have n4_ := Aside0.mk (blk_drew BK223.out)
  have n5_ := Aside0.mk (blk_drew BK235.out)
  have n6_ := Aside0.mk (blk_drew BK239.out)
  have n7_ := Aside0.mk (below_drew1 HB.out)
  clear HO227
  clear HO233
  clear HO238
  clear BK222
  clear BK223
  clear BK235
  clear BK239
  clear HB
  have HO227 := n0_
  have HO233 := n1_
  have HO238 := n2_
  have BK222 := n3_
  have BK223 := n4_
  have BK235 := n5_
  have BK239 := n6_
  have HB := n7_
  clear n0_ n1_ n2_ n3_ n4_ n5_ n6_ n7_
  refine start_ (n := 10) (S := fun w' => w'.cell? ⟨gb239, 0, none⟩ = some (.slice Ao35 t236.length co35) ∧ w'.cell? ⟨gb223, 0, none⟩ = some (.int .i64 a1_0) ∧ w'.cell? ⟨gb223, 1, none⟩ = some (.int .i64 a1_1) ∧ w'.cell? ⟨gb223, 2, none⟩ = some (.int .i64 a1_2)) (ds := []) #[false, false, false, false, false, false, false, false, false, false] (by kernel_rfl) rfl rfl ⟨bc_ BK239 0, bc_ BK223 0, bc_ BK223 1, bc_ BK223 2⟩ (fun hHeld => ?_); refine with_tabW laws_FnExactAddClue.tab7 laws_FnExactAddClue.bits7 (fun HT_ HW_ => ?_)
  generalize w40.drew = w41 at HO227 HO233 HO238 BK222 BK223 BK235 BK239 HB hHeld ⊢
  refine take_ (i := 0) (N := some 32) (v := ?_) (a' := ?_) #[true, false, false, false, false, false, false, false, false, false] rfl rfl (take_ofW HT_.out HW_.out (by kernel_rfl)) (fun _ _ _ h => h) (Or.inl ⟨by rfl, ?_⟩) hHeld ?_ ?_
  rotate_left
  ·rintro w' ⟨s0, s1, s2, s3⟩
   go_simp
   with_reducible rfl
  rotate_left
  ·simp only [Act.put, sT, sZ, sS, i64_w, i32_w]
   rfl
  refine take_ (i := 1) (N := some 33) (v := ?_) (a' := ?_) #[true, true, false, false, false, false, false, false, false, false] rfl rfl (take_ofW HT_.out HW_.out (by kernel_rfl)) (fun _ _ _ h => h) (Or.inl ⟨by rfl, ?_⟩) hHeld ?_ ?_
  rotate_left
  ·rintro w' ⟨s0, s1, s2, s3⟩
   go_simp
   with_reducible rfl
  rotate_left
  ·simp only [Act.put, sT, sZ, sS, i64_w, i32_w]
   rfl
  refine join_ (σ := Value × Nat) 2 #[true, true, true, true, true, true, true, true, false, false] (fun s_ => [(34, .agg #[.int .i64 t240, .int .i64 t241, .int .i64 t242]), (35, .tuple #[.agg #[s_.1], .bool t246]), (9, .pointer (some ⟨s_.2, 0, none⟩)), (31, .tuple #[.agg #[s_.1], .bool t246]), (36, .agg #[s_.1]), (37, .bool t246)]) (fun s_ w' => (w'.cell? ⟨gb239, 0, none⟩ = some (.slice Ao35 t236.length co35) ∧ w'.cell? ⟨gb223, 0, none⟩ = some (.int .i64 a1_0) ∧ w'.cell? ⟨gb223, 1, none⟩ = some (.int .i64 a1_1) ∧ w'.cell? ⟨gb223, 2, none⟩ = some (.int .i64 a1_2)) ∧ (Kd.R k25 25 w' w.heap.size (fun k_ => some k_ ≠ (.slice Ao29 t231.length co29 : Value).ownBlock ∧ some k_ ≠ (.slice Ao35 t236.length co35 : Value).ownBlock ∧ some k_ ≠ (s_.1 : Value).ownBlock) v226 t225) ∧ (Kd.R k25 25 w' w.heap.size (fun k_ => some k_ ≠ (v226 : Value).ownBlock ∧ some k_ ≠ (.slice Ao35 t236.length co35 : Value).ownBlock ∧ some k_ ≠ (s_.1 : Value).ownBlock) (.slice Ao29 t231.length co29) t231) ∧ (Kd.R k25 25 w' w.heap.size (fun k_ => some k_ ≠ (v226 : Value).ownBlock ∧ some k_ ≠ (.slice Ao29 t231.length co29 : Value).ownBlock ∧ some k_ ≠ (s_.1 : Value).ownBlock) (.slice Ao35 t236.length co35) t236) ∧ (Kd.R k25 25 w' w.heap.size (fun k_ => some k_ ≠ (v226 : Value).ownBlock ∧ some k_ ≠ (.slice Ao29 t231.length co29 : Value).ownBlock ∧ some k_ ≠ (.slice Ao35 t236.length co35 : Value).ownBlock) s_.1 t243) ∧ (w'.heap[gb222]? = some (.cells #[.slice A0_0 l0_0.length c0_0] 30 (0, 0))) ∧ (w'.heap[gb223]? = some (.cells #[.int .i64 a1_0, .int .i64 a1_1, .int .i64 a1_2] 23 (0, 0))) ∧ (w'.heap[gb235]? = some (.cells #[.slice Ao29 t231.length co29] 35 (0, 0))) ∧ (w'.heap[gb239]? = some (.cells #[.slice Ao35 t236.length co35] 35 (0, 0))) ∧ (w'.heap[s_.2]? = some (.cells #[.slice none 0 0] 35 (0, 0))) ∧ (w.heap.size ≤ s_.2) ∧ (w.heap.size ≤ s_.2) ∧ (gb222 ≠ s_.2) ∧ (s_.2 ≠ gb222) ∧ (gb223 ≠ s_.2) ∧ (s_.2 ≠ gb223) ∧ (gb235 ≠ s_.2) ∧ (s_.2 ≠ gb235) ∧ (gb239 ≠ s_.2) ∧ (s_.2 ≠ gb239) ∧ (Below w.heap.size w w')) ?_ ?_
  rotate_left
  ·intro hCont
   refine two_ (i := 2) (j := 7) (Ni := some 34) (Nj := some 9) #[true, true, true, false, false, false, false, false, false, false] #[true, true, false, false, false, false, false, true, false, false] rfl rfl rfl rfl (two_of HT_.out (by kernel_rfl)) (by decide) (by decide) (fun K hK => ?_) (fun K hK => ?_)
   ·skip
    refine goes_ Try.func10 (by kernel_rfl) rfl #[.agg #[.int .i64 a1_0, .int .i64 a1_1, .int .i64 a1_2]] (by rfl) rfl rfl ar_ ?_
    with_reducible refine (laws_toClue.calls a1_0 a1_1 a1_2 t240 t241 t242 _ A14.out).mono ?_
    rintro e w42 ⟨rfl, hb⟩
    refine ⟨_, rfl, ?_⟩
    have n0_ := Aside0.mk (Kd.R_below (ra_ HO227.out) hb)
    have n1_ := Aside0.mk (Kd.R_below (ra_ HO233.out) hb)
    have n2_ := Aside0.mk (Kd.R_below (ra_ HO238.out) hb)
    have n3_ := Aside0.mk (blk_below (g := gb222) (o := .cells #[.slice A0_0 l0_0.length c0_0] 30 (0, 0)) (kx_ BK222.out) hb)
    have n4_ := Aside0.mk (blk_below (g := gb223) (o := .cells #[.int .i64 a1_0, .int .i64 a1_1, .int .i64 a1_2] 23 (0, 0)) (kx_ BK223.out) hb)
    have n5_ := Aside0.mk (blk_below (g := gb235) (o := .cells #[.slice Ao29 t231.length co29] 35 (0, 0)) (kx_ BK235.out) hb)
    have n6_ := Aside0.mk (blk_below (g := gb239) (o := .cells #[.slice Ao35 t236.length co35] 35 (0, 0)) (kx_ BK239.out) hb)
    have n7_ := Aside0.mk (below_step (hm_) hb)
    clear HO227
    clear HO233
    clear HO238
    clear BK222
    clear BK223
    clear BK235
    clear BK239
    clear HB
    have HO227 := n0_
    have HO233 := n1_
    have HO238 := n2_
    have BK222 := n3_
    have BK223 := n4_
    have BK235 := n5_
    have BK239 := n6_
    have HB := n7_
    clear n0_ n1_ n2_ n3_ n4_ n5_ n6_ n7_
    (try clear hb)
    (try clear hb2)
    (try clear hk)
    (try clear hi)
    refine hK.out _ _ ⟨bc_ BK239 0, bc_ BK223 0, bc_ BK223 1, bc_ BK223 2⟩ (fun hHeld => ?_)
    clear hK K
    refine norm_ (a' := ?_) ?_ ?_
    rotate_left
    ·show Act.put _ (some 34) _ = _
     simp only [Act.put, sT, sZ, sS, i64_w, i32_w]
     rfl
    refine two_ (i := 3) (j := 7) (Ni := some 35) (Nj := some 9) #[true, true, true, true, false, false, false, false, false, false] #[true, true, true, false, false, false, false, true, false, false] rfl rfl rfl rfl (two_of HT_.out (by kernel_rfl)) (by decide) (by decide) (fun K hK => ?_) (fun K hK => ?_)
    ·skip
     refine goes_ Try.func18 (by kernel_rfl) rfl #[.agg #[.slice Ao35 t236.length co35], .agg #[.int .i64 t240, .int .i64 t241, .int .i64 t242]] (by rfl) rfl rfl ar_ ?_
     with_reducible refine (impl_AddClue.calls _ _ t236 t240 t241 t242 t243 t246 _ ?side1 ?side2 A15.out).mono ?_
     (case side1 => repeat (first | exact (Kd.R_reads' HO238.out).2.2 | (with_reducible refine Kd.C_alloc ?_ _) | (with_reducible refine Kd.C_drewN ?_ _) | (with_reducible refine Kd.C_drew ?_)))
     (case side2 => exact (Kd.R_reads' HO238.out).2.1)
     rintro e w43 ⟨v244, rfl, ho0, hb⟩
     refine ⟨_, rfl, ?_⟩
     have n0_ := Aside0.mk (Kd.R_elder' (ra_ HO227.out) (Kd.R_base ho0) hb)
     have n1_ := Aside0.mk (Kd.R_elder' (ra_ HO233.out) (Kd.R_base ho0) hb)
     have n2_ := Aside0.mk (Kd.R_elder' (ra_ HO238.out) (Kd.R_base ho0) hb)
     have n3_ := Aside0.mk (Kd.R_lower (Kd.R_new' (Kd.R_new' (Kd.R_new' ho0 (Kd.R_lt (ra_ HO227.out))) (Kd.R_lt (ra_ HO233.out))) (Kd.R_lt (ra_ HO238.out))) (below_size (hm_)))
     have n4_ := Aside0.mk (blk_below (g := gb222) (o := .cells #[.slice A0_0 l0_0.length c0_0] 30 (0, 0)) (kx_ BK222.out) hb)
     have n5_ := Aside0.mk (blk_below (g := gb223) (o := .cells #[.int .i64 a1_0, .int .i64 a1_1, .int .i64 a1_2] 23 (0, 0)) (kx_ BK223.out) hb)
     have n6_ := Aside0.mk (blk_below (g := gb235) (o := .cells #[.slice Ao29 t231.length co29] 35 (0, 0)) (kx_ BK235.out) hb)
     have n7_ := Aside0.mk (blk_below (g := gb239) (o := .cells #[.slice Ao35 t236.length co35] 35 (0, 0)) (kx_ BK239.out) hb)
     have n8_ := Aside0.mk (below_step (hm_) hb)
     clear HO227
     clear HO233
     clear HO238
     clear BK222
     clear BK223
     clear BK235
     clear BK239
     clear HB
     have HO227 := n0_
     have HO233 := n1_
     have HO238 := n2_
     have HO245 := n3_
     have BK222 := n4_
     have BK223 := n5_
     have BK235 := n6_
     have BK239 := n7_
     have HB := n8_
     clear n0_ n1_ n2_ n3_ n4_ n5_ n6_ n7_ n8_
     (try clear hb)
     (try clear hb2)
     (try clear hk)
     (try clear hi)
     (try clear ho0)
     refine hK.out _ _ ⟨bc_ BK239 0, bc_ BK223 0, bc_ BK223 1, bc_ BK223 2⟩ (fun hHeld => ?_)
     clear hK K
     refine norm_ (a' := ?_) ?_ ?_
     rotate_left
     ·show Act.put _ (some 35) _ = _
      simp only [Act.put, sT, sZ, sS, i64_w, i32_w]
      rfl
     refine pure_ (i := 4) (N := some 31) (v := ?_) (a' := ?_) #[true, true, true, true, true, false, false, false, false, false] rfl rfl (any_of HT_.out (by kernel_rfl)) (fun _ _ _ h => h) (Or.inl ⟨by rfl, ?_⟩) ?_ ?_
     rotate_left
     ·intro w'
      go_simp
      with_reducible rfl
     rotate_left
     ·simp only [Act.put, sT, sZ, sS, i64_w, i32_w]
      rfl
     refine pure_ (i := 5) (N := some 36) (v := ?_) (a' := ?_) #[true, true, true, true, true, true, false, false, false, false] rfl rfl (any_of HT_.out (by kernel_rfl)) (fun _ _ _ h => h) (Or.inl ⟨by rfl, ?_⟩) ?_ ?_
     rotate_left
     ·intro w'
      go_simp
      with_reducible rfl
     rotate_left
     ·simp only [Act.put, sT, sZ, sS, i64_w, i32_w]
      rfl
     refine pure_ (i := 6) (N := some 37) (v := ?_) (a' := ?_) #[true, true, true, true, true, true, true, false, false, false] rfl rfl (any_of HT_.out (by kernel_rfl)) (fun _ _ _ h => h) (Or.inl ⟨by rfl, ?_⟩) ?_ ?_
     rotate_left
     ·intro w'
      go_simp
      with_reducible rfl
     rotate_left
     ·simp only [Act.put, sT, sZ, sS, i64_w, i32_w]
      rfl
     refine one_ (i := 7) (N := some 9) #[true, true, true, true, true, true, true, true, false, false] rfl rfl (one_of HT_.out (by kernel_rfl)) (by decide) (fun K hK => ?_)
     refine box_step ?hg (N := 9) ?hd (cs := #[.slice none 0 0]) (t := 35) ?hr ?_; (case hd => rfl); (case hg => rfl); (case hr => first | (go_simp; done) | (go_simp; rfl))
     intro gb247 hg w44 hbox hb
     have n0_ := Aside0.mk (Kd.R_below (ra_ HO227.out) hb)
     have n1_ := Aside0.mk (Kd.R_below (ra_ HO233.out) hb)
     have n2_ := Aside0.mk (Kd.R_below (ra_ HO238.out) hb)
     have n3_ := Aside0.mk (Kd.R_below (ra_ HO245.out) hb)
     have n4_ := Aside0.mk (blk_below (g := gb222) (o := .cells #[.slice A0_0 l0_0.length c0_0] 30 (0, 0)) (kx_ BK222.out) hb)
     have n5_ := Aside0.mk (blk_below (g := gb223) (o := .cells #[.int .i64 a1_0, .int .i64 a1_1, .int .i64 a1_2] 23 (0, 0)) (kx_ BK223.out) hb)
     have n6_ := Aside0.mk (blk_below (g := gb235) (o := .cells #[.slice Ao29 t231.length co29] 35 (0, 0)) (kx_ BK235.out) hb)
     have n7_ := Aside0.mk (blk_below (g := gb239) (o := .cells #[.slice Ao35 t236.length co35] 35 (0, 0)) (kx_ BK239.out) hb)
     have n8_ := Aside0.mk (below_step (hm_) hb)
     have n9_ := Aside0.mk (hbox)
     have n10_ := Aside0.mk ((by rw [hg]; exact (below_size (hm_)) : w.heap.size ≤ gb247))
     have n11_ := Aside0.mk ((by rw [hg]; exact (below_size (hm_)) : w.heap.size ≤ gb247))
     have n12_ := Aside0.mk ((by rw [hg]; exact Nat.ne_of_lt (blk_lt (g := gb222) (o := .cells #[.slice A0_0 l0_0.length c0_0] 30 (0, 0)) (kx_ BK222.out)) : gb222 ≠ gb247))
     have n13_ := Aside0.mk ((by rw [hg]; exact Nat.ne_of_gt (blk_lt (g := gb222) (o := .cells #[.slice A0_0 l0_0.length c0_0] 30 (0, 0)) (kx_ BK222.out)) : gb247 ≠ gb222))
     have n14_ := Aside0.mk ((by rw [hg]; exact Nat.ne_of_lt (blk_lt (g := gb223) (o := .cells #[.int .i64 a1_0, .int .i64 a1_1, .int .i64 a1_2] 23 (0, 0)) (kx_ BK223.out)) : gb223 ≠ gb247))
     have n15_ := Aside0.mk ((by rw [hg]; exact Nat.ne_of_gt (blk_lt (g := gb223) (o := .cells #[.int .i64 a1_0, .int .i64 a1_1, .int .i64 a1_2] 23 (0, 0)) (kx_ BK223.out)) : gb247 ≠ gb223))
     have n16_ := Aside0.mk ((by rw [hg]; exact Nat.ne_of_lt (blk_lt (g := gb235) (o := .cells #[.slice Ao29 t231.length co29] 35 (0, 0)) (kx_ BK235.out)) : gb235 ≠ gb247))
     have n17_ := Aside0.mk ((by rw [hg]; exact Nat.ne_of_gt (blk_lt (g := gb235) (o := .cells #[.slice Ao29 t231.length co29] 35 (0, 0)) (kx_ BK235.out)) : gb247 ≠ gb235))
     have n18_ := Aside0.mk ((by rw [hg]; exact Nat.ne_of_lt (blk_lt (g := gb239) (o := .cells #[.slice Ao35 t236.length co35] 35 (0, 0)) (kx_ BK239.out)) : gb239 ≠ gb247))
     have n19_ := Aside0.mk ((by rw [hg]; exact Nat.ne_of_gt (blk_lt (g := gb239) (o := .cells #[.slice Ao35 t236.length co35] 35 (0, 0)) (kx_ BK239.out)) : gb247 ≠ gb239))
     clear HO227
     clear HO233
     clear HO238
     clear HO245
     clear BK222
     clear BK223
     clear BK235
     clear BK239
     clear HB
     have HO227 := n0_
     have HO233 := n1_
     have HO238 := n2_
     have HO245 := n3_
     have BK222 := n4_
     have BK223 := n5_
     have BK235 := n6_
     have BK239 := n7_
     have HB := n8_
     have BK247 := n9_
     have GW247 := n10_
     have GE247 := n11_
     have NB222_247 := n12_
     have NB247_222 := n13_
     have NB223_247 := n14_
     have NB247_223 := n15_
     have NB235_247 := n16_
     have NB247_235 := n17_
     have NB239_247 := n18_
     have NB247_239 := n19_
     clear n0_ n1_ n2_ n3_ n4_ n5_ n6_ n7_ n8_ n9_ n10_ n11_ n12_ n13_ n14_ n15_ n16_ n17_ n18_ n19_
     clear hb hbox hg
     refine hK.out _ _ ⟨bc_ BK239 0, bc_ BK223 0, bc_ BK223 1, bc_ BK223 2⟩ (fun hHeld => ?_)
     clear hK K
     refine norm_ (a' := ?_) ?_ ?_
     rotate_left
     ·show Act.put _ (some 9) _ = _
      simp only [Act.put, sT, sZ, sS, i64_w, i32_w]
      rfl
     exact norm_ (by simp only [putAll, Act.put, sT, sZ, sS]) (hCont (v244, gb247) _ ⟨hHeld, (by (with_reducible repeat (first | apply rA | apply rN | apply rD)); exact Kd.R_mono HO227.out (fun _ hk => ⟨hk.1.1, ⟨hk.1.2, hk.2⟩⟩)), (by (with_reducible repeat (first | apply rA | apply rN | apply rD)); exact Kd.R_mono HO233.out (fun _ hk => ⟨hk.1.1, ⟨hk.1.2, hk.2⟩⟩)), (by (with_reducible repeat (first | apply rA | apply rN | apply rD)); exact Kd.R_mono HO238.out (fun _ hk => ⟨hk.1.1, ⟨hk.1.2, hk.2⟩⟩)), (by (with_reducible repeat (first | apply rA | apply rN | apply rD)); exact Kd.R_mono HO245.out (fun _ hk => ⟨hk.1.1.2, ⟨hk.1.2, hk.2⟩⟩)), (kx_ BK222.out), (kx_ BK223.out), (kx_ BK235.out), (kx_ BK239.out), (kx_ BK247.out), GW247.out, GE247.out, NB222_247.out, NB247_222.out, NB223_247.out, NB247_223.out, NB235_247.out, NB247_235.out, NB239_247.out, NB247_239.out, (hm_)⟩)
    ·skip
     refine box_step ?hg (N := 9) ?hd (cs := #[.slice none 0 0]) (t := 35) ?hr ?_; (case hd => rfl); (case hg => rfl); (case hr => first | (go_simp; done) | (go_simp; rfl))
     intro gb247 hg w43 hbox hb
     have n0_ := Aside0.mk (Kd.R_below (ra_ HO227.out) hb)
     have n1_ := Aside0.mk (Kd.R_below (ra_ HO233.out) hb)
     have n2_ := Aside0.mk (Kd.R_below (ra_ HO238.out) hb)
     have n3_ := Aside0.mk (blk_below (g := gb222) (o := .cells #[.slice A0_0 l0_0.length c0_0] 30 (0, 0)) (kx_ BK222.out) hb)
     have n4_ := Aside0.mk (blk_below (g := gb223) (o := .cells #[.int .i64 a1_0, .int .i64 a1_1, .int .i64 a1_2] 23 (0, 0)) (kx_ BK223.out) hb)
     have n5_ := Aside0.mk (blk_below (g := gb235) (o := .cells #[.slice Ao29 t231.length co29] 35 (0, 0)) (kx_ BK235.out) hb)
     have n6_ := Aside0.mk (blk_below (g := gb239) (o := .cells #[.slice Ao35 t236.length co35] 35 (0, 0)) (kx_ BK239.out) hb)
     have n7_ := Aside0.mk (below_step (hm_) hb)
     have n8_ := Aside0.mk (hbox)
     have n9_ := Aside0.mk ((by rw [hg]; exact (below_size (hm_)) : w.heap.size ≤ gb247))
     have n10_ := Aside0.mk ((by rw [hg]; exact (below_size (hm_)) : w.heap.size ≤ gb247))
     have n11_ := Aside0.mk ((by rw [hg]; exact Nat.ne_of_lt (blk_lt (g := gb222) (o := .cells #[.slice A0_0 l0_0.length c0_0] 30 (0, 0)) (kx_ BK222.out)) : gb222 ≠ gb247))
     have n12_ := Aside0.mk ((by rw [hg]; exact Nat.ne_of_gt (blk_lt (g := gb222) (o := .cells #[.slice A0_0 l0_0.length c0_0] 30 (0, 0)) (kx_ BK222.out)) : gb247 ≠ gb222))
     have n13_ := Aside0.mk ((by rw [hg]; exact Nat.ne_of_lt (blk_lt (g := gb223) (o := .cells #[.int .i64 a1_0, .int .i64 a1_1, .int .i64 a1_2] 23 (0, 0)) (kx_ BK223.out)) : gb223 ≠ gb247))
     have n14_ := Aside0.mk ((by rw [hg]; exact Nat.ne_of_gt (blk_lt (g := gb223) (o := .cells #[.int .i64 a1_0, .int .i64 a1_1, .int .i64 a1_2] 23 (0, 0)) (kx_ BK223.out)) : gb247 ≠ gb223))
     have n15_ := Aside0.mk ((by rw [hg]; exact Nat.ne_of_lt (blk_lt (g := gb235) (o := .cells #[.slice Ao29 t231.length co29] 35 (0, 0)) (kx_ BK235.out)) : gb235 ≠ gb247))
     have n16_ := Aside0.mk ((by rw [hg]; exact Nat.ne_of_gt (blk_lt (g := gb235) (o := .cells #[.slice Ao29 t231.length co29] 35 (0, 0)) (kx_ BK235.out)) : gb247 ≠ gb235))
     have n17_ := Aside0.mk ((by rw [hg]; exact Nat.ne_of_lt (blk_lt (g := gb239) (o := .cells #[.slice Ao35 t236.length co35] 35 (0, 0)) (kx_ BK239.out)) : gb239 ≠ gb247))
     have n18_ := Aside0.mk ((by rw [hg]; exact Nat.ne_of_gt (blk_lt (g := gb239) (o := .cells #[.slice Ao35 t236.length co35] 35 (0, 0)) (kx_ BK239.out)) : gb247 ≠ gb239))
     clear HO227
     clear HO233
     clear HO238
     clear BK222
     clear BK223
     clear BK235
     clear BK239
     clear HB
     have HO227 := n0_
     have HO233 := n1_
     have HO238 := n2_
     have BK222 := n3_
     have BK223 := n4_
     have BK235 := n5_
     have BK239 := n6_
     have HB := n7_
     have BK247 := n8_
     have GW247 := n9_
     have GE247 := n10_
     have NB222_247 := n11_
     have NB247_222 := n12_
     have NB223_247 := n13_
     have NB247_223 := n14_
     have NB235_247 := n15_
     have NB247_235 := n16_
     have NB239_247 := n17_
     have NB247_239 := n18_
     clear n0_ n1_ n2_ n3_ n4_ n5_ n6_ n7_ n8_ n9_ n10_ n11_ n12_ n13_ n14_ n15_ n16_ n17_ n18_
     clear hb hbox hg
     refine hK.out _ _ ⟨bc_ BK239 0, bc_ BK223 0, bc_ BK223 1, bc_ BK223 2⟩ (fun hHeld => ?_)
     clear hK K
     refine norm_ (a' := ?_) ?_ ?_
     rotate_left
     ·show Act.put _ (some 9) _ = _
      simp only [Act.put, sT, sZ, sS, i64_w, i32_w]
      rfl
     refine one_ (i := 3) (N := some 35) #[true, true, true, true, false, false, false, true, false, false] rfl rfl (one_of HT_.out (by kernel_rfl)) (by decide) (fun K hK => ?_)
     refine goes_ Try.func18 (by kernel_rfl) rfl #[.agg #[.slice Ao35 t236.length co35], .agg #[.int .i64 t240, .int .i64 t241, .int .i64 t242]] (by rfl) rfl rfl ar_ ?_
     with_reducible refine (impl_AddClue.calls _ _ t236 t240 t241 t242 t243 t246 _ ?side1 ?side2 A15.out).mono ?_
     (case side1 => repeat (first | exact (Kd.R_reads' HO238.out).2.2 | (with_reducible refine Kd.C_alloc ?_ _) | (with_reducible refine Kd.C_drewN ?_ _) | (with_reducible refine Kd.C_drew ?_)))
     (case side2 => exact (Kd.R_reads' HO238.out).2.1)
     rintro e w44 ⟨v244, rfl, ho0, hb⟩
     refine ⟨_, rfl, ?_⟩
     have n0_ := Aside0.mk (Kd.R_elder' (ra_ HO227.out) (Kd.R_base ho0) hb)
     have n1_ := Aside0.mk (Kd.R_elder' (ra_ HO233.out) (Kd.R_base ho0) hb)
     have n2_ := Aside0.mk (Kd.R_elder' (ra_ HO238.out) (Kd.R_base ho0) hb)
     have n3_ := Aside0.mk (Kd.R_lower (Kd.R_new' (Kd.R_new' (Kd.R_new' ho0 (Kd.R_lt (ra_ HO227.out))) (Kd.R_lt (ra_ HO233.out))) (Kd.R_lt (ra_ HO238.out))) (below_size (hm_)))
     have n4_ := Aside0.mk (blk_below (g := gb222) (o := .cells #[.slice A0_0 l0_0.length c0_0] 30 (0, 0)) (kx_ BK222.out) hb)
     have n5_ := Aside0.mk (blk_below (g := gb223) (o := .cells #[.int .i64 a1_0, .int .i64 a1_1, .int .i64 a1_2] 23 (0, 0)) (kx_ BK223.out) hb)
     have n6_ := Aside0.mk (blk_below (g := gb235) (o := .cells #[.slice Ao29 t231.length co29] 35 (0, 0)) (kx_ BK235.out) hb)
     have n7_ := Aside0.mk (blk_below (g := gb239) (o := .cells #[.slice Ao35 t236.length co35] 35 (0, 0)) (kx_ BK239.out) hb)
     have n8_ := Aside0.mk (blk_below (g := gb247) (o := .cells #[.slice none 0 0] 35 (0, 0)) (kx_ BK247.out) hb)
     have n9_ := Aside0.mk (below_step (hm_) hb)
     clear HO227
     clear HO233
     clear HO238
     clear BK222
     clear BK223
     clear BK235
     clear BK239
     clear BK247
     clear HB
     have HO227 := n0_
     have HO233 := n1_
     have HO238 := n2_
     have HO245 := n3_
     have BK222 := n4_
     have BK223 := n5_
     have BK235 := n6_
     have BK239 := n7_
     have BK247 := n8_
     have HB := n9_
     clear n0_ n1_ n2_ n3_ n4_ n5_ n6_ n7_ n8_ n9_
     (try clear hb)
     (try clear hb2)
     (try clear hk)
     (try clear hi)
     (try clear ho0)
     refine hK.out _ _ ⟨bc_ BK239 0, bc_ BK223 0, bc_ BK223 1, bc_ BK223 2⟩ (fun hHeld => ?_)
     clear hK K
     refine norm_ (a' := ?_) ?_ ?_
     rotate_left
     ·show Act.put _ (some 35) _ = _
      simp only [Act.put, sT, sZ, sS, i64_w, i32_w]
      rfl
     refine pure_ (i := 4) (N := some 31) (v := ?_) (a' := ?_) #[true, true, true, true, true, false, false, true, false, false] rfl rfl (any_of HT_.out (by kernel_rfl)) (fun _ _ _ h => h) (Or.inl ⟨by rfl, ?_⟩) ?_ ?_
     rotate_left
     ·intro w'
      go_simp
      with_reducible rfl
     rotate_left
     ·simp only [Act.put, sT, sZ, sS, i64_w, i32_w]
      rfl
     refine pure_ (i := 5) (N := some 36) (v := ?_) (a' := ?_) #[true, true, true, true, true, true, false, true, false, false] rfl rfl (any_of HT_.out (by kernel_rfl)) (fun _ _ _ h => h) (Or.inl ⟨by rfl, ?_⟩) ?_ ?_
     rotate_left
     ·intro w'
      go_simp
      with_reducible rfl
     rotate_left
     ·simp only [Act.put, sT, sZ, sS, i64_w, i32_w]
      rfl
     refine pure_ (i := 6) (N := some 37) (v := ?_) (a' := ?_) #[true, true, true, true, true, true, true, true, false, false] rfl rfl (any_of HT_.out (by kernel_rfl)) (fun _ _ _ h => h) (Or.inl ⟨by rfl, ?_⟩) ?_ ?_
     rotate_left
     ·intro w'
      go_simp
      with_reducible rfl
     rotate_left
     ·simp only [Act.put, sT, sZ, sS, i64_w, i32_w]
      rfl
     exact norm_ (by simp only [putAll, Act.put, sT, sZ, sS]) (hCont (v244, gb247) _ ⟨hHeld, (by (with_reducible repeat (first | apply rA | apply rN | apply rD)); exact Kd.R_mono HO227.out (fun _ hk => ⟨hk.1.1, ⟨hk.1.2, hk.2⟩⟩)), (by (with_reducible repeat (first | apply rA | apply rN | apply rD)); exact Kd.R_mono HO233.out (fun _ hk => ⟨hk.1.1, ⟨hk.1.2, hk.2⟩⟩)), (by (with_reducible repeat (first | apply rA | apply rN | apply rD)); exact Kd.R_mono HO238.out (fun _ hk => ⟨hk.1.1, ⟨hk.1.2, hk.2⟩⟩)), (by (with_reducible repeat (first | apply rA | apply rN | apply rD)); exact Kd.R_mono HO245.out (fun _ hk => ⟨hk.1.1.2, ⟨hk.1.2, hk.2⟩⟩)), (kx_ BK222.out), (kx_ BK223.out), (kx_ BK235.out), (kx_ BK239.out), (kx_ BK247.out), GW247.out, GE247.out, NB222_247.out, NB247_222.out, NB223_247.out, NB247_223.out, NB235_247.out, NB247_235.out, NB239_247.out, NB247_239.out, (hm_)⟩)
   ·skip
    refine box_step ?hg (N := 9) ?hd (cs := #[.slice none 0 0]) (t := 35) ?hr ?_; (case hd => rfl); (case hg => rfl); (case hr => first | (go_simp; done) | (go_simp; rfl))
    intro gb247 hg w42 hbox hb
    have n0_ := Aside0.mk (Kd.R_below (ra_ HO227.out) hb)
    have n1_ := Aside0.mk (Kd.R_below (ra_ HO233.out) hb)
    have n2_ := Aside0.mk (Kd.R_below (ra_ HO238.out) hb)
    have n3_ := Aside0.mk (blk_below (g := gb222) (o := .cells #[.slice A0_0 l0_0.length c0_0] 30 (0, 0)) (kx_ BK222.out) hb)
    have n4_ := Aside0.mk (blk_below (g := gb223) (o := .cells #[.int .i64 a1_0, .int .i64 a1_1, .int .i64 a1_2] 23 (0, 0)) (kx_ BK223.out) hb)
    have n5_ := Aside0.mk (blk_below (g := gb235) (o := .cells #[.slice Ao29 t231.length co29] 35 (0, 0)) (kx_ BK235.out) hb)
    have n6_ := Aside0.mk (blk_below (g := gb239) (o := .cells #[.slice Ao35 t236.length co35] 35 (0, 0)) (kx_ BK239.out) hb)
    have n7_ := Aside0.mk (below_step (hm_) hb)
    have n8_ := Aside0.mk (hbox)
    have n9_ := Aside0.mk ((by rw [hg]; exact (below_size (hm_)) : w.heap.size ≤ gb247))
    have n10_ := Aside0.mk ((by rw [hg]; exact (below_size (hm_)) : w.heap.size ≤ gb247))
    have n11_ := Aside0.mk ((by rw [hg]; exact Nat.ne_of_lt (blk_lt (g := gb222) (o := .cells #[.slice A0_0 l0_0.length c0_0] 30 (0, 0)) (kx_ BK222.out)) : gb222 ≠ gb247))
    have n12_ := Aside0.mk ((by rw [hg]; exact Nat.ne_of_gt (blk_lt (g := gb222) (o := .cells #[.slice A0_0 l0_0.length c0_0] 30 (0, 0)) (kx_ BK222.out)) : gb247 ≠ gb222))
    have n13_ := Aside0.mk ((by rw [hg]; exact Nat.ne_of_lt (blk_lt (g := gb223) (o := .cells #[.int .i64 a1_0, .int .i64 a1_1, .int .i64 a1_2] 23 (0, 0)) (kx_ BK223.out)) : gb223 ≠ gb247))
    have n14_ := Aside0.mk ((by rw [hg]; exact Nat.ne_of_gt (blk_lt (g := gb223) (o := .cells #[.int .i64 a1_0, .int .i64 a1_1, .int .i64 a1_2] 23 (0, 0)) (kx_ BK223.out)) : gb247 ≠ gb223))
    have n15_ := Aside0.mk ((by rw [hg]; exact Nat.ne_of_lt (blk_lt (g := gb235) (o := .cells #[.slice Ao29 t231.length co29] 35 (0, 0)) (kx_ BK235.out)) : gb235 ≠ gb247))
    have n16_ := Aside0.mk ((by rw [hg]; exact Nat.ne_of_gt (blk_lt (g := gb235) (o := .cells #[.slice Ao29 t231.length co29] 35 (0, 0)) (kx_ BK235.out)) : gb247 ≠ gb235))
    have n17_ := Aside0.mk ((by rw [hg]; exact Nat.ne_of_lt (blk_lt (g := gb239) (o := .cells #[.slice Ao35 t236.length co35] 35 (0, 0)) (kx_ BK239.out)) : gb239 ≠ gb247))
    have n18_ := Aside0.mk ((by rw [hg]; exact Nat.ne_of_gt (blk_lt (g := gb239) (o := .cells #[.slice Ao35 t236.length co35] 35 (0, 0)) (kx_ BK239.out)) : gb247 ≠ gb239))
    clear HO227
    clear HO233
    clear HO238
    clear BK222
    clear BK223
    clear BK235
    clear BK239
    clear HB
    have HO227 := n0_
    have HO233 := n1_
    have HO238 := n2_
    have BK222 := n3_
    have BK223 := n4_
    have BK235 := n5_
    have BK239 := n6_
    have HB := n7_
    have BK247 := n8_
    have GW247 := n9_
    have GE247 := n10_
    have NB222_247 := n11_
    have NB247_222 := n12_
    have NB223_247 := n13_
    have NB247_223 := n14_
    have NB235_247 := n15_
    have NB247_235 := n16_
    have NB239_247 := n17_
    have NB247_239 := n18_
    clear n0_ n1_ n2_ n3_ n4_ n5_ n6_ n7_ n8_ n9_ n10_ n11_ n12_ n13_ n14_ n15_ n16_ n17_ n18_
    clear hb hbox hg
    refine hK.out _ _ ⟨bc_ BK239 0, bc_ BK223 0, bc_ BK223 1, bc_ BK223 2⟩ (fun hHeld => ?_)
    clear hK K
    refine norm_ (a' := ?_) ?_ ?_
    rotate_left
    ·show Act.put _ (some 9) _ = _
     simp only [Act.put, sT, sZ, sS, i64_w, i32_w]
     rfl
    refine one_ (i := 2) (N := some 34) #[true, true, true, false, false, false, false, true, false, false] rfl rfl (one_of HT_.out (by kernel_rfl)) (by decide) (fun K hK => ?_)
    refine goes_ Try.func10 (by kernel_rfl) rfl #[.agg #[.int .i64 a1_0, .int .i64 a1_1, .int .i64 a1_2]] (by rfl) rfl rfl ar_ ?_
    with_reducible refine (laws_toClue.calls a1_0 a1_1 a1_2 t240 t241 t242 _ A14.out).mono ?_
    rintro e w43 ⟨rfl, hb⟩
    refine ⟨_, rfl, ?_⟩
    have n0_ := Aside0.mk (Kd.R_below (ra_ HO227.out) hb)
    have n1_ := Aside0.mk (Kd.R_below (ra_ HO233.out) hb)
    have n2_ := Aside0.mk (Kd.R_below (ra_ HO238.out) hb)
    have n3_ := Aside0.mk (blk_below (g := gb222) (o := .cells #[.slice A0_0 l0_0.length c0_0] 30 (0, 0)) (kx_ BK222.out) hb)
    have n4_ := Aside0.mk (blk_below (g := gb223) (o := .cells #[.int .i64 a1_0, .int .i64 a1_1, .int .i64 a1_2] 23 (0, 0)) (kx_ BK223.out) hb)
    have n5_ := Aside0.mk (blk_below (g := gb235) (o := .cells #[.slice Ao29 t231.length co29] 35 (0, 0)) (kx_ BK235.out) hb)
    have n6_ := Aside0.mk (blk_below (g := gb239) (o := .cells #[.slice Ao35 t236.length co35] 35 (0, 0)) (kx_ BK239.out) hb)
    have n7_ := Aside0.mk (blk_below (g := gb247) (o := .cells #[.slice none 0 0] 35 (0, 0)) (kx_ BK247.out) hb)
    have n8_ := Aside0.mk (below_step (hm_) hb)
    clear HO227
    clear HO233
    clear HO238
    clear BK222
    clear BK223
    clear BK235
    clear BK239
    clear BK247
    clear HB
    have HO227 := n0_
    have HO233 := n1_
    have HO238 := n2_
    have BK222 := n3_
    have BK223 := n4_
    have BK235 := n5_
    have BK239 := n6_
    have BK247 := n7_
    have HB := n8_
    clear n0_ n1_ n2_ n3_ n4_ n5_ n6_ n7_ n8_
    (try clear hb)
    (try clear hb2)
    (try clear hk)
    (try clear hi)
    refine hK.out _ _ ⟨bc_ BK239 0, bc_ BK223 0, bc_ BK223 1, bc_ BK223 2⟩ (fun hHeld => ?_)
    clear hK K
    refine norm_ (a' := ?_) ?_ ?_
    rotate_left
    ·show Act.put _ (some 34) _ = _
     simp only [Act.put, sT, sZ, sS, i64_w, i32_w]
     rfl
    refine one_ (i := 3) (N := some 35) #[true, true, true, true, false, false, false, true, false, false] rfl rfl (one_of HT_.out (by kernel_rfl)) (by decide) (fun K hK => ?_)
    refine goes_ Try.func18 (by kernel_rfl) rfl #[.agg #[.slice Ao35 t236.length co35], .agg #[.int .i64 t240, .int .i64 t241, .int .i64 t242]] (by rfl) rfl rfl ar_ ?_
    with_reducible refine (impl_AddClue.calls _ _ t236 t240 t241 t242 t243 t246 _ ?side1 ?side2 A15.out).mono ?_
    (case side1 => repeat (first | exact (Kd.R_reads' HO238.out).2.2 | (with_reducible refine Kd.C_alloc ?_ _) | (with_reducible refine Kd.C_drewN ?_ _) | (with_reducible refine Kd.C_drew ?_)))
    (case side2 => exact (Kd.R_reads' HO238.out).2.1)
    rintro e w44 ⟨v244, rfl, ho0, hb⟩
    refine ⟨_, rfl, ?_⟩
    have n0_ := Aside0.mk (Kd.R_elder' (ra_ HO227.out) (Kd.R_base ho0) hb)
    have n1_ := Aside0.mk (Kd.R_elder' (ra_ HO233.out) (Kd.R_base ho0) hb)
    have n2_ := Aside0.mk (Kd.R_elder' (ra_ HO238.out) (Kd.R_base ho0) hb)
    have n3_ := Aside0.mk (Kd.R_lower (Kd.R_new' (Kd.R_new' (Kd.R_new' ho0 (Kd.R_lt (ra_ HO227.out))) (Kd.R_lt (ra_ HO233.out))) (Kd.R_lt (ra_ HO238.out))) (below_size (hm_)))
    have n4_ := Aside0.mk (blk_below (g := gb222) (o := .cells #[.slice A0_0 l0_0.length c0_0] 30 (0, 0)) (kx_ BK222.out) hb)
    have n5_ := Aside0.mk (blk_below (g := gb223) (o := .cells #[.int .i64 a1_0, .int .i64 a1_1, .int .i64 a1_2] 23 (0, 0)) (kx_ BK223.out) hb)
    have n6_ := Aside0.mk (blk_below (g := gb235) (o := .cells #[.slice Ao29 t231.length co29] 35 (0, 0)) (kx_ BK235.out) hb)
    have n7_ := Aside0.mk (blk_below (g := gb239) (o := .cells #[.slice Ao35 t236.length co35] 35 (0, 0)) (kx_ BK239.out) hb)
    have n8_ := Aside0.mk (blk_below (g := gb247) (o := .cells #[.slice none 0 0] 35 (0, 0)) (kx_ BK247.out) hb)
    have n9_ := Aside0.mk (below_step (hm_) hb)
    clear HO227
    clear HO233
    clear HO238
    clear BK222
    clear BK223
    clear BK235
    clear BK239
    clear BK247
    clear HB
    have HO227 := n0_
    have HO233 := n1_
    have HO238 := n2_
    have HO245 := n3_
    have BK222 := n4_
    have BK223 := n5_
    have BK235 := n6_
    have BK239 := n7_
    have BK247 := n8_
    have HB := n9_
    clear n0_ n1_ n2_ n3_ n4_ n5_ n6_ n7_ n8_ n9_
    (try clear hb)
    (try clear hb2)
    (try clear hk)
    (try clear hi)
    (try clear ho0)
    refine hK.out _ _ ⟨bc_ BK239 0, bc_ BK223 0, bc_ BK223 1, bc_ BK223 2⟩ (fun hHeld => ?_)
    clear hK K
    refine norm_ (a' := ?_) ?_ ?_
    rotate_left
    ·show Act.put _ (some 35) _ = _
     simp only [Act.put, sT, sZ, sS, i64_w, i32_w]
     rfl
    refine pure_ (i := 4) (N := some 31) (v := ?_) (a' := ?_) #[true, true, true, true, true, false, false, true, false, false] rfl rfl (any_of HT_.out (by kernel_rfl)) (fun _ _ _ h => h) (Or.inl ⟨by rfl, ?_⟩) ?_ ?_
    rotate_left
    ·intro w'
     go_simp
     with_reducible rfl
    rotate_left
    ·simp only [Act.put, sT, sZ, sS, i64_w, i32_w]
     rfl
    refine pure_ (i := 5) (N := some 36) (v := ?_) (a' := ?_) #[true, true, true, true, true, true, false, true, false, false] rfl rfl (any_of HT_.out (by kernel_rfl)) (fun _ _ _ h => h) (Or.inl ⟨by rfl, ?_⟩) ?_ ?_
    rotate_left
    ·intro w'
     go_simp
     with_reducible rfl
    rotate_left
    ·simp only [Act.put, sT, sZ, sS, i64_w, i32_w]
     rfl
    refine pure_ (i := 6) (N := some 37) (v := ?_) (a' := ?_) #[true, true, true, true, true, true, true, true, false, false] rfl rfl (any_of HT_.out (by kernel_rfl)) (fun _ _ _ h => h) (Or.inl ⟨by rfl, ?_⟩) ?_ ?_
    rotate_left
    ·intro w'
     go_simp
     with_reducible rfl
    rotate_left
    ·simp only [Act.put, sT, sZ, sS, i64_w, i32_w]
     rfl
    exact norm_ (by simp only [putAll, Act.put, sT, sZ, sS]) (hCont (v244, gb247) _ ⟨hHeld, (by (with_reducible repeat (first | apply rA | apply rN | apply rD)); exact Kd.R_mono HO227.out (fun _ hk => ⟨hk.1.1, ⟨hk.1.2, hk.2⟩⟩)), (by (with_reducible repeat (first | apply rA | apply rN | apply rD)); exact Kd.R_mono HO233.out (fun _ hk => ⟨hk.1.1, ⟨hk.1.2, hk.2⟩⟩)), (by (with_reducible repeat (first | apply rA | apply rN | apply rD)); exact Kd.R_mono HO238.out (fun _ hk => ⟨hk.1.1, ⟨hk.1.2, hk.2⟩⟩)), (by (with_reducible repeat (first | apply rA | apply rN | apply rD)); exact Kd.R_mono HO245.out (fun _ hk => ⟨hk.1.1.2, ⟨hk.1.2, hk.2⟩⟩)), (kx_ BK222.out), (kx_ BK223.out), (kx_ BK235.out), (kx_ BK239.out), (kx_ BK247.out), GW247.out, GE247.out, NB222_247.out, NB247_222.out, NB223_247.out, NB247_223.out, NB235_247.out, NB247_235.out, NB239_247.out, NB247_239.out, (hm_)⟩)
  rintro ⟨v244, gb247⟩ w45 ⟨hS_, h0_, h1_, h2_, h3_, h4_, h5_, h6_, h7_, h8_, h9_, h10_, h11_, h12_, h13_, h14_, h15_, h16_, h17_, h18_, h19_⟩
  have n0_ : Aside0 (Kd.R k25 25 w45 w.heap.size (fun k_ => some k_ ≠ (.slice Ao29 t231.length co29 : Value).ownBlock ∧ some k_ ≠ (.slice Ao35 t236.length co35 : Value).ownBlock ∧ some k_ ≠ (v244 : Value).ownBlock) v226 t225) := ⟨h0_⟩
  have n1_ : Aside0 (Kd.R k25 25 w45 w.heap.size (fun k_ => some k_ ≠ (v226 : Value).ownBlock ∧ some k_ ≠ (.slice Ao35 t236.length co35 : Value).ownBlock ∧ some k_ ≠ (v244 : Value).ownBlock) (.slice Ao29 t231.length co29) t231) := ⟨h1_⟩
  have n2_ : Aside0 (Kd.R k25 25 w45 w.heap.size (fun k_ => some k_ ≠ (v226 : Value).ownBlock ∧ some k_ ≠ (.slice Ao29 t231.length co29 : Value).ownBlock ∧ some k_ ≠ (v244 : Value).ownBlock) (.slice Ao35 t236.length co35) t236) := ⟨h2_⟩
  have n3_ : Aside0 (Kd.R k25 25 w45 w.heap.size (fun k_ => some k_ ≠ (v226 : Value).ownBlock ∧ some k_ ≠ (.slice Ao29 t231.length co29 : Value).ownBlock ∧ some k_ ≠ (.slice Ao35 t236.length co35 : Value).ownBlock) v244 t243) := ⟨h3_⟩
  have n4_ : Aside0 (w45.heap[gb222]? = some (.cells #[.slice A0_0 l0_0.length c0_0] 30 (0, 0))) := ⟨h4_⟩
  have n5_ : Aside0 (w45.heap[gb223]? = some (.cells #[.int .i64 a1_0, .int .i64 a1_1, .int .i64 a1_2] 23 (0, 0))) := ⟨h5_⟩
  have n6_ : Aside0 (w45.heap[gb235]? = some (.cells #[.slice Ao29 t231.length co29] 35 (0, 0))) := ⟨h6_⟩
  have n7_ : Aside0 (w45.heap[gb239]? = some (.cells #[.slice Ao35 t236.length co35] 35 (0, 0))) := ⟨h7_⟩
  have n8_ : Aside0 (w45.heap[gb247]? = some (.cells #[.slice none 0 0] 35 (0, 0))) := ⟨h8_⟩
  have n9_ : Aside0 (w.heap.size ≤ gb247) := ⟨h9_⟩
  have n10_ : Aside0 (w.heap.size ≤ gb247) := ⟨h10_⟩
  have n11_ : Aside0 (gb222 ≠ gb247) := ⟨h11_⟩
  have n12_ : Aside0 (gb247 ≠ gb222) := ⟨h12_⟩
  have n13_ : Aside0 (gb223 ≠ gb247) := ⟨h13_⟩
  have n14_ : Aside0 (gb247 ≠ gb223) := ⟨h14_⟩
  have n15_ : Aside0 (gb235 ≠ gb247) := ⟨h15_⟩
  have n16_ : Aside0 (gb247 ≠ gb235) := ⟨h16_⟩
  have n17_ : Aside0 (gb239 ≠ gb247) := ⟨h17_⟩
  have n18_ : Aside0 (gb247 ≠ gb239) := ⟨h18_⟩
  have n19_ : Aside0 (Below w.heap.size w w45) := ⟨h19_⟩
  clear HO227
  clear HO233
  clear HO238
  clear BK222
  clear BK223
  clear BK235
  clear BK239
  clear HB
  clear h0_ h1_ h2_ h3_ h4_ h5_ h6_ h7_ h8_ h9_ h10_ h11_ h12_ h13_ h14_ h15_ h16_ h17_ h18_ h19_
  have HO227 := n0_
  have HO233 := n1_
  have HO238 := n2_
  have HO245 := n3_
  have BK222 := n4_
  have BK223 := n5_
  have BK235 := n6_
  have BK239 := n7_
  have BK247 := n8_
  have GW247 := n9_
  have GE247 := n10_
  have NB222_247 := n11_
  have NB247_222 := n12_
  have NB223_247 := n13_
  have NB247_223 := n14_
  have NB235_247 := n15_
  have NB247_235 := n16_
  have NB239_247 := n17_
  have NB247_239 := n18_
  have HB := n19_
  clear n0_ n1_ n2_ n3_ n4_ n5_ n6_ n7_ n8_ n9_ n10_ n11_ n12_ n13_ n14_ n15_ n16_ n17_ n18_ n19_
  have hHeld : w45.cell? ⟨gb239, 0, none⟩ = some (.slice Ao35 t236.length co35) ∧ w45.cell? ⟨gb223, 0, none⟩ = some (.int .i64 a1_0) ∧ w45.cell? ⟨gb223, 1, none⟩ = some (.int .i64 a1_1) ∧ w45.cell? ⟨gb223, 2, none⟩ = some (.int .i64 a1_2) := hS_
  obtain ⟨Ao46, co46, eo46⟩ := Kd.R_slice HO245.out
  (first | subst eo46 | (injection eo46 with f1_ f2_ f3_; have f4_ := f1_.symm; have f5_ := f3_.symm; clear f1_ f2_ f3_; subst f4_; subst f5_))
  refine norm_ (a' := ?_) ?_ ?_
  rotate_left
  ·simp only [putAll, Act.put, sT, sZ, sS]
   rfl
  refine one_ (i := 8) (N := none) #[true, true, true, true, true, true, true, true, true, false] rfl rfl (one_of HT_.out (by kernel_rfl)) (by decide) (fun K hK => ?_)
  have hs47 : w45.cell? ⟨gb247, 0, none⟩ = some (.slice none 0 0) := bc_ BK247 0
  have hfs47 := blk_frozen BK247.out 0
  have hns47_0 := NB222_247.out
  have hns47_1 := NB223_247.out
  have hns47_2 := NB235_247.out
  have hns47_3 := NB239_247.out
  have hms47_0 := NB247_222.out
  have hms47_1 := NB247_223.out
  have hms47_2 := NB247_235.out
  have hms47_3 := NB247_239.out
  refine skip_ (w1 := ?_) (by rfl) rfl ?_ ?_
  rotate_left
  ·go_simp
   rfl
  refine hK.out _ _ ⟨((cell_far (p := ⟨gb247, _, none⟩) NB239_247.out _).trans (hHeld.1)), ((cell_far (p := ⟨gb247, _, none⟩) NB223_247.out _).trans (hHeld.2.1)), ((cell_far (p := ⟨gb247, _, none⟩) NB223_247.out _).trans (hHeld.2.2.1)), ((cell_far (p := ⟨gb247, _, none⟩) NB223_247.out _).trans (hHeld.2.2.2))⟩ (fun hHeld => ?_)
  clear hK K
  refine pure_ (i := 9) (N := some 10) (v := ?_) (a' := ?_) #[true, true, true, true, true, true, true, true, true, true] rfl rfl (any_of HT_.out (by kernel_rfl)) (fun _ _ _ h => h) (Or.inl ⟨by rfl, ?_⟩) ?_ ?_
  rotate_left
  ·intro w'
   go_simp
   with_reducible rfl
  rotate_left
  ·simp only [Act.put, sT, sZ, sS, i64_w, i32_w]
   rfl
  refine done_ (done_of HT_.out (by kernel_rfl)) ?_
  go_upto_region 8 with (fail)
  go_cut [46] (fun v46 wc => ∃ (kq : Nat) (x46_15 : Bool), v46 = .bool x46_15 ∧ Aside0 (laws_FnExactAddClue.j0 kq t234 t246 x46_15 l0_0 a1_0 a1_1 a1_2 t231 t236 t243 = some r) ∧ Aside0 (kq ≤ k) ∧ Aside0 (Kd.R k25 25 wc w.heap.size (fun k_ => some k_ ≠ ((.slice Ao35 t236.length co35) : Value).ownBlock ∧ some k_ ≠ ((.slice Ao46 t243.length co46) : Value).ownBlock) (.slice Ao29 t231.length co29) t231) ∧ Aside0 (Kd.R k25 25 wc w.heap.size (fun k_ => some k_ ≠ ((.slice Ao29 t231.length co29) : Value).ownBlock ∧ some k_ ≠ ((.slice Ao46 t243.length co46) : Value).ownBlock) (.slice Ao35 t236.length co35) t236) ∧ Aside0 (Kd.R k25 25 wc w.heap.size (fun k_ => some k_ ≠ ((.slice Ao29 t231.length co29) : Value).ownBlock ∧ some k_ ≠ ((.slice Ao35 t236.length co35) : Value).ownBlock) (.slice Ao46 t243.length co46) t243) ∧ Aside0 (wc.heap[gb222]? = some (.cells #[(.slice A0_0 l0_0.length c0_0)] 30 (0, 0))) ∧ Aside0 (wc.heap[gb223]? = some (.cells #[.int .i64 a1_0, .int .i64 a1_1, .int .i64 a1_2] 23 (0, 0))) ∧ Aside0 (wc.heap[gb235]? = some (.cells #[(.slice Ao29 t231.length co29)] 35 (0, 0))) ∧ Aside0 (wc.heap[gb239]? = some (.cells #[(.slice Ao35 t236.length co35)] 35 (0, 0))) ∧ Aside0 (wc.heap[gb247]? = some (.cells #[(.slice Ao46 t243.length co46)] 35 (0, 0))) ∧ Aside0 (Below w.heap.size w wc))
  case first =>
   have H := HC16.out
   clear HC16
   replace H := bI H
   obtain ⟨t248, A480, H⟩ := H
   replace H : (if t248 = true then (laws_FnExactAddClue.j0 k t234 t246 (t246 != t234) l0_0 a1_0 a1_1 a1_2 t231 t236 t243) else (laws_FnExactAddClue.j0 k t234 t246 true l0_0 a1_0 a1_1 a1_2 t231 t236 t243)) = some r := H
   have A48 := Aside0.mk A480
   clear A480
   by_cases c49 : t248 = true
   ·subst c49
    have H1 : (laws_FnExactAddClue.j0 k t234 t246 (t246 != t234) l0_0 a1_0 a1_1 a1_2 t231 t236 t243) = some r := by rw [if_pos rfl] at H; exact H
    clear H
    have H := H1
    clear H1
    have H' := Aside0.mk H
    clear H
    have hnb50 := NB247_222.out
    have hnc50 := NB222_247.out
    have hnb51 := NB247_223.out
    have hnc51 := NB223_247.out
    have hnb52 := NB247_235.out
    have hnc52 := NB235_247.out
    have hnb53 := NB247_239.out
    have hnc53 := NB239_247.out
    have hcz54_0 : w45.cell? ⟨gb247, 0, none⟩ = some (.slice none 0 0) := bc_ BK247 0
    have hfz54_0 := blk_frozen BK247.out 0
    have hnb55 := NB235_222.out
    have hnc55 := NB222_235.out
    have hnb56 := NB235_223.out
    have hnc56 := NB223_235.out
    have hnb57 := NB235_239.out
    have hnc57 := NB239_235.out
    have hcz58_0 : w45.cell? ⟨gb235, 0, none⟩ = some (.slice Ao29 t231.length co29) := bc_ BK235 0
    have hfz58_0 := blk_frozen BK235.out 0
    go_wp2_with (first | ((with_reducible refine gate_callee (f := 16) rfl ?_); refine goesL_ (some 40) rfl rfl Try.func16 (by kernel_rfl) rfl #[.agg #[.slice Ao46 t243.length co46], .agg #[.slice Ao29 t231.length co29]] rfl ar_ ?_; (with_reducible refine (laws_eqPuzzle.calls k _ _ t243 _ _ t231 true _ ?side1 ?side2 ?side3 ?side4 A48.out).mono ?_); (case side1 => refine (Kd.R_reads' (e := 25) (base := w.heap.size) (ok := fun k_ => (some k_ ≠ (v226 : Value).ownBlock ∧ (some k_ ≠ (.slice Ao29 t231.length co29 : Value).ownBlock ∧ some k_ ≠ (.slice Ao35 t236.length co35 : Value).ownBlock))) (n := t243.length) (c := co46) ?_).2.2; exact (by (with_reducible repeat (first | apply rA | apply rN | apply rD)); exact (Kd.R_mono (Kd.R_far (p := ⟨gb247, 0, none⟩) (Kd.R_types HO245.out BK247.out (by decide)) (fun _ hk => hk.2) (.slice Ao46 t243.length co46)) (fun _ h_ => h_.1)))); (case side2 => exact (Kd.R_reads' HO245.out).2.1); (case side3 => refine (Kd.R_reads' (e := 25) (base := w.heap.size) (ok := fun k_ => (some k_ ≠ (v226 : Value).ownBlock ∧ (some k_ ≠ (.slice Ao35 t236.length co35 : Value).ownBlock ∧ some k_ ≠ (.slice Ao46 t243.length co46 : Value).ownBlock))) (n := t231.length) (c := co29) ?_).2.2; exact (by (with_reducible repeat (first | apply rA | apply rN | apply rD)); exact (Kd.R_mono (Kd.R_far (p := ⟨gb247, 0, none⟩) (Kd.R_types HO233.out BK247.out (by decide)) (fun _ hk => hk.2) (.slice Ao46 t243.length co46)) (fun _ h_ => h_.1)))); (case side4 => exact (Kd.R_reads' HO233.out).2.1); rintro e w59 ⟨rfl, hb⟩; refine ⟨_, rfl, ?_⟩; have n0_ := Aside0.mk (Kd.R_below (by (with_reducible repeat (first | apply rA | apply rN | apply rD)); exact (Kd.R_mono (Kd.R_far (p := ⟨gb247, 0, none⟩) (Kd.R_types HO227.out BK247.out (by decide)) (fun _ hk => hk.2) (.slice Ao46 t243.length co46)) (fun _ h_ => h_.1))) hb); have n1_ := Aside0.mk (Kd.R_below (by (with_reducible repeat (first | apply rA | apply rN | apply rD)); exact (Kd.R_mono (Kd.R_far (p := ⟨gb247, 0, none⟩) (Kd.R_types HO233.out BK247.out (by decide)) (fun _ hk => hk.2) (.slice Ao46 t243.length co46)) (fun _ h_ => h_.1))) hb); have n2_ := Aside0.mk (Kd.R_below (by (with_reducible repeat (first | apply rA | apply rN | apply rD)); exact (Kd.R_mono (Kd.R_far (p := ⟨gb247, 0, none⟩) (Kd.R_types HO238.out BK247.out (by decide)) (fun _ hk => hk.2) (.slice Ao46 t243.length co46)) (fun _ h_ => h_.1))) hb); have n3_ := Aside0.mk (Kd.R_below (by (with_reducible repeat (first | apply rA | apply rN | apply rD)); exact (Kd.R_mono (Kd.R_far (p := ⟨gb247, 0, none⟩) (Kd.R_types HO245.out BK247.out (by decide)) (fun _ hk => hk.2) (.slice Ao46 t243.length co46)) (fun _ h_ => h_.1))) hb); have n4_ := Aside0.mk (blk_below (g := gb222) (o := .cells #[.slice A0_0 l0_0.length c0_0] 30 (0, 0)) (by (with_reducible repeat (first | refine kN ?_ _ | refine kD ?_ | refine kA ?_ _)); refine blk_far ?_ NB222_247.out _; (with_reducible repeat (first | refine kN ?_ _ | refine kD ?_ | refine kA ?_ _)); exact BK222.out) hb); have n5_ := Aside0.mk (blk_below (g := gb223) (o := .cells #[.int .i64 a1_0, .int .i64 a1_1, .int .i64 a1_2] 23 (0, 0)) (by (with_reducible repeat (first | refine kN ?_ _ | refine kD ?_ | refine kA ?_ _)); refine blk_far ?_ NB223_247.out _; (with_reducible repeat (first | refine kN ?_ _ | refine kD ?_ | refine kA ?_ _)); exact BK223.out) hb); have n6_ := Aside0.mk (blk_below (g := gb235) (o := .cells #[.slice Ao29 t231.length co29] 35 (0, 0)) (by (with_reducible repeat (first | refine kN ?_ _ | refine kD ?_ | refine kA ?_ _)); refine blk_far ?_ NB235_247.out _; (with_reducible repeat (first | refine kN ?_ _ | refine kD ?_ | refine kA ?_ _)); exact BK235.out) hb); have n7_ := Aside0.mk (blk_below (g := gb239) (o := .cells #[.slice Ao35 t236.length co35] 35 (0, 0)) (by (with_reducible repeat (first | refine kN ?_ _ | refine kD ?_ | refine kA ?_ _)); refine blk_far ?_ NB239_247.out _; (with_reducible repeat (first | refine kN ?_ _ | refine kD ?_ | refine kA ?_ _)); exact BK239.out) hb); have n8_ := Aside0.mk (blk_below (g := gb247) (o := .cells #[.slice Ao46 t243.length co46] 35 (0, 0)) (by (with_reducible repeat (first | refine kN ?_ _ | refine kD ?_ | refine kA ?_ _)); refine blk_put (cs := #[.slice none 0 0]) ?_ 0 _ rfl; (with_reducible repeat (first | refine kN ?_ _ | refine kD ?_ | refine kA ?_ _)); exact BK247.out) hb); have n9_ := Aside0.mk (below_step (hm_) hb); clear HO227; clear HO233; clear HO238; clear HO245; clear BK222; clear BK223; clear BK235; clear BK239; clear BK247; clear HB; have HO227 := n0_; have HO233 := n1_; have HO238 := n2_; have HO245 := n3_; have BK222 := n4_; have BK223 := n5_; have BK235 := n6_; have BK239 := n7_; have BK247 := n8_; have HB := n9_; clear n0_ n1_ n2_ n3_ n4_ n5_ n6_ n7_ n8_ n9_; (try clear hb); (try clear hb2); (try clear hk); (try clear hi)))
    go_meet
    case rel => exact ⟨_, ((t246 != t234)), (by first | rfl | (simp; done) | (simp [*]; done)), H', ⟨by first | omega | exact Nat.le_refl _⟩, ⟨by (with_reducible repeat (first | apply rA | apply rN | apply rD)); exact Kd.R_mono HO233.out (fun _ hk => ⟨hk.2.1, hk.2.2⟩)⟩, ⟨by (with_reducible repeat (first | apply rA | apply rN | apply rD)); exact Kd.R_mono HO238.out (fun _ hk => ⟨hk.2.1, hk.2.2⟩)⟩, ⟨by (with_reducible repeat (first | apply rA | apply rN | apply rD)); exact Kd.R_mono HO245.out (fun _ hk => ⟨hk.2.1, hk.2.2⟩)⟩, ⟨by (with_reducible repeat (first | refine kN ?_ _ | refine kD ?_ | refine kA ?_ _)); exact BK222.out⟩, ⟨by (with_reducible repeat (first | refine kN ?_ _ | refine kD ?_ | refine kA ?_ _)); exact BK223.out⟩, ⟨by (with_reducible repeat (first | refine kN ?_ _ | refine kD ?_ | refine kA ?_ _)); exact BK235.out⟩, ⟨by (with_reducible repeat (first | refine kN ?_ _ | refine kD ?_ | refine kA ?_ _)); exact BK239.out⟩, ⟨by (with_reducible repeat (first | refine kN ?_ _ | refine kD ?_ | refine kA ?_ _)); exact BK247.out⟩, ⟨hm_⟩⟩
   ·replace c49 := Bool.eq_false_iff.mpr c49
    subst c49
    have H1 : (laws_FnExactAddClue.j0 k t234 t246 true l0_0 a1_0 a1_1 a1_2 t231 t236 t243) = some r := by rw [if_neg (show ¬ (false = true) by decide)] at H; exact H
    clear H
    have H := H1
    clear H1
    have H' := Aside0.mk H
    clear H
    have hnb60 := NB247_222.out
    have hnc60 := NB222_247.out
    have hnb61 := NB247_223.out
    have hnc61 := NB223_247.out
    have hnb62 := NB247_235.out
    have hnc62 := NB235_247.out
    have hnb63 := NB247_239.out
    have hnc63 := NB239_247.out
    have hcz64_0 : w45.cell? ⟨gb247, 0, none⟩ = some (.slice none 0 0) := bc_ BK247 0
    have hfz64_0 := blk_frozen BK247.out 0
    have hnb65 := NB235_222.out
    have hnc65 := NB222_235.out
    have hnb66 := NB235_223.out
    have hnc66 := NB223_235.out
    have hnb67 := NB235_239.out
    have hnc67 := NB239_235.out
    have hcz68_0 : w45.cell? ⟨gb235, 0, none⟩ = some (.slice Ao29 t231.length co29) := bc_ BK235 0
    have hfz68_0 := blk_frozen BK235.out 0
    go_wp2_with (first | ((with_reducible refine gate_callee (f := 16) rfl ?_); refine goesL_ (some 40) rfl rfl Try.func16 (by kernel_rfl) rfl #[.agg #[.slice Ao46 t243.length co46], .agg #[.slice Ao29 t231.length co29]] rfl ar_ ?_; (with_reducible refine (laws_eqPuzzle.calls k _ _ t243 _ _ t231 false _ ?side1 ?side2 ?side3 ?side4 A48.out).mono ?_); (case side1 => refine (Kd.R_reads' (e := 25) (base := w.heap.size) (ok := fun k_ => (some k_ ≠ (v226 : Value).ownBlock ∧ (some k_ ≠ (.slice Ao29 t231.length co29 : Value).ownBlock ∧ some k_ ≠ (.slice Ao35 t236.length co35 : Value).ownBlock))) (n := t243.length) (c := co46) ?_).2.2; exact (by (with_reducible repeat (first | apply rA | apply rN | apply rD)); exact (Kd.R_mono (Kd.R_far (p := ⟨gb247, 0, none⟩) (Kd.R_types HO245.out BK247.out (by decide)) (fun _ hk => hk.2) (.slice Ao46 t243.length co46)) (fun _ h_ => h_.1)))); (case side2 => exact (Kd.R_reads' HO245.out).2.1); (case side3 => refine (Kd.R_reads' (e := 25) (base := w.heap.size) (ok := fun k_ => (some k_ ≠ (v226 : Value).ownBlock ∧ (some k_ ≠ (.slice Ao35 t236.length co35 : Value).ownBlock ∧ some k_ ≠ (.slice Ao46 t243.length co46 : Value).ownBlock))) (n := t231.length) (c := co29) ?_).2.2; exact (by (with_reducible repeat (first | apply rA | apply rN | apply rD)); exact (Kd.R_mono (Kd.R_far (p := ⟨gb247, 0, none⟩) (Kd.R_types HO233.out BK247.out (by decide)) (fun _ hk => hk.2) (.slice Ao46 t243.length co46)) (fun _ h_ => h_.1)))); (case side4 => exact (Kd.R_reads' HO233.out).2.1); rintro e w69 ⟨rfl, hb⟩; refine ⟨_, rfl, ?_⟩; have n0_ := Aside0.mk (Kd.R_below (by (with_reducible repeat (first | apply rA | apply rN | apply rD)); exact (Kd.R_mono (Kd.R_far (p := ⟨gb247, 0, none⟩) (Kd.R_types HO227.out BK247.out (by decide)) (fun _ hk => hk.2) (.slice Ao46 t243.length co46)) (fun _ h_ => h_.1))) hb); have n1_ := Aside0.mk (Kd.R_below (by (with_reducible repeat (first | apply rA | apply rN | apply rD)); exact (Kd.R_mono (Kd.R_far (p := ⟨gb247, 0, none⟩) (Kd.R_types HO233.out BK247.out (by decide)) (fun _ hk => hk.2) (.slice Ao46 t243.length co46)) (fun _ h_ => h_.1))) hb); have n2_ := Aside0.mk (Kd.R_below (by (with_reducible repeat (first | apply rA | apply rN | apply rD)); exact (Kd.R_mono (Kd.R_far (p := ⟨gb247, 0, none⟩) (Kd.R_types HO238.out BK247.out (by decide)) (fun _ hk => hk.2) (.slice Ao46 t243.length co46)) (fun _ h_ => h_.1))) hb); have n3_ := Aside0.mk (Kd.R_below (by (with_reducible repeat (first | apply rA | apply rN | apply rD)); exact (Kd.R_mono (Kd.R_far (p := ⟨gb247, 0, none⟩) (Kd.R_types HO245.out BK247.out (by decide)) (fun _ hk => hk.2) (.slice Ao46 t243.length co46)) (fun _ h_ => h_.1))) hb); have n4_ := Aside0.mk (blk_below (g := gb222) (o := .cells #[.slice A0_0 l0_0.length c0_0] 30 (0, 0)) (by (with_reducible repeat (first | refine kN ?_ _ | refine kD ?_ | refine kA ?_ _)); refine blk_far ?_ NB222_247.out _; (with_reducible repeat (first | refine kN ?_ _ | refine kD ?_ | refine kA ?_ _)); exact BK222.out) hb); have n5_ := Aside0.mk (blk_below (g := gb223) (o := .cells #[.int .i64 a1_0, .int .i64 a1_1, .int .i64 a1_2] 23 (0, 0)) (by (with_reducible repeat (first | refine kN ?_ _ | refine kD ?_ | refine kA ?_ _)); refine blk_far ?_ NB223_247.out _; (with_reducible repeat (first | refine kN ?_ _ | refine kD ?_ | refine kA ?_ _)); exact BK223.out) hb); have n6_ := Aside0.mk (blk_below (g := gb235) (o := .cells #[.slice Ao29 t231.length co29] 35 (0, 0)) (by (with_reducible repeat (first | refine kN ?_ _ | refine kD ?_ | refine kA ?_ _)); refine blk_far ?_ NB235_247.out _; (with_reducible repeat (first | refine kN ?_ _ | refine kD ?_ | refine kA ?_ _)); exact BK235.out) hb); have n7_ := Aside0.mk (blk_below (g := gb239) (o := .cells #[.slice Ao35 t236.length co35] 35 (0, 0)) (by (with_reducible repeat (first | refine kN ?_ _ | refine kD ?_ | refine kA ?_ _)); refine blk_far ?_ NB239_247.out _; (with_reducible repeat (first | refine kN ?_ _ | refine kD ?_ | refine kA ?_ _)); exact BK239.out) hb); have n8_ := Aside0.mk (blk_below (g := gb247) (o := .cells #[.slice Ao46 t243.length co46] 35 (0, 0)) (by (with_reducible repeat (first | refine kN ?_ _ | refine kD ?_ | refine kA ?_ _)); refine blk_put (cs := #[.slice none 0 0]) ?_ 0 _ rfl; (with_reducible repeat (first | refine kN ?_ _ | refine kD ?_ | refine kA ?_ _)); exact BK247.out) hb); have n9_ := Aside0.mk (below_step (hm_) hb); clear HO227; clear HO233; clear HO238; clear HO245; clear BK222; clear BK223; clear BK235; clear BK239; clear BK247; clear HB; have HO227 := n0_; have HO233 := n1_; have HO238 := n2_; have HO245 := n3_; have BK222 := n4_; have BK223 := n5_; have BK235 := n6_; have BK239 := n7_; have BK247 := n8_; have HB := n9_; clear n0_ n1_ n2_ n3_ n4_ n5_ n6_ n7_ n8_ n9_; (try clear hb); (try clear hb2); (try clear hk); (try clear hi)))
    go_meet
    case rel => exact ⟨_, (true), (by first | rfl | (simp; done) | (simp [*]; done)), H', ⟨by first | omega | exact Nat.le_refl _⟩, ⟨by (with_reducible repeat (first | apply rA | apply rN | apply rD)); exact Kd.R_mono HO233.out (fun _ hk => ⟨hk.2.1, hk.2.2⟩)⟩, ⟨by (with_reducible repeat (first | apply rA | apply rN | apply rD)); exact Kd.R_mono HO238.out (fun _ hk => ⟨hk.2.1, hk.2.2⟩)⟩, ⟨by (with_reducible repeat (first | apply rA | apply rN | apply rD)); exact Kd.R_mono HO245.out (fun _ hk => ⟨hk.2.1, hk.2.2⟩)⟩, ⟨by (with_reducible repeat (first | refine kN ?_ _ | refine kD ?_ | refine kA ?_ _)); exact BK222.out⟩, ⟨by (with_reducible repeat (first | refine kN ?_ _ | refine kD ?_ | refine kA ?_ _)); exact BK223.out⟩, ⟨by (with_reducible repeat (first | refine kN ?_ _ | refine kD ?_ | refine kA ?_ _)); exact BK235.out⟩, ⟨by (with_reducible repeat (first | refine kN ?_ _ | refine kD ?_ | refine kA ?_ _)); exact BK239.out⟩, ⟨by (with_reducible repeat (first | refine kN ?_ _ | refine kD ?_ | refine kA ?_ _)); exact BK247.out⟩, ⟨hm_⟩⟩
  case rest =>
   clear HC16
   try clear c1
   try clear p2
   try clear c4
   try clear c5
   try clear c6
   try clear c10
   try clear c16
   try clear c18
   try clear c49
   try clear c50
   try clear c51
   try clear c52
   try clear c53
   try clear c55
   try clear c56
   try clear c57
   try clear c60
   try clear c61
   try clear c62
   try clear c63
   try clear c65
   try clear c66
   try clear c67
   try clear hcz54_0
   try clear hcz58_0
   try clear hcz64_0
   try clear hcz68_0
   try clear hfz54_0
   try clear hfz58_0
   try clear hfz64_0
   try clear hfz68_0
   obtain ⟨kq, x46_15, rfl, HA, HJ15, HO_236000, HO_240000, HO_248000, BK222, BK223, BK235, BK239, BK247, HB⟩ := hcut
   cases kq with
   | zero => exact absurd HA.out (by simp [laws_FnExactAddClue.j0])
   | succ kj15 =>
    have H := HA.out
    clear HA
    simp only [laws_FnExactAddClue.j0] at H
    by_cases c70 : x46_15 = true
    ·subst c70
     have H1 : (some false) = some r := by rw [if_pos rfl] at H; exact H
     clear H
     have H := H1
     clear H1
     obtain rfl := oI H
     go_wp2
     go_ret
     exact ⟨by first | rfl | (simp [errW_none, errW_some] <;> rfl) | (simp [*, errW_none, errW_some] <;> rfl), hm_⟩
    ·replace c70 := Bool.eq_false_iff.mpr c70
     subst c70
     have H1 : ((laws_toPuzzle.f kj15 l0_0).bind fun t249 => ((laws_eqPuzzle.f kj15 t236 t249).bind fun t252 => (if t252 = true then ((laws_markPuzzle.f kj15 t236 1).bind fun bt253 => (if bt253.1 < 0 then (laws_FnExactAddClue.j1 kj15 t234 true l0_0 a1_0 a1_1 a1_2 t231 t243) else ((laws_eqPuzzle.f kj15 t243 t231).bind fun t255 => (if t255 = true then (laws_FnExactAddClue.j1 kj15 t234 (t246 != t234) l0_0 a1_0 a1_1 a1_2 t231 t243) else (laws_FnExactAddClue.j1 kj15 t234 true l0_0 a1_0 a1_1 a1_2 t231 t243))))) else (some false)))) = some r := by rw [if_neg (show ¬ (false = true) by decide)] at H; exact H
     clear H
     have H := H1
     clear H1
     replace H := bI H
     obtain ⟨t249, A710, H⟩ := H
     replace H : ((laws_eqPuzzle.f kj15 t236 t249).bind fun t252 => (if t252 = true then ((laws_markPuzzle.f kj15 t236 1).bind fun bt253 => (if bt253.1 < 0 then (laws_FnExactAddClue.j1 kj15 t234 true l0_0 a1_0 a1_1 a1_2 t231 t243) else ((laws_eqPuzzle.f kj15 t243 t231).bind fun t255 => (if t255 = true then (laws_FnExactAddClue.j1 kj15 t234 (t246 != t234) l0_0 a1_0 a1_1 a1_2 t231 t243) else (laws_FnExactAddClue.j1 kj15 t234 true l0_0 a1_0 a1_1 a1_2 t231 t243))))) else (some false))) = some r := H
     have A71 := Aside0.mk A710
     clear A710
     replace H := bI H
     obtain ⟨t252, A720, H⟩ := H
     replace H : (if t252 = true then ((laws_markPuzzle.f kj15 t236 1).bind fun bt253 => (if bt253.1 < 0 then (laws_FnExactAddClue.j1 kj15 t234 true l0_0 a1_0 a1_1 a1_2 t231 t243) else ((laws_eqPuzzle.f kj15 t243 t231).bind fun t255 => (if t255 = true then (laws_FnExactAddClue.j1 kj15 t234 (t246 != t234) l0_0 a1_0 a1_1 a1_2 t231 t243) else (laws_FnExactAddClue.j1 kj15 t234 true l0_0 a1_0 a1_1 a1_2 t231 t243))))) else (some false)) = some r := H
     have A72 := Aside0.mk A720
     clear A720
     by_cases c73 : t252 = true
     ·subst c73
      have H1 : ((laws_markPuzzle.f kj15 t236 1).bind fun bt253 => (if bt253.1 < 0 then (laws_FnExactAddClue.j1 kj15 t234 true l0_0 a1_0 a1_1 a1_2 t231 t243) else ((laws_eqPuzzle.f kj15 t243 t231).bind fun t255 => (if t255 = true then (laws_FnExactAddClue.j1 kj15 t234 (t246 != t234) l0_0 a1_0 a1_1 a1_2 t231 t243) else (laws_FnExactAddClue.j1 kj15 t234 true l0_0 a1_0 a1_1 a1_2 t231 t243))))) = some r := by rw [if_pos rfl] at H; exact H
      clear H
      have H := H1
      clear H1
      replace H := bI H
      obtain ⟨⟨t253, t254⟩, A740, H⟩ := H
      replace H : (if t253 < 0 then (laws_FnExactAddClue.j1 kj15 t234 true l0_0 a1_0 a1_1 a1_2 t231 t243) else ((laws_eqPuzzle.f kj15 t243 t231).bind fun t255 => (if t255 = true then (laws_FnExactAddClue.j1 kj15 t234 (t246 != t234) l0_0 a1_0 a1_1 a1_2 t231 t243) else (laws_FnExactAddClue.j1 kj15 t234 true l0_0 a1_0 a1_1 a1_2 t231 t243)))) = some r := H
      have A74 := Aside0.mk A740
      clear A740
      have HC75 := Aside0.mk H
      clear H
      try go_wp2
      have n0_ := Aside0.mk (Kd.R_drew HO_236000.out)
      have n1_ := Aside0.mk (Kd.R_drew HO_240000.out)
      have n2_ := Aside0.mk (Kd.R_drew HO_248000.out)
      have n3_ := Aside0.mk (blk_drew BK222.out)
      have n4_ := Aside0.mk (blk_drew BK223.out)
      have n5_ := Aside0.mk (blk_drew BK235.out)
      have n6_ := Aside0.mk (blk_drew BK239.out)
      have n7_ := Aside0.mk (blk_drew BK247.out)
      have n8_ := Aside0.mk (below_drew1 HB.out)
      clear HO_236000
      clear HO_240000
      clear HO_248000
      clear BK222
      clear BK223
      clear BK235
      clear BK239
      clear BK247
      clear HB
      have HO_236000 := n0_
      have HO_240000 := n1_
      have HO_248000 := n2_
      have BK222 := n3_
      have BK223 := n4_
      have BK235 := n5_
      have BK239 := n6_
      have BK247 := n7_
      have HB := n8_
      clear n0_ n1_ n2_ n3_ n4_ n5_ n6_ n7_ n8_
      refine start_ (n := 5) (S := fun w' => w'.cell? ⟨gb239, 0, none⟩ = some (.slice Ao35 t236.length co35) ∧ w'.cell? ⟨gb222, 0, none⟩ = some (.slice A0_0 l0_0.length c0_0)) (ds := []) #[false, false, false, false, false] (by kernel_rfl) rfl rfl ⟨bc_ BK239 0, bc_ BK222 0⟩ (fun hHeld => ?_)
      generalize wc.drew = w76 at HO_236000 HO_240000 HO_248000 BK222 BK223 BK235 BK239 BK247 HB hHeld ⊢
      refine take_ (i := 0) (N := some 47) (v := ?_) (a' := ?_) #[true, false, false, false, false] rfl rfl (by kernel_rfl) (fun _ _ _ h => h) (Or.inl ⟨by rfl, ?_⟩) hHeld ?_ ?_
      rotate_left
      ·rintro w' ⟨s0, s1⟩
       go_simp
       with_reducible rfl
      rotate_left
      ·simp only [Act.put, sT, sZ, sS, i64_w, i32_w]
       rfl
      refine take_ (i := 1) (N := some 48) (v := ?_) (a' := ?_) #[true, true, false, false, false] rfl rfl (by kernel_rfl) (fun _ _ _ h => h) (Or.inl ⟨by rfl, ?_⟩) hHeld ?_ ?_
      rotate_left
      ·rintro w' ⟨s0, s1⟩
       go_simp
       with_reducible rfl
      rotate_left
      ·simp only [Act.put, sT, sZ, sS, i64_w, i32_w]
       rfl
      refine one_ (i := 2) (N := some 49) #[true, true, true, false, false] rfl rfl (by kernel_rfl) (by decide) (fun K hK => ?_)
      refine goes_ Try.func14 (by kernel_rfl) rfl #[.agg #[.slice A0_0 l0_0.length c0_0]] (by rfl) rfl rfl ar_ ?_
      with_reducible refine (laws_toPuzzle.calls kj15 _ _ l0_0 t249 _ ?side1 ?side2 A71.out).mono ?_
      (case side1 => repeat (first | exact (Kd.C_below HR0_0.out HB.out) | (with_reducible refine Kd.C_alloc ?_ _) | (with_reducible refine Kd.C_drewN ?_ _) | (with_reducible refine Kd.C_drew ?_)))
      (case side2 => exact HC0_0.out)
      rintro e w77 ⟨v250, rfl, ho0, hb⟩
      refine ⟨_, rfl, ?_⟩
      have n0_ := Aside0.mk (Kd.R_elder' (ra_ HO_236000.out) (Kd.R_base ho0) hb)
      have n1_ := Aside0.mk (Kd.R_elder' (ra_ HO_240000.out) (Kd.R_base ho0) hb)
      have n2_ := Aside0.mk (Kd.R_elder' (ra_ HO_248000.out) (Kd.R_base ho0) hb)
      have n3_ := Aside0.mk (Kd.R_lower (Kd.R_new' (Kd.R_new' (Kd.R_new' ho0 (Kd.R_lt (ra_ HO_236000.out))) (Kd.R_lt (ra_ HO_240000.out))) (Kd.R_lt (ra_ HO_248000.out))) (below_size (hm_)))
      have n4_ := Aside0.mk (blk_below (g := gb222) (o := .cells #[.slice A0_0 l0_0.length c0_0] 30 (0, 0)) (kx_ BK222.out) hb)
      have n5_ := Aside0.mk (blk_below (g := gb223) (o := .cells #[.int .i64 a1_0, .int .i64 a1_1, .int .i64 a1_2] 23 (0, 0)) (kx_ BK223.out) hb)
      have n6_ := Aside0.mk (blk_below (g := gb235) (o := .cells #[.slice Ao29 t231.length co29] 35 (0, 0)) (kx_ BK235.out) hb)
      have n7_ := Aside0.mk (blk_below (g := gb239) (o := .cells #[.slice Ao35 t236.length co35] 35 (0, 0)) (kx_ BK239.out) hb)
      have n8_ := Aside0.mk (blk_below (g := gb247) (o := .cells #[.slice Ao46 t243.length co46] 35 (0, 0)) (kx_ BK247.out) hb)
      have n9_ := Aside0.mk (below_step (hm_) hb)
      clear HO_236000
      clear HO_240000
      clear HO_248000
      clear BK222
      clear BK223
      clear BK235
      clear BK239
      clear BK247
      clear HB
      have HO_236000 := n0_
      have HO_240000 := n1_
      have HO_248000 := n2_
      have HO251 := n3_
      have BK222 := n4_
      have BK223 := n5_
      have BK235 := n6_
      have BK239 := n7_
      have BK247 := n8_
      have HB := n9_
      clear n0_ n1_ n2_ n3_ n4_ n5_ n6_ n7_ n8_ n9_
      (try clear hb)
      (try clear hb2)
      (try clear hk)
      (try clear hi)
      (try clear ho0)
      obtain ⟨Ao78, co78, eo78⟩ := Kd.R_slice HO251.out
      (first | subst eo78 | (injection eo78 with f1_ f2_ f3_; have f4_ := f1_.symm; have f5_ := f3_.symm; clear f1_ f2_ f3_; subst f4_; subst f5_))
      refine hK.out _ _ ⟨bc_ BK239 0, bc_ BK222 0⟩ (fun hHeld => ?_)
      clear hK K
      refine norm_ (a' := ?_) ?_ ?_
      rotate_left
      ·show Act.put _ (some 49) _ = _
       simp only [Act.put, sT, sZ, sS, i64_w, i32_w]
       rfl
      refine one_ (i := 3) (N := some 50) #[true, true, true, true, false] rfl rfl (by kernel_rfl) (by decide) (fun K hK => ?_)
      refine goes_ Try.func16 (by kernel_rfl) rfl #[.agg #[.slice Ao35 t236.length co35], .agg #[.slice Ao78 t249.length co78]] (by rfl) rfl rfl ar_ ?_
      with_reducible refine (laws_eqPuzzle.calls kj15 _ _ t236 _ _ t249 true _ ?side1 ?side2 ?side3 ?side4 A72.out).mono ?_
      (case side1 => repeat (first | exact (Kd.R_reads' HO_240000.out).2.2 | (with_reducible refine Kd.C_alloc ?_ _) | (with_reducible refine Kd.C_drewN ?_ _) | (with_reducible refine Kd.C_drew ?_)))
      (case side2 => exact (Kd.R_reads' HO_240000.out).2.1)
      (case side3 => repeat (first | exact (Kd.R_reads' HO251.out).2.2 | (with_reducible refine Kd.C_alloc ?_ _) | (with_reducible refine Kd.C_drewN ?_ _) | (with_reducible refine Kd.C_drew ?_)))
      (case side4 => exact (Kd.R_reads' HO251.out).2.1)
      rintro e w79 ⟨rfl, hb⟩
      refine ⟨_, rfl, ?_⟩
      have n0_ := Aside0.mk (Kd.R_below (ra_ HO_236000.out) hb)
      have n1_ := Aside0.mk (Kd.R_below (ra_ HO_240000.out) hb)
      have n2_ := Aside0.mk (Kd.R_below (ra_ HO_248000.out) hb)
      have n3_ := Aside0.mk (Kd.R_below (ra_ HO251.out) hb)
      have n4_ := Aside0.mk (blk_below (g := gb222) (o := .cells #[.slice A0_0 l0_0.length c0_0] 30 (0, 0)) (kx_ BK222.out) hb)
      have n5_ := Aside0.mk (blk_below (g := gb223) (o := .cells #[.int .i64 a1_0, .int .i64 a1_1, .int .i64 a1_2] 23 (0, 0)) (kx_ BK223.out) hb)
      have n6_ := Aside0.mk (blk_below (g := gb235) (o := .cells #[.slice Ao29 t231.length co29] 35 (0, 0)) (kx_ BK235.out) hb)
      have n7_ := Aside0.mk (blk_below (g := gb239) (o := .cells #[.slice Ao35 t236.length co35] 35 (0, 0)) (kx_ BK239.out) hb)
      have n8_ := Aside0.mk (blk_below (g := gb247) (o := .cells #[.slice Ao46 t243.length co46] 35 (0, 0)) (kx_ BK247.out) hb)
      have n9_ := Aside0.mk (below_step (hm_) hb)
      clear HO_236000
      clear HO_240000
      clear HO_248000
      clear HO251
      clear BK222
      clear BK223
      clear BK235
      clear BK239
      clear BK247
      clear HB
      have HO_236000 := n0_
      have HO_240000 := n1_
      have HO_248000 := n2_
      have HO251 := n3_
      have BK222 := n4_
      have BK223 := n5_
      have BK235 := n6_
      have BK239 := n7_
      have BK247 := n8_
      have HB := n9_
      clear n0_ n1_ n2_ n3_ n4_ n5_ n6_ n7_ n8_ n9_
      (try clear hb)
      (try clear hb2)
      (try clear hk)
      (try clear hi)
      refine hK.out _ _ ⟨bc_ BK239 0, bc_ BK222 0⟩ (fun hHeld => ?_)
      clear hK K
      refine norm_ (a' := ?_) ?_ ?_
      rotate_left
      ·show Act.put _ (some 50) _ = _
       simp only [Act.put, sT, sZ, sS, i64_w, i32_w]
       rfl
      refine pure_ (i := 4) (N := some 51) (v := ?_) (a' := ?_) #[true, true, true, true, true] rfl rfl (by kernel_rfl) (fun _ _ _ h => h) (Or.inl ⟨by rfl, ?_⟩) ?_ ?_
      rotate_left
      ·intro w'
       go_simp
       with_reducible rfl
      rotate_left
      ·simp only [Act.put, sT, sZ, sS, i64_w, i32_w]
       rfl
      refine done_ (by kernel_rfl) ?_
      have hnb80 := NB239_222.out
      have hnc80 := NB222_239.out
      have hnb81 := NB239_223.out
      have hnc81 := NB223_239.out
      have hnb82 := NB239_235.out
      have hnc82 := NB235_239.out
      have hnb83 := NB239_247.out
      have hnc83 := NB247_239.out
      have hcz84_0 : w79.cell? ⟨gb239, 0, none⟩ = some (.slice Ao35 t236.length co35) := bc_ BK239 0
      have hfz84_0 := blk_frozen BK239.out 0
      go_upto_region 14 with (first | ((with_reducible refine gate_callee (f := 19) rfl ?_); refine goesL_ (some 54) rfl rfl Try.func19 (by kernel_rfl) rfl #[.agg #[.slice Ao35 t236.length co35], .int .i64 1] rfl ar_ ?_; (with_reducible refine (laws_markPuzzle.calls kj15 (fun k_ => some k_ = (.slice Ao35 t236.length co35 : Value).ownBlock) (.slice Ao35 t236.length co35) t236 1 t253 t254 w _ ?side1 ?side2 A74.out).mono ?_); (case side1 => repeat (first | (with_reducible first | exact HB.out | apply bA | apply bN | apply bD | refine below_set ?_ GE222.out | refine below_set ?_ GE223.out | refine below_set ?_ GE235.out | refine below_set ?_ GE239.out | refine below_set ?_ GE247.out) | exact HB.out)); (case side2 => exact Kd.R_tight rfl HO_240000.out); rintro e w85 ⟨rfl, hy0, hb, hkp⟩; refine ⟨_, rfl, ?_⟩; have n0_ := Aside0.mk (Kd.R_mono (ok' := fun k_ => some k_ ≠ (.slice Ao35 t236.length co35 : Value).ownBlock ∧ some k_ ≠ (.slice Ao46 t243.length co46 : Value).ownBlock ∧ some k_ ≠ (.slice Ao78 t249.length co78 : Value).ownBlock) (Kd.R_keptB (HO_236000.out) hkp (fun k_ hk_ hs_ => (hk_.1.1) hs_)) (fun k_ hk_ => ⟨hk_.1.1.1, hk_.1.1.2, hk_.1.2⟩)); have n1_ := Aside0.mk (Kd.R_reok rfl hy0 (fun k_ e_ => HO_240000.out.1 k_ e_)); have n2_ := Aside0.mk (Kd.R_mono (ok' := fun k_ => some k_ ≠ (.slice Ao29 t231.length co29 : Value).ownBlock ∧ some k_ ≠ (.slice Ao35 t236.length co35 : Value).ownBlock ∧ some k_ ≠ (.slice Ao78 t249.length co78 : Value).ownBlock) (Kd.R_keptB (HO_248000.out) hkp (fun k_ hk_ hs_ => (hk_.1.2) hs_)) (fun k_ hk_ => ⟨hk_.1.1.1, hk_.1.1.2, hk_.1.2⟩)); have n3_ := Aside0.mk (blk_kept (kx_ BK222.out) hkp (fun hs_ => (fun e_ => (Kd.R_ne HO_240000.out BK222.out (by decide)) e_) hs_)); have n4_ := Aside0.mk (blk_kept (kx_ BK223.out) hkp (fun hs_ => (fun e_ => (Kd.R_ne HO_240000.out BK223.out (by decide)) e_) hs_)); have n5_ := Aside0.mk (blk_kept (kx_ BK235.out) hkp (fun hs_ => (fun e_ => (Kd.R_ne HO_240000.out BK235.out (by decide)) e_) hs_)); have n6_ := Aside0.mk (blk_kept (kx_ BK239.out) hkp (fun hs_ => (fun e_ => (Kd.R_ne HO_240000.out BK239.out (by decide)) e_) hs_)); have n7_ := Aside0.mk (blk_kept (kx_ BK247.out) hkp (fun hs_ => (fun e_ => (Kd.R_ne HO_240000.out BK247.out (by decide)) e_) hs_)); have n8_ := Aside0.mk (Kd.R_mono (ok' := fun k_ => some k_ ≠ (.slice Ao29 t231.length co29 : Value).ownBlock ∧ some k_ ≠ (.slice Ao35 t236.length co35 : Value).ownBlock ∧ some k_ ≠ (.slice Ao46 t243.length co46 : Value).ownBlock) (Kd.R_keptB (HO251.out) hkp (fun k_ hk_ hs_ => (hk_.1.2) hs_)) (fun k_ hk_ => ⟨hk_.1.1.1.2, hk_.1.1.2, hk_.1.2⟩)); have n9_ := Aside0.mk (hb); clear HO_236000; clear HO_240000; clear HO_248000; clear BK222; clear BK223; clear BK235; clear BK239; clear BK247; clear HO251; clear HB; have HO_236000 := n0_; have HO_240000 := n1_; have HO_248000 := n2_; have BK222 := n3_; have BK223 := n4_; have BK235 := n5_; have BK239 := n6_; have BK247 := n7_; have HO251 := n8_; have HB := n9_; clear n0_ n1_ n2_ n3_ n4_ n5_ n6_ n7_ n8_ n9_; (try clear hb); (try clear hkp); (try clear hy0)))
      (try simp only [Act.put, sT, sZ, sS])
      go_cut [67] (fun v67 wc => ∃ (kq : Nat) (x67_74 : Bool), v67 = .bool x67_74 ∧ Aside0 (laws_FnExactAddClue.j1 kq t234 x67_74 l0_0 a1_0 a1_1 a1_2 t231 t243 = some r) ∧ Aside0 (kq ≤ kj15) ∧ Aside0 (Kd.R k25 25 wc w.heap.size (fun k_ => some k_ ≠ ((.slice Ao35 t236.length co35) : Value).ownBlock ∧ some k_ ≠ ((.slice Ao46 t243.length co46) : Value).ownBlock) (.slice Ao29 t231.length co29) t231) ∧ Aside0 (Kd.R k25 25 wc w.heap.size (fun k_ => some k_ ≠ ((.slice Ao29 t231.length co29) : Value).ownBlock ∧ some k_ ≠ ((.slice Ao46 t243.length co46) : Value).ownBlock) (.slice Ao35 t236.length co35) t254) ∧ Aside0 (Kd.R k25 25 wc w.heap.size (fun k_ => some k_ ≠ ((.slice Ao29 t231.length co29) : Value).ownBlock ∧ some k_ ≠ ((.slice Ao35 t236.length co35) : Value).ownBlock) (.slice Ao46 t243.length co46) t243) ∧ Aside0 (wc.heap[gb222]? = some (.cells #[(.slice A0_0 l0_0.length c0_0)] 30 (0, 0))) ∧ Aside0 (wc.heap[gb223]? = some (.cells #[.int .i64 a1_0, .int .i64 a1_1, .int .i64 a1_2] 23 (0, 0))) ∧ Aside0 (wc.heap[gb235]? = some (.cells #[(.slice Ao29 t231.length co29)] 35 (0, 0))) ∧ Aside0 (wc.heap[gb239]? = some (.cells #[(.slice Ao35 t236.length co35)] 35 (0, 0))) ∧ Aside0 (wc.heap[gb247]? = some (.cells #[(.slice Ao46 t243.length co46)] 35 (0, 0))) ∧ Aside0 (Below w.heap.size w wc))
      case first =>
       have H := HC75.out
       clear HC75
       by_cases c86 : t253 < 0
       ·rw [if_pos c86] at H
        have c86b0 : decide (t253 < 0) = true := decide_eq_true c86
        clear c86
        (first | rw [c86b0] | (simp only [i64_w, i32_w]; rw [c86b0]) | skip)
        have H' := Aside0.mk H
        clear H
        go_wp2
        go_meet
        case rel => exact ⟨_, (true), (by first | rfl | (simp; done) | (simp [*]; done)), H', ⟨by have := HJ15.out; first | omega | exact Nat.le_refl _⟩, ⟨by (with_reducible repeat (first | apply rA | apply rN | apply rD)); exact Kd.R_mono HO_236000.out (fun _ hk => ⟨hk.1, hk.2.1⟩)⟩, ⟨by (with_reducible repeat (first | apply rA | apply rN | apply rD)); exact Kd.R_mono HO_240000.out (fun _ hk => ⟨hk.1.1, hk.1.2⟩)⟩, ⟨by (with_reducible repeat (first | apply rA | apply rN | apply rD)); exact Kd.R_mono HO_248000.out (fun _ hk => ⟨hk.1, hk.2.1⟩)⟩, ⟨by (with_reducible repeat (first | refine kN ?_ _ | refine kD ?_ | refine kA ?_ _)); exact BK222.out⟩, ⟨by (with_reducible repeat (first | refine kN ?_ _ | refine kD ?_ | refine kA ?_ _)); exact BK223.out⟩, ⟨by (with_reducible repeat (first | refine kN ?_ _ | refine kD ?_ | refine kA ?_ _)); exact BK235.out⟩, ⟨by (with_reducible repeat (first | refine kN ?_ _ | refine kD ?_ | refine kA ?_ _)); exact BK239.out⟩, ⟨by (with_reducible repeat (first | refine kN ?_ _ | refine kD ?_ | refine kA ?_ _)); exact BK247.out⟩, ⟨hm_⟩⟩
       ·rw [if_neg c86] at H
        have c86b0 : decide (t253 < 0) = false := decide_eq_false c86
        clear c86
        (first | rw [c86b0] | (simp only [i64_w, i32_w]; rw [c86b0]) | skip)
        replace H := bI H
        obtain ⟨t255, A870, H⟩ := H
        replace H : (if t255 = true then (laws_FnExactAddClue.j1 kj15 t234 (t246 != t234) l0_0 a1_0 a1_1 a1_2 t231 t243) else (laws_FnExactAddClue.j1 kj15 t234 true l0_0 a1_0 a1_1 a1_2 t231 t243)) = some r := H
        have A87 := Aside0.mk A870
        clear A870
        by_cases c88 : t255 = true
        ·subst c88
         have H1 : (laws_FnExactAddClue.j1 kj15 t234 (t246 != t234) l0_0 a1_0 a1_1 a1_2 t231 t243) = some r := by rw [if_pos rfl] at H; exact H
         clear H
         have H := H1
         clear H1
         have H' := Aside0.mk H
         clear H
         have hnb89 := NB247_222.out
         have hnc89 := NB222_247.out
         have hnb90 := NB247_223.out
         have hnc90 := NB223_247.out
         have hnb91 := NB247_235.out
         have hnc91 := NB235_247.out
         have hnb92 := NB247_239.out
         have hnc92 := NB239_247.out
         have hcz93_0 : w85.cell? ⟨gb247, 0, none⟩ = some (.slice Ao46 t243.length co46) := bc_ BK247 0
         have hfz93_0 := blk_frozen BK247.out 0
         have hnb94 := NB235_222.out
         have hnc94 := NB222_235.out
         have hnb95 := NB235_223.out
         have hnc95 := NB223_235.out
         have hnb96 := NB235_239.out
         have hnc96 := NB239_235.out
         have hcz97_0 : w85.cell? ⟨gb235, 0, none⟩ = some (.slice Ao29 t231.length co29) := bc_ BK235 0
         have hfz97_0 := blk_frozen BK235.out 0
         go_wp2_with (first | (go_at_call 16; (with_reducible refine (laws_eqPuzzle.calls kj15 _ _ t243 _ _ t231 true _ ?side1 ?side2 ?side3 ?side4 A87.out).mono ?_); (case side1 => repeat (first | exact (Kd.R_reads' HO_248000.out).2.2 | (with_reducible refine Kd.C_alloc ?_ _) | (with_reducible refine Kd.C_drewN ?_ _) | (with_reducible refine Kd.C_drew ?_))); (case side2 => exact (Kd.R_reads' HO_248000.out).2.1); (case side3 => repeat (first | exact (Kd.R_reads' HO_236000.out).2.2 | (with_reducible refine Kd.C_alloc ?_ _) | (with_reducible refine Kd.C_drewN ?_ _) | (with_reducible refine Kd.C_drew ?_))); (case side4 => exact (Kd.R_reads' HO_236000.out).2.1); rintro e w98 ⟨rfl, hb⟩; have n0_ := Aside0.mk (Kd.R_below (ra_ HO_236000.out) hb); have n1_ := Aside0.mk (Kd.R_below (ra_ HO_240000.out) hb); have n2_ := Aside0.mk (Kd.R_below (ra_ HO_248000.out) hb); have n3_ := Aside0.mk (Kd.R_below (ra_ HO251.out) hb); have n4_ := Aside0.mk (blk_below (g := gb222) (o := .cells #[.slice A0_0 l0_0.length c0_0] 30 (0, 0)) (kx_ BK222.out) hb); have n5_ := Aside0.mk (blk_below (g := gb223) (o := .cells #[.int .i64 a1_0, .int .i64 a1_1, .int .i64 a1_2] 23 (0, 0)) (kx_ BK223.out) hb); have n6_ := Aside0.mk (blk_below (g := gb235) (o := .cells #[.slice Ao29 t231.length co29] 35 (0, 0)) (kx_ BK235.out) hb); have n7_ := Aside0.mk (blk_below (g := gb239) (o := .cells #[.slice Ao35 t236.length co35] 35 (0, 0)) (kx_ BK239.out) hb); have n8_ := Aside0.mk (blk_below (g := gb247) (o := .cells #[.slice Ao46 t243.length co46] 35 (0, 0)) (kx_ BK247.out) hb); have n9_ := Aside0.mk (below_step (hm_) hb); clear HO_236000; clear HO_240000; clear HO_248000; clear HO251; clear BK222; clear BK223; clear BK235; clear BK239; clear BK247; clear HB; have HO_236000 := n0_; have HO_240000 := n1_; have HO_248000 := n2_; have HO251 := n3_; have BK222 := n4_; have BK223 := n5_; have BK235 := n6_; have BK239 := n7_; have BK247 := n8_; have HB := n9_; clear n0_ n1_ n2_ n3_ n4_ n5_ n6_ n7_ n8_ n9_; (try clear hb); (try clear hb2); (try clear hk); (try clear hi)))
         go_meet
         case rel => exact ⟨_, ((t246 != t234)), (by first | rfl | (simp; done) | (simp [*]; done)), H', ⟨by have := HJ15.out; first | omega | exact Nat.le_refl _⟩, ⟨by (with_reducible repeat (first | apply rA | apply rN | apply rD)); exact Kd.R_mono HO_236000.out (fun _ hk => ⟨hk.1, hk.2.1⟩)⟩, ⟨by (with_reducible repeat (first | apply rA | apply rN | apply rD)); exact Kd.R_mono HO_240000.out (fun _ hk => ⟨hk.1.1, hk.1.2⟩)⟩, ⟨by (with_reducible repeat (first | apply rA | apply rN | apply rD)); exact Kd.R_mono HO_248000.out (fun _ hk => ⟨hk.1, hk.2.1⟩)⟩, ⟨by (with_reducible repeat (first | refine kN ?_ _ | refine kD ?_ | refine kA ?_ _)); exact BK222.out⟩, ⟨by (with_reducible repeat (first | refine kN ?_ _ | refine kD ?_ | refine kA ?_ _)); exact BK223.out⟩, ⟨by (with_reducible repeat (first | refine kN ?_ _ | refine kD ?_ | refine kA ?_ _)); exact BK235.out⟩, ⟨by (with_reducible repeat (first | refine kN ?_ _ | refine kD ?_ | refine kA ?_ _)); exact BK239.out⟩, ⟨by (with_reducible repeat (first | refine kN ?_ _ | refine kD ?_ | refine kA ?_ _)); exact BK247.out⟩, ⟨hm_⟩⟩
        ·replace c88 := Bool.eq_false_iff.mpr c88
         subst c88
         have H1 : (laws_FnExactAddClue.j1 kj15 t234 true l0_0 a1_0 a1_1 a1_2 t231 t243) = some r := by rw [if_neg (show ¬ (false = true) by decide)] at H; exact H
         clear H
         have H := H1
         clear H1
         have H' := Aside0.mk H
         clear H
         have hnb99 := NB247_222.out
         have hnc99 := NB222_247.out
         have hnb100 := NB247_223.out
         have hnc100 := NB223_247.out
         have hnb101 := NB247_235.out
         have hnc101 := NB235_247.out
         have hnb102 := NB247_239.out
         have hnc102 := NB239_247.out
         have hcz103_0 : w85.cell? ⟨gb247, 0, none⟩ = some (.slice Ao46 t243.length co46) := bc_ BK247 0
         have hfz103_0 := blk_frozen BK247.out 0
         have hnb104 := NB235_222.out
         have hnc104 := NB222_235.out
         have hnb105 := NB235_223.out
         have hnc105 := NB223_235.out
         have hnb106 := NB235_239.out
         have hnc106 := NB239_235.out
         have hcz107_0 : w85.cell? ⟨gb235, 0, none⟩ = some (.slice Ao29 t231.length co29) := bc_ BK235 0
         have hfz107_0 := blk_frozen BK235.out 0
         go_wp2_with (first | (go_at_call 16; (with_reducible refine (laws_eqPuzzle.calls kj15 _ _ t243 _ _ t231 false _ ?side1 ?side2 ?side3 ?side4 A87.out).mono ?_); (case side1 => repeat (first | exact (Kd.R_reads' HO_248000.out).2.2 | (with_reducible refine Kd.C_alloc ?_ _) | (with_reducible refine Kd.C_drewN ?_ _) | (with_reducible refine Kd.C_drew ?_))); (case side2 => exact (Kd.R_reads' HO_248000.out).2.1); (case side3 => repeat (first | exact (Kd.R_reads' HO_236000.out).2.2 | (with_reducible refine Kd.C_alloc ?_ _) | (with_reducible refine Kd.C_drewN ?_ _) | (with_reducible refine Kd.C_drew ?_))); (case side4 => exact (Kd.R_reads' HO_236000.out).2.1); rintro e w108 ⟨rfl, hb⟩; have n0_ := Aside0.mk (Kd.R_below (ra_ HO_236000.out) hb); have n1_ := Aside0.mk (Kd.R_below (ra_ HO_240000.out) hb); have n2_ := Aside0.mk (Kd.R_below (ra_ HO_248000.out) hb); have n3_ := Aside0.mk (Kd.R_below (ra_ HO251.out) hb); have n4_ := Aside0.mk (blk_below (g := gb222) (o := .cells #[.slice A0_0 l0_0.length c0_0] 30 (0, 0)) (kx_ BK222.out) hb); have n5_ := Aside0.mk (blk_below (g := gb223) (o := .cells #[.int .i64 a1_0, .int .i64 a1_1, .int .i64 a1_2] 23 (0, 0)) (kx_ BK223.out) hb); have n6_ := Aside0.mk (blk_below (g := gb235) (o := .cells #[.slice Ao29 t231.length co29] 35 (0, 0)) (kx_ BK235.out) hb); have n7_ := Aside0.mk (blk_below (g := gb239) (o := .cells #[.slice Ao35 t236.length co35] 35 (0, 0)) (kx_ BK239.out) hb); have n8_ := Aside0.mk (blk_below (g := gb247) (o := .cells #[.slice Ao46 t243.length co46] 35 (0, 0)) (kx_ BK247.out) hb); have n9_ := Aside0.mk (below_step (hm_) hb); clear HO_236000; clear HO_240000; clear HO_248000; clear HO251; clear BK222; clear BK223; clear BK235; clear BK239; clear BK247; clear HB; have HO_236000 := n0_; have HO_240000 := n1_; have HO_248000 := n2_; have HO251 := n3_; have BK222 := n4_; have BK223 := n5_; have BK235 := n6_; have BK239 := n7_; have BK247 := n8_; have HB := n9_; clear n0_ n1_ n2_ n3_ n4_ n5_ n6_ n7_ n8_ n9_; (try clear hb); (try clear hb2); (try clear hk); (try clear hi)))
         go_meet
         case rel => exact ⟨_, (true), (by first | rfl | (simp; done) | (simp [*]; done)), H', ⟨by have := HJ15.out; first | omega | exact Nat.le_refl _⟩, ⟨by (with_reducible repeat (first | apply rA | apply rN | apply rD)); exact Kd.R_mono HO_236000.out (fun _ hk => ⟨hk.1, hk.2.1⟩)⟩, ⟨by (with_reducible repeat (first | apply rA | apply rN | apply rD)); exact Kd.R_mono HO_240000.out (fun _ hk => ⟨hk.1.1, hk.1.2⟩)⟩, ⟨by (with_reducible repeat (first | apply rA | apply rN | apply rD)); exact Kd.R_mono HO_248000.out (fun _ hk => ⟨hk.1, hk.2.1⟩)⟩, ⟨by (with_reducible repeat (first | refine kN ?_ _ | refine kD ?_ | refine kA ?_ _)); exact BK222.out⟩, ⟨by (with_reducible repeat (first | refine kN ?_ _ | refine kD ?_ | refine kA ?_ _)); exact BK223.out⟩, ⟨by (with_reducible repeat (first | refine kN ?_ _ | refine kD ?_ | refine kA ?_ _)); exact BK235.out⟩, ⟨by (with_reducible repeat (first | refine kN ?_ _ | refine kD ?_ | refine kA ?_ _)); exact BK239.out⟩, ⟨by (with_reducible repeat (first | refine kN ?_ _ | refine kD ?_ | refine kA ?_ _)); exact BK247.out⟩, ⟨hm_⟩⟩
      case rest =>
       clear HC75
       try clear c1
       try clear p2
       try clear c4
       try clear c5
       try clear c6
       try clear c7
       try clear c8
       try clear c9
       try clear c10
       try clear c14
       try clear c16
       try clear c18
       try clear c19
       try clear c49
       try clear c50
       try clear c51
       try clear c52
       try clear c53
       try clear c55
       try clear c56
       try clear c57
       try clear c60
       try clear c61
       try clear c62
       try clear c63
       try clear c65
       try clear c66
       try clear c67
       try clear c70
       try clear c73
       try clear c80
       try clear c81
       try clear c82
       try clear c83
       try clear c86
       try clear c86b0
       try clear c88
       try clear c89
       try clear c90
       try clear c91
       try clear c92
       try clear c94
       try clear c95
       try clear c96
       try clear c99
       try clear c100
       try clear c101
       try clear c102
       try clear c104
       try clear c105
       try clear c106
       try clear hcz103_0
       try clear hcz107_0
       try clear hcz54_0
       try clear hcz58_0
       try clear hcz64_0
       try clear hcz68_0
       try clear hcz84_0
       try clear hcz93_0
       try clear hcz97_0
       try clear hfz103_0
       try clear hfz107_0
       try clear hfz54_0
       try clear hfz58_0
       try clear hfz64_0
       try clear hfz68_0
       try clear hfz84_0
       try clear hfz93_0
       try clear hfz97_0
       try clear p2
       obtain ⟨kq, x67_74, rfl, HA, HJ74, HO_236000, HO_240000, HO_248000, BK222, BK223, BK235, BK239, BK247, HB⟩ := hcut
       have hl240000_74 := (Kd.R_reads' HO_240000.out).1
       rw [hl240000_74] at HO_240000
       (try simp only [hl240000_74])
       (try simp only [hl240000_74] at BK222)
       (try simp only [hl240000_74] at BK223)
       (try simp only [hl240000_74] at BK235)
       (try simp only [hl240000_74] at BK239)
       (try simp only [hl240000_74] at BK247)
       (try simp only [hl240000_74] at HO_236000)
       (try simp only [hl240000_74] at HO_248000)
       cases kq with
       | zero => exact absurd HA.out (by simp [laws_FnExactAddClue.j1])
       | succ kj74 =>
        have H := HA.out
        clear HA
        simp only [laws_FnExactAddClue.j1] at H
        by_cases c109 : x67_74 = true
        ·subst c109
         have H1 : (some false) = some r := by rw [if_pos rfl] at H; exact H
         clear H
         have H := H1
         clear H1
         obtain rfl := oI H
         go_wp2
         go_ret
         exact ⟨by first | rfl | (simp [errW_none, errW_some] <;> rfl) | (simp [*, errW_none, errW_some] <;> rfl), hm_⟩
        ·replace c109 := Bool.eq_false_iff.mpr c109
         subst c109
         have H1 : ((laws_markPuzzle.f kj74 t243 1).bind fun bt256 => ((laws_heldPuzzle.f kj74 bt256.2 1).bind fun t258 => (if t258 < 0 then (some false) else (if t258 = bt256.1 then ((laws_toPuzzle.f kj74 l0_0).bind fun t259 => ((laws_toClue.f a1_0 a1_1 a1_2).bind fun bt262 => ((impl_AddClue.f t259 bt262.1 bt262.2.1 bt262.2.2).bind fun bt265 => ((laws_eqPuzzle.f kj74 bt265.1 t231).bind fun t270 => (if t270 = true then (laws_FnExactAddClue.j2 kj74 bt256.1 (bt265.2 != t234) bt256.2) else (laws_FnExactAddClue.j2 kj74 bt256.1 true bt256.2)))))) else (some false))))) = some r := by rw [if_neg (show ¬ (false = true) by decide)] at H; exact H
         clear H
         have H := H1
         clear H1
         replace H := bI H
         obtain ⟨⟨t256, t257⟩, A1100, H⟩ := H
         replace H : ((laws_heldPuzzle.f kj74 t257 1).bind fun t258 => (if t258 < 0 then (some false) else (if t258 = t256 then ((laws_toPuzzle.f kj74 l0_0).bind fun t259 => ((laws_toClue.f a1_0 a1_1 a1_2).bind fun bt262 => ((impl_AddClue.f t259 bt262.1 bt262.2.1 bt262.2.2).bind fun bt265 => ((laws_eqPuzzle.f kj74 bt265.1 t231).bind fun t270 => (if t270 = true then (laws_FnExactAddClue.j2 kj74 t256 (bt265.2 != t234) t257) else (laws_FnExactAddClue.j2 kj74 t256 true t257)))))) else (some false)))) = some r := H
         have A110 := Aside0.mk A1100
         clear A1100
         replace H := bI H
         obtain ⟨t258, A1110, H⟩ := H
         replace H : (if t258 < 0 then (some false) else (if t258 = t256 then ((laws_toPuzzle.f kj74 l0_0).bind fun t259 => ((laws_toClue.f a1_0 a1_1 a1_2).bind fun bt262 => ((impl_AddClue.f t259 bt262.1 bt262.2.1 bt262.2.2).bind fun bt265 => ((laws_eqPuzzle.f kj74 bt265.1 t231).bind fun t270 => (if t270 = true then (laws_FnExactAddClue.j2 kj74 t256 (bt265.2 != t234) t257) else (laws_FnExactAddClue.j2 kj74 t256 true t257)))))) else (some false))) = some r := H
         have A111 := Aside0.mk A1110
         clear A1110
         by_cases c112 : t258 < 0
         ·rw [if_pos c112] at H
          have c112b0 : decide (t258 < 0) = true := decide_eq_true c112
          clear c112
          obtain rfl := oI H
          have hnb113 := NB247_222.out
          have hnc113 := NB222_247.out
          have hnb114 := NB247_223.out
          have hnc114 := NB223_247.out
          have hnb115 := NB247_235.out
          have hnc115 := NB235_247.out
          have hnb116 := NB247_239.out
          have hnc116 := NB239_247.out
          have hcz117_0 : wc.cell? ⟨gb247, 0, none⟩ = some (.slice Ao46 t243.length co46) := bc_ BK247 0
          have hfz117_0 := blk_frozen BK247.out 0
          go_wp2_with (first | ((with_reducible refine gate_callee (f := 19) rfl ?_); refine goesL_ (some 70) rfl rfl Try.func19 (by kernel_rfl) rfl #[.agg #[.slice Ao46 t243.length co46], .int .i64 1] rfl ar_ ?_; (with_reducible refine (laws_markPuzzle.calls kj74 (fun k_ => some k_ = (.slice Ao46 t243.length co46 : Value).ownBlock) (.slice Ao46 t243.length co46) t243 1 t256 t257 w _ ?side1 ?side2 A110.out).mono ?_); (case side1 => repeat (first | (with_reducible first | exact HB.out | apply bA | apply bN | apply bD | refine below_set ?_ GE222.out | refine below_set ?_ GE223.out | refine below_set ?_ GE235.out | refine below_set ?_ GE239.out | refine below_set ?_ GE247.out) | exact HB.out)); (case side2 => exact Kd.R_tight rfl HO_248000.out); rintro e w118 ⟨rfl, hy0, hb, hkp⟩; refine ⟨_, rfl, ?_⟩; have n0_ := Aside0.mk (Kd.R_mono (ok' := fun k_ => some k_ ≠ (.slice Ao35 t254.length co35 : Value).ownBlock ∧ some k_ ≠ (.slice Ao46 t243.length co46 : Value).ownBlock) (Kd.R_keptB (HO_236000.out) hkp (fun k_ hk_ hs_ => (hk_.2) hs_)) (fun k_ hk_ => ⟨hk_.1.1, hk_.1.2⟩)); have n1_ := Aside0.mk (Kd.R_mono (ok' := fun k_ => some k_ ≠ (.slice Ao29 t231.length co29 : Value).ownBlock ∧ some k_ ≠ (.slice Ao46 t243.length co46 : Value).ownBlock) (Kd.R_keptB (HO_240000.out) hkp (fun k_ hk_ hs_ => (hk_.2) hs_)) (fun k_ hk_ => ⟨hk_.1.1, hk_.1.2⟩)); have n2_ := Aside0.mk (Kd.R_reok rfl hy0 (fun k_ e_ => HO_248000.out.1 k_ e_)); have n3_ := Aside0.mk (blk_kept (kx_ BK222.out) hkp (fun hs_ => (fun e_ => (Kd.R_ne HO_248000.out BK222.out (by decide)) e_) hs_)); have n4_ := Aside0.mk (blk_kept (kx_ BK223.out) hkp (fun hs_ => (fun e_ => (Kd.R_ne HO_248000.out BK223.out (by decide)) e_) hs_)); have n5_ := Aside0.mk (blk_kept (kx_ BK235.out) hkp (fun hs_ => (fun e_ => (Kd.R_ne HO_248000.out BK235.out (by decide)) e_) hs_)); have n6_ := Aside0.mk (blk_kept (kx_ BK239.out) hkp (fun hs_ => (fun e_ => (Kd.R_ne HO_248000.out BK239.out (by decide)) e_) hs_)); have n7_ := Aside0.mk (blk_kept (kx_ BK247.out) hkp (fun hs_ => (fun e_ => (Kd.R_ne HO_248000.out BK247.out (by decide)) e_) hs_)); have n8_ := Aside0.mk (hb); clear HO_236000; clear HO_240000; clear HO_248000; clear BK222; clear BK223; clear BK235; clear BK239; clear BK247; clear HB; have HO_236000 := n0_; have HO_240000 := n1_; have HO_248000 := n2_; have BK222 := n3_; have BK223 := n4_; have BK235 := n5_; have BK239 := n6_; have BK247 := n7_; have HB := n8_; clear n0_ n1_ n2_ n3_ n4_ n5_ n6_ n7_ n8_; (try clear hb); (try clear hkp); (try clear hy0); have hcz119_0 : w118.cell? ⟨gb247, 0, none⟩ = some (.slice Ao46 t243.length co46) := bc_ BK247 0; have hfz119_0 := blk_frozen BK247.out 0) | ((with_reducible refine gate_callee (f := 20) rfl ?_); refine goesL_ (some 73) rfl rfl Try.func20 (by kernel_rfl) rfl #[.agg #[.slice Ao46 t257.length co46], .int .i64 1] rfl (by (try simp only [mT, mC, mN]); first | done | (rw [show t257.length = t243.length from (Kd.R_reads' HO_248000.out).1.symm] <;> rfl) | rfl | (simp only [List.length_drop, List.length_take]; rfl)) ?_; (with_reducible refine (laws_heldPuzzle.calls kj74 _ _ t257 1 t258 _ ?side1 ?side2 A111.out).mono ?_); (case side1 => repeat (first | exact (Kd.R_reads' HO_248000.out).2.2 | (with_reducible refine Kd.C_alloc ?_ _) | (with_reducible refine Kd.C_drewN ?_ _) | (with_reducible refine Kd.C_drew ?_))); (case side2 => rw [show t257.length = t243.length from (Kd.R_reads' HO_248000.out).1.symm]; exact (Kd.R_reads' HO_248000.out).2.1); rintro e w120 ⟨rfl, hb⟩; refine ⟨_, rfl, ?_⟩; have n0_ := Aside0.mk (Kd.R_below (ra_ HO_236000.out) hb); have n1_ := Aside0.mk (Kd.R_below (ra_ HO_240000.out) hb); have n2_ := Aside0.mk (Kd.R_below (ra_ HO_248000.out) hb); have n3_ := Aside0.mk (blk_below (g := gb222) (o := .cells #[.slice A0_0 l0_0.length c0_0] 30 (0, 0)) (kx_ BK222.out) hb); have n4_ := Aside0.mk (blk_below (g := gb223) (o := .cells #[.int .i64 a1_0, .int .i64 a1_1, .int .i64 a1_2] 23 (0, 0)) (kx_ BK223.out) hb); have n5_ := Aside0.mk (blk_below (g := gb235) (o := .cells #[.slice Ao29 t231.length co29] 35 (0, 0)) (kx_ BK235.out) hb); have n6_ := Aside0.mk (blk_below (g := gb239) (o := .cells #[.slice Ao35 t254.length co35] 35 (0, 0)) (kx_ BK239.out) hb); have n7_ := Aside0.mk (blk_below (g := gb247) (o := .cells #[.slice Ao46 t243.length co46] 35 (0, 0)) (kx_ BK247.out) hb); have n8_ := Aside0.mk (below_step (hm_) hb); clear HO_236000; clear HO_240000; clear HO_248000; clear BK222; clear BK223; clear BK235; clear BK239; clear BK247; clear HB; have HO_236000 := n0_; have HO_240000 := n1_; have HO_248000 := n2_; have BK222 := n3_; have BK223 := n4_; have BK235 := n5_; have BK239 := n6_; have BK247 := n7_; have HB := n8_; clear n0_ n1_ n2_ n3_ n4_ n5_ n6_ n7_ n8_; (try clear hb); (try clear hb2); (try clear hk); (try clear hi)))
          go_ret
          exact ⟨by first | rfl | (simp [errW_none, errW_some] <;> rfl) | (simp [*, errW_none, errW_some] <;> rfl), hm_⟩
         ·rw [if_neg c112] at H
          have c112b0 : decide (t258 < 0) = false := decide_eq_false c112
          clear c112
          by_cases c121 : t258 = t256
          ·rw [if_pos c121] at H
           have c121b0 : (t258 == t256) = true := beq_iff_eq.mpr c121
           have c121b1 : (t258 != t256) = false := bne_eq_false_iff_eq.mpr c121
           clear c121
           replace H := bI H
           obtain ⟨t259, A1220, H⟩ := H
           replace H : ((laws_toClue.f a1_0 a1_1 a1_2).bind fun bt262 => ((impl_AddClue.f t259 bt262.1 bt262.2.1 bt262.2.2).bind fun bt265 => ((laws_eqPuzzle.f kj74 bt265.1 t231).bind fun t270 => (if t270 = true then (laws_FnExactAddClue.j2 kj74 t256 (bt265.2 != t234) t257) else (laws_FnExactAddClue.j2 kj74 t256 true t257))))) = some r := H
           have A122 := Aside0.mk A1220
           clear A1220
           replace H := bI H
           obtain ⟨⟨t262, t263, t264⟩, A1230, H⟩ := H
           replace H : ((impl_AddClue.f t259 t262 t263 t264).bind fun bt265 => ((laws_eqPuzzle.f kj74 bt265.1 t231).bind fun t270 => (if t270 = true then (laws_FnExactAddClue.j2 kj74 t256 (bt265.2 != t234) t257) else (laws_FnExactAddClue.j2 kj74 t256 true t257)))) = some r := H
           have A123 := Aside0.mk A1230
           clear A1230
           replace H := bI H
           obtain ⟨⟨t265, t268⟩, A1240, H⟩ := H
           replace H : ((laws_eqPuzzle.f kj74 t265 t231).bind fun t270 => (if t270 = true then (laws_FnExactAddClue.j2 kj74 t256 (t268 != t234) t257) else (laws_FnExactAddClue.j2 kj74 t256 true t257))) = some r := H
           have A124 := Aside0.mk A1240
           clear A1240
           have HC125 := Aside0.mk H
           clear H
           have hnb126 := NB247_222.out
           have hnc126 := NB222_247.out
           have hnb127 := NB247_223.out
           have hnc127 := NB223_247.out
           have hnb128 := NB247_235.out
           have hnc128 := NB235_247.out
           have hnb129 := NB247_239.out
           have hnc129 := NB239_247.out
           have hcz130_0 : wc.cell? ⟨gb247, 0, none⟩ = some (.slice Ao46 t243.length co46) := bc_ BK247 0
           have hfz130_0 := blk_frozen BK247.out 0
           try go_wp2_with (first | ((with_reducible refine gate_callee (f := 19) rfl ?_); refine goesL_ (some 70) rfl rfl Try.func19 (by kernel_rfl) rfl #[.agg #[.slice Ao46 t243.length co46], .int .i64 1] rfl ar_ ?_; (with_reducible refine (laws_markPuzzle.calls kj74 (fun k_ => some k_ = (.slice Ao46 t243.length co46 : Value).ownBlock) (.slice Ao46 t243.length co46) t243 1 t256 t257 w _ ?side1 ?side2 A110.out).mono ?_); (case side1 => repeat (first | (with_reducible first | exact HB.out | apply bA | apply bN | apply bD | refine below_set ?_ GE222.out | refine below_set ?_ GE223.out | refine below_set ?_ GE235.out | refine below_set ?_ GE239.out | refine below_set ?_ GE247.out) | exact HB.out)); (case side2 => exact Kd.R_tight rfl HO_248000.out); rintro e w131 ⟨rfl, hy0, hb, hkp⟩; refine ⟨_, rfl, ?_⟩; have n0_ := Aside0.mk (Kd.R_mono (ok' := fun k_ => some k_ ≠ (.slice Ao35 t254.length co35 : Value).ownBlock ∧ some k_ ≠ (.slice Ao46 t243.length co46 : Value).ownBlock) (Kd.R_keptB (HO_236000.out) hkp (fun k_ hk_ hs_ => (hk_.2) hs_)) (fun k_ hk_ => ⟨hk_.1.1, hk_.1.2⟩)); have n1_ := Aside0.mk (Kd.R_mono (ok' := fun k_ => some k_ ≠ (.slice Ao29 t231.length co29 : Value).ownBlock ∧ some k_ ≠ (.slice Ao46 t243.length co46 : Value).ownBlock) (Kd.R_keptB (HO_240000.out) hkp (fun k_ hk_ hs_ => (hk_.2) hs_)) (fun k_ hk_ => ⟨hk_.1.1, hk_.1.2⟩)); have n2_ := Aside0.mk (Kd.R_reok rfl hy0 (fun k_ e_ => HO_248000.out.1 k_ e_)); have n3_ := Aside0.mk (blk_kept (kx_ BK222.out) hkp (fun hs_ => (fun e_ => (Kd.R_ne HO_248000.out BK222.out (by decide)) e_) hs_)); have n4_ := Aside0.mk (blk_kept (kx_ BK223.out) hkp (fun hs_ => (fun e_ => (Kd.R_ne HO_248000.out BK223.out (by decide)) e_) hs_)); have n5_ := Aside0.mk (blk_kept (kx_ BK235.out) hkp (fun hs_ => (fun e_ => (Kd.R_ne HO_248000.out BK235.out (by decide)) e_) hs_)); have n6_ := Aside0.mk (blk_kept (kx_ BK239.out) hkp (fun hs_ => (fun e_ => (Kd.R_ne HO_248000.out BK239.out (by decide)) e_) hs_)); have n7_ := Aside0.mk (blk_kept (kx_ BK247.out) hkp (fun hs_ => (fun e_ => (Kd.R_ne HO_248000.out BK247.out (by decide)) e_) hs_)); have n8_ := Aside0.mk (hb); clear HO_236000; clear HO_240000; clear HO_248000; clear BK222; clear BK223; clear BK235; clear BK239; clear BK247; clear HB; have HO_236000 := n0_; have HO_240000 := n1_; have HO_248000 := n2_; have BK222 := n3_; have BK223 := n4_; have BK235 := n5_; have BK239 := n6_; have BK247 := n7_; have HB := n8_; clear n0_ n1_ n2_ n3_ n4_ n5_ n6_ n7_ n8_; (try clear hb); (try clear hkp); (try clear hy0); have hcz132_0 : w131.cell? ⟨gb247, 0, none⟩ = some (.slice Ao46 t243.length co46) := bc_ BK247 0; have hfz132_0 := blk_frozen BK247.out 0) | ((with_reducible refine gate_callee (f := 20) rfl ?_); refine goesL_ (some 73) rfl rfl Try.func20 (by kernel_rfl) rfl #[.agg #[.slice Ao46 t257.length co46], .int .i64 1] rfl (by (try simp only [mT, mC, mN]); first | done | (rw [show t257.length = t243.length from (Kd.R_reads' HO_248000.out).1.symm] <;> rfl) | rfl | (simp only [List.length_drop, List.length_take]; rfl)) ?_; (with_reducible refine (laws_heldPuzzle.calls kj74 _ _ t257 1 t258 _ ?side1 ?side2 A111.out).mono ?_); (case side1 => repeat (first | exact (Kd.R_reads' HO_248000.out).2.2 | (with_reducible refine Kd.C_alloc ?_ _) | (with_reducible refine Kd.C_drewN ?_ _) | (with_reducible refine Kd.C_drew ?_))); (case side2 => rw [show t257.length = t243.length from (Kd.R_reads' HO_248000.out).1.symm]; exact (Kd.R_reads' HO_248000.out).2.1); rintro e w133 ⟨rfl, hb⟩; refine ⟨_, rfl, ?_⟩; have n0_ := Aside0.mk (Kd.R_below (ra_ HO_236000.out) hb); have n1_ := Aside0.mk (Kd.R_below (ra_ HO_240000.out) hb); have n2_ := Aside0.mk (Kd.R_below (ra_ HO_248000.out) hb); have n3_ := Aside0.mk (blk_below (g := gb222) (o := .cells #[.slice A0_0 l0_0.length c0_0] 30 (0, 0)) (kx_ BK222.out) hb); have n4_ := Aside0.mk (blk_below (g := gb223) (o := .cells #[.int .i64 a1_0, .int .i64 a1_1, .int .i64 a1_2] 23 (0, 0)) (kx_ BK223.out) hb); have n5_ := Aside0.mk (blk_below (g := gb235) (o := .cells #[.slice Ao29 t231.length co29] 35 (0, 0)) (kx_ BK235.out) hb); have n6_ := Aside0.mk (blk_below (g := gb239) (o := .cells #[.slice Ao35 t254.length co35] 35 (0, 0)) (kx_ BK239.out) hb); have n7_ := Aside0.mk (blk_below (g := gb247) (o := .cells #[.slice Ao46 t243.length co46] 35 (0, 0)) (kx_ BK247.out) hb); have n8_ := Aside0.mk (below_step (hm_) hb); clear HO_236000; clear HO_240000; clear HO_248000; clear BK222; clear BK223; clear BK235; clear BK239; clear BK247; clear HB; have HO_236000 := n0_; have HO_240000 := n1_; have HO_248000 := n2_; have BK222 := n3_; have BK223 := n4_; have BK235 := n5_; have BK239 := n6_; have BK247 := n7_; have HB := n8_; clear n0_ n1_ n2_ n3_ n4_ n5_ n6_ n7_ n8_; (try clear hb); (try clear hb2); (try clear hk); (try clear hi)))
           have n0_ := Aside0.mk (Kd.R_drew HO_236000.out)
           have n1_ := Aside0.mk (Kd.R_drew HO_240000.out)
           have n2_ := Aside0.mk (Kd.R_drew HO_248000.out)
           have n3_ := Aside0.mk (blk_drew BK222.out)
           have n4_ := Aside0.mk (blk_drew BK223.out)
           have n5_ := Aside0.mk (blk_drew BK235.out)
           have n6_ := Aside0.mk (blk_drew BK239.out)
           have n7_ := Aside0.mk (blk_drew BK247.out)
           have n8_ := Aside0.mk (below_drew1 HB.out)
           clear HO_236000
           clear HO_240000
           clear HO_248000
           clear BK222
           clear BK223
           clear BK235
           clear BK239
           clear BK247
           clear HB
           have HO_236000 := n0_
           have HO_240000 := n1_
           have HO_248000 := n2_
           have BK222 := n3_
           have BK223 := n4_
           have BK235 := n5_
           have BK239 := n6_
           have BK247 := n7_
           have HB := n8_
           clear n0_ n1_ n2_ n3_ n4_ n5_ n6_ n7_ n8_
           refine start_ (n := 11) (S := fun w' => w'.cell? ⟨gb222, 0, none⟩ = some (.slice A0_0 l0_0.length c0_0) ∧ w'.cell? ⟨gb223, 0, none⟩ = some (.int .i64 a1_0) ∧ w'.cell? ⟨gb223, 1, none⟩ = some (.int .i64 a1_1) ∧ w'.cell? ⟨gb223, 2, none⟩ = some (.int .i64 a1_2)) (ds := []) #[false, false, false, false, false, false, false, false, false, false, false] (by kernel_rfl) rfl rfl ⟨bc_ BK222 0, bc_ BK223 0, bc_ BK223 1, bc_ BK223 2⟩ (fun hHeld => ?_); refine with_tabW laws_FnExactAddClue.tab24 laws_FnExactAddClue.bits24 (fun HT_ HW_ => ?_)
           generalize w133.drew = w134 at HO_236000 HO_240000 HO_248000 BK222 BK223 BK235 BK239 BK247 HB hHeld ⊢
           refine take_ (i := 0) (N := some 80) (v := ?_) (a' := ?_) #[true, false, false, false, false, false, false, false, false, false, false] rfl rfl (take_ofW HT_.out HW_.out (by kernel_rfl)) (fun _ _ _ h => h) (Or.inl ⟨by rfl, ?_⟩) hHeld ?_ ?_
           rotate_left
           ·rintro w' ⟨s0, s1, s2, s3⟩
            go_simp
            with_reducible rfl
           rotate_left
           ·simp only [Act.put, sT, sZ, sS, i64_w, i32_w]
            rfl
           refine take_ (i := 2) (N := some 82) (v := ?_) (a' := ?_) #[true, false, true, false, false, false, false, false, false, false, false] rfl rfl (take_ofW HT_.out HW_.out (by kernel_rfl)) (fun _ _ _ h => h) (Or.inl ⟨by rfl, ?_⟩) hHeld ?_ ?_
           rotate_left
           ·rintro w' ⟨s0, s1, s2, s3⟩
            go_simp
            with_reducible rfl
           rotate_left
           ·simp only [Act.put, sT, sZ, sS, i64_w, i32_w]
            rfl
           refine join_ (σ := Value × Value × Nat) 2 #[true, true, true, true, true, true, true, true, true, false, false] (fun s_ => [(81, .agg #[s_.1]), (83, .agg #[.int .i64 t262, .int .i64 t263, .int .i64 t264]), (84, .tuple #[.agg #[s_.2.1], .bool t268]), (14, .pointer (some ⟨s_.2.2, 0, none⟩)), (79, .tuple #[.agg #[s_.2.1], .bool t268]), (85, .agg #[s_.2.1]), (86, .bool t268)]) (fun s_ w' => (w'.cell? ⟨gb222, 0, none⟩ = some (.slice A0_0 l0_0.length c0_0) ∧ w'.cell? ⟨gb223, 0, none⟩ = some (.int .i64 a1_0) ∧ w'.cell? ⟨gb223, 1, none⟩ = some (.int .i64 a1_1) ∧ w'.cell? ⟨gb223, 2, none⟩ = some (.int .i64 a1_2)) ∧ (Kd.R k25 25 w' w.heap.size (fun k_ => some k_ ≠ (s_.2.1 : Value).ownBlock ∧ some k_ ≠ (.slice Ao29 t231.length co29 : Value).ownBlock ∧ some k_ ≠ (.slice Ao35 t254.length co35 : Value).ownBlock ∧ some k_ ≠ (.slice Ao46 t243.length co46 : Value).ownBlock) s_.1 t259) ∧ (Kd.R k25 25 w' w.heap.size (fun k_ => some k_ ≠ (s_.1 : Value).ownBlock ∧ some k_ ≠ (.slice Ao29 t231.length co29 : Value).ownBlock ∧ some k_ ≠ (.slice Ao35 t254.length co35 : Value).ownBlock ∧ some k_ ≠ (.slice Ao46 t243.length co46 : Value).ownBlock) s_.2.1 t265) ∧ (Kd.R k25 25 w' w.heap.size (fun k_ => some k_ ≠ (s_.1 : Value).ownBlock ∧ some k_ ≠ (s_.2.1 : Value).ownBlock ∧ some k_ ≠ (.slice Ao35 t254.length co35 : Value).ownBlock ∧ some k_ ≠ (.slice Ao46 t243.length co46 : Value).ownBlock) (.slice Ao29 t231.length co29) t231) ∧ (Kd.R k25 25 w' w.heap.size (fun k_ => some k_ ≠ (s_.1 : Value).ownBlock ∧ some k_ ≠ (s_.2.1 : Value).ownBlock ∧ some k_ ≠ (.slice Ao29 t231.length co29 : Value).ownBlock ∧ some k_ ≠ (.slice Ao46 t243.length co46 : Value).ownBlock) (.slice Ao35 t254.length co35) t254) ∧ (Kd.R k25 25 w' w.heap.size (fun k_ => some k_ ≠ (s_.1 : Value).ownBlock ∧ some k_ ≠ (s_.2.1 : Value).ownBlock ∧ some k_ ≠ (.slice Ao29 t231.length co29 : Value).ownBlock ∧ some k_ ≠ (.slice Ao35 t254.length co35 : Value).ownBlock) (.slice Ao46 t243.length co46) t257) ∧ (w'.heap[gb222]? = some (.cells #[.slice A0_0 l0_0.length c0_0] 30 (0, 0))) ∧ (w'.heap[gb223]? = some (.cells #[.int .i64 a1_0, .int .i64 a1_1, .int .i64 a1_2] 23 (0, 0))) ∧ (w'.heap[gb235]? = some (.cells #[.slice Ao29 t231.length co29] 35 (0, 0))) ∧ (w'.heap[gb239]? = some (.cells #[.slice Ao35 t254.length co35] 35 (0, 0))) ∧ (w'.heap[gb247]? = some (.cells #[.slice Ao46 t243.length co46] 35 (0, 0))) ∧ (w'.heap[s_.2.2]? = some (.cells #[.slice none 0 0] 35 (0, 0))) ∧ (w.heap.size ≤ s_.2.2) ∧ (w.heap.size ≤ s_.2.2) ∧ (gb222 ≠ s_.2.2) ∧ (s_.2.2 ≠ gb222) ∧ (gb223 ≠ s_.2.2) ∧ (s_.2.2 ≠ gb223) ∧ (gb235 ≠ s_.2.2) ∧ (s_.2.2 ≠ gb235) ∧ (gb239 ≠ s_.2.2) ∧ (s_.2.2 ≠ gb239) ∧ (gb247 ≠ s_.2.2) ∧ (s_.2.2 ≠ gb247) ∧ (Below w.heap.size w w')) ?_ ?_
           rotate_left
           ·intro hCont
            refine two_ (i := 1) (j := 8) (Ni := some 81) (Nj := some 14) #[true, true, true, false, false, false, false, false, false, false, false] #[true, false, true, false, false, false, false, false, true, false, false] rfl rfl rfl rfl (two_of HT_.out (by kernel_rfl)) (by decide) (by decide) (fun K hK => ?_) (fun K hK => ?_)
            ·skip
             refine goes_ Try.func14 (by kernel_rfl) rfl #[.agg #[.slice A0_0 l0_0.length c0_0]] (by rfl) rfl rfl ar_ ?_
             with_reducible refine (laws_toPuzzle.calls kj74 _ _ l0_0 t259 _ ?side1 ?side2 A122.out).mono ?_
             (case side1 => repeat (first | exact (Kd.C_below HR0_0.out HB.out) | (with_reducible refine Kd.C_alloc ?_ _) | (with_reducible refine Kd.C_drewN ?_ _) | (with_reducible refine Kd.C_drew ?_)))
             (case side2 => exact HC0_0.out)
             rintro e w135 ⟨v260, rfl, ho0, hb⟩
             refine ⟨_, rfl, ?_⟩
             have n0_ := Aside0.mk (Kd.R_elder' (ra_ HO_236000.out) (Kd.R_base ho0) hb)
             have n1_ := Aside0.mk (Kd.R_elder' (ra_ HO_240000.out) (Kd.R_base ho0) hb)
             have n2_ := Aside0.mk (Kd.R_elder' (ra_ HO_248000.out) (Kd.R_base ho0) hb)
             have n3_ := Aside0.mk (Kd.R_lower (Kd.R_new' (Kd.R_new' (Kd.R_new' ho0 (Kd.R_lt (ra_ HO_236000.out))) (Kd.R_lt (ra_ HO_240000.out))) (Kd.R_lt (ra_ HO_248000.out))) (below_size (hm_)))
             have n4_ := Aside0.mk (blk_below (g := gb222) (o := .cells #[.slice A0_0 l0_0.length c0_0] 30 (0, 0)) (kx_ BK222.out) hb)
             have n5_ := Aside0.mk (blk_below (g := gb223) (o := .cells #[.int .i64 a1_0, .int .i64 a1_1, .int .i64 a1_2] 23 (0, 0)) (kx_ BK223.out) hb)
             have n6_ := Aside0.mk (blk_below (g := gb235) (o := .cells #[.slice Ao29 t231.length co29] 35 (0, 0)) (kx_ BK235.out) hb)
             have n7_ := Aside0.mk (blk_below (g := gb239) (o := .cells #[.slice Ao35 t254.length co35] 35 (0, 0)) (kx_ BK239.out) hb)
             have n8_ := Aside0.mk (blk_below (g := gb247) (o := .cells #[.slice Ao46 t243.length co46] 35 (0, 0)) (kx_ BK247.out) hb)
             have n9_ := Aside0.mk (below_step (hm_) hb)
             clear HO_236000
             clear HO_240000
             clear HO_248000
             clear BK222
             clear BK223
             clear BK235
             clear BK239
             clear BK247
             clear HB
             have HO_236000 := n0_
             have HO_240000 := n1_
             have HO_248000 := n2_
             have HO261 := n3_
             have BK222 := n4_
             have BK223 := n5_
             have BK235 := n6_
             have BK239 := n7_
             have BK247 := n8_
             have HB := n9_
             clear n0_ n1_ n2_ n3_ n4_ n5_ n6_ n7_ n8_ n9_
             (try clear hb)
             (try clear hb2)
             (try clear hk)
             (try clear hi)
             (try clear ho0)
             refine hK.out _ _ ⟨bc_ BK222 0, bc_ BK223 0, bc_ BK223 1, bc_ BK223 2⟩ (fun hHeld => ?_)
             clear hK K
             refine norm_ (a' := ?_) ?_ ?_
             rotate_left
             ·show Act.put _ (some 81) _ = _
              simp only [Act.put, sT, sZ, sS, i64_w, i32_w]
              rfl
             refine two_ (i := 3) (j := 8) (Ni := some 83) (Nj := some 14) #[true, true, true, true, false, false, false, false, false, false, false] #[true, true, true, false, false, false, false, false, true, false, false] rfl rfl rfl rfl (two_of HT_.out (by kernel_rfl)) (by decide) (by decide) (fun K hK => ?_) (fun K hK => ?_)
             ·skip
              refine goes_ Try.func10 (by kernel_rfl) rfl #[.agg #[.int .i64 a1_0, .int .i64 a1_1, .int .i64 a1_2]] (by rfl) rfl rfl ar_ ?_
              with_reducible refine (laws_toClue.calls a1_0 a1_1 a1_2 t262 t263 t264 _ A123.out).mono ?_
              rintro e w136 ⟨rfl, hb⟩
              refine ⟨_, rfl, ?_⟩
              have n0_ := Aside0.mk (Kd.R_below (ra_ HO_236000.out) hb)
              have n1_ := Aside0.mk (Kd.R_below (ra_ HO_240000.out) hb)
              have n2_ := Aside0.mk (Kd.R_below (ra_ HO_248000.out) hb)
              have n3_ := Aside0.mk (Kd.R_below (ra_ HO261.out) hb)
              have n4_ := Aside0.mk (blk_below (g := gb222) (o := .cells #[.slice A0_0 l0_0.length c0_0] 30 (0, 0)) (kx_ BK222.out) hb)
              have n5_ := Aside0.mk (blk_below (g := gb223) (o := .cells #[.int .i64 a1_0, .int .i64 a1_1, .int .i64 a1_2] 23 (0, 0)) (kx_ BK223.out) hb)
              have n6_ := Aside0.mk (blk_below (g := gb235) (o := .cells #[.slice Ao29 t231.length co29] 35 (0, 0)) (kx_ BK235.out) hb)
              have n7_ := Aside0.mk (blk_below (g := gb239) (o := .cells #[.slice Ao35 t254.length co35] 35 (0, 0)) (kx_ BK239.out) hb)
              have n8_ := Aside0.mk (blk_below (g := gb247) (o := .cells #[.slice Ao46 t243.length co46] 35 (0, 0)) (kx_ BK247.out) hb)
              have n9_ := Aside0.mk (below_step (hm_) hb)
              clear HO_236000
              clear HO_240000
              clear HO_248000
              clear HO261
              clear BK222
              clear BK223
              clear BK235
              clear BK239
              clear BK247
              clear HB
              have HO_236000 := n0_
              have HO_240000 := n1_
              have HO_248000 := n2_
              have HO261 := n3_
              have BK222 := n4_
              have BK223 := n5_
              have BK235 := n6_
              have BK239 := n7_
              have BK247 := n8_
              have HB := n9_
              clear n0_ n1_ n2_ n3_ n4_ n5_ n6_ n7_ n8_ n9_
              (try clear hb)
              (try clear hb2)
              (try clear hk)
              (try clear hi)
              obtain ⟨Ao137, co137, eo137⟩ := Kd.R_slice HO261.out
              (first | subst eo137 | (injection eo137 with f1_ f2_ f3_; have f4_ := f1_.symm; have f5_ := f3_.symm; clear f1_ f2_ f3_; subst f4_; subst f5_))
              refine hK.out _ _ ⟨bc_ BK222 0, bc_ BK223 0, bc_ BK223 1, bc_ BK223 2⟩ (fun hHeld => ?_)
              clear hK K
              refine norm_ (a' := ?_) ?_ ?_
              rotate_left
              ·show Act.put _ (some 83) _ = _
               simp only [Act.put, sT, sZ, sS, i64_w, i32_w]
               rfl
              refine two_ (i := 4) (j := 8) (Ni := some 84) (Nj := some 14) #[true, true, true, true, true, false, false, false, false, false, false] #[true, true, true, true, false, false, false, false, true, false, false] rfl rfl rfl rfl (two_of HT_.out (by kernel_rfl)) (by decide) (by decide) (fun K hK => ?_) (fun K hK => ?_)
              ·skip
               refine goes_ Try.func18 (by kernel_rfl) rfl #[.agg #[.slice Ao137 t259.length co137], .agg #[.int .i64 t262, .int .i64 t263, .int .i64 t264]] (by rfl) rfl rfl ar_ ?_
               with_reducible refine (impl_AddClue.calls _ _ t259 t262 t263 t264 t265 t268 _ ?side1 ?side2 A124.out).mono ?_
               (case side1 => repeat (first | exact (Kd.R_reads' HO261.out).2.2 | (with_reducible refine Kd.C_alloc ?_ _) | (with_reducible refine Kd.C_drewN ?_ _) | (with_reducible refine Kd.C_drew ?_)))
               (case side2 => exact (Kd.R_reads' HO261.out).2.1)
               rintro e w138 ⟨v266, rfl, ho0, hb⟩
               refine ⟨_, rfl, ?_⟩
               have n0_ := Aside0.mk (Kd.R_elder' (ra_ HO_236000.out) (Kd.R_base ho0) hb)
               have n1_ := Aside0.mk (Kd.R_elder' (ra_ HO_240000.out) (Kd.R_base ho0) hb)
               have n2_ := Aside0.mk (Kd.R_elder' (ra_ HO_248000.out) (Kd.R_base ho0) hb)
               have n3_ := Aside0.mk (Kd.R_elder' (ra_ HO261.out) (Kd.R_base ho0) hb)
               have n4_ := Aside0.mk (Kd.R_lower (Kd.R_new' (Kd.R_new' (Kd.R_new' (Kd.R_new' ho0 (Kd.R_lt (ra_ HO_236000.out))) (Kd.R_lt (ra_ HO_240000.out))) (Kd.R_lt (ra_ HO_248000.out))) (Kd.R_lt (ra_ HO261.out))) (below_size (hm_)))
               have n5_ := Aside0.mk (blk_below (g := gb222) (o := .cells #[.slice A0_0 l0_0.length c0_0] 30 (0, 0)) (kx_ BK222.out) hb)
               have n6_ := Aside0.mk (blk_below (g := gb223) (o := .cells #[.int .i64 a1_0, .int .i64 a1_1, .int .i64 a1_2] 23 (0, 0)) (kx_ BK223.out) hb)
               have n7_ := Aside0.mk (blk_below (g := gb235) (o := .cells #[.slice Ao29 t231.length co29] 35 (0, 0)) (kx_ BK235.out) hb)
               have n8_ := Aside0.mk (blk_below (g := gb239) (o := .cells #[.slice Ao35 t254.length co35] 35 (0, 0)) (kx_ BK239.out) hb)
               have n9_ := Aside0.mk (blk_below (g := gb247) (o := .cells #[.slice Ao46 t243.length co46] 35 (0, 0)) (kx_ BK247.out) hb)
               have n10_ := Aside0.mk (below_step (hm_) hb)
               clear HO_236000
               clear HO_240000
               clear HO_248000
               clear HO261
               clear BK222
               clear BK223
               clear BK235
               clear BK239
               clear BK247
               clear HB
               have HO_236000 := n0_
               have HO_240000 := n1_
               have HO_248000 := n2_
               have HO261 := n3_
               have HO267 := n4_
               have BK222 := n5_
               have BK223 := n6_
               have BK235 := n7_
               have BK239 := n8_
               have BK247 := n9_
               have HB := n10_
               clear n0_ n1_ n2_ n3_ n4_ n5_ n6_ n7_ n8_ n9_ n10_
               (try clear hb)
               (try clear hb2)
               (try clear hk)
               (try clear hi)
               (try clear ho0)
               refine hK.out _ _ ⟨bc_ BK222 0, bc_ BK223 0, bc_ BK223 1, bc_ BK223 2⟩ (fun hHeld => ?_)
               clear hK K
               refine norm_ (a' := ?_) ?_ ?_
               rotate_left
               ·show Act.put _ (some 84) _ = _
                simp only [Act.put, sT, sZ, sS, i64_w, i32_w]
                rfl
               refine pure_ (i := 5) (N := some 79) (v := ?_) (a' := ?_) #[true, true, true, true, true, true, false, false, false, false, false] rfl rfl (any_of HT_.out (by kernel_rfl)) (fun _ _ _ h => h) (Or.inl ⟨by rfl, ?_⟩) ?_ ?_
               rotate_left
               ·intro w'
                go_simp
                with_reducible rfl
               rotate_left
               ·simp only [Act.put, sT, sZ, sS, i64_w, i32_w]
                rfl
               refine pure_ (i := 6) (N := some 85) (v := ?_) (a' := ?_) #[true, true, true, true, true, true, true, false, false, false, false] rfl rfl (any_of HT_.out (by kernel_rfl)) (fun _ _ _ h => h) (Or.inl ⟨by rfl, ?_⟩) ?_ ?_
               rotate_left
               ·intro w'
                go_simp
                with_reducible rfl
               rotate_left
               ·simp only [Act.put, sT, sZ, sS, i64_w, i32_w]
                rfl
               refine pure_ (i := 7) (N := some 86) (v := ?_) (a' := ?_) #[true, true, true, true, true, true, true, true, false, false, false] rfl rfl (any_of HT_.out (by kernel_rfl)) (fun _ _ _ h => h) (Or.inl ⟨by rfl, ?_⟩) ?_ ?_
               rotate_left
               ·intro w'
                go_simp
                with_reducible rfl
               rotate_left
               ·simp only [Act.put, sT, sZ, sS, i64_w, i32_w]
                rfl
               refine one_ (i := 8) (N := some 14) #[true, true, true, true, true, true, true, true, true, false, false] rfl rfl (one_of HT_.out (by kernel_rfl)) (by decide) (fun K hK => ?_)
               refine box_step ?hg (N := 14) ?hd (cs := #[.slice none 0 0]) (t := 35) ?hr ?_; (case hd => rfl); (case hg => rfl); (case hr => first | (go_simp; done) | (go_simp; rfl))
               intro gb269 hg w139 hbox hb
               have n0_ := Aside0.mk (Kd.R_below (ra_ HO_236000.out) hb)
               have n1_ := Aside0.mk (Kd.R_below (ra_ HO_240000.out) hb)
               have n2_ := Aside0.mk (Kd.R_below (ra_ HO_248000.out) hb)
               have n3_ := Aside0.mk (Kd.R_below (ra_ HO261.out) hb)
               have n4_ := Aside0.mk (Kd.R_below (ra_ HO267.out) hb)
               have n5_ := Aside0.mk (blk_below (g := gb222) (o := .cells #[.slice A0_0 l0_0.length c0_0] 30 (0, 0)) (kx_ BK222.out) hb)
               have n6_ := Aside0.mk (blk_below (g := gb223) (o := .cells #[.int .i64 a1_0, .int .i64 a1_1, .int .i64 a1_2] 23 (0, 0)) (kx_ BK223.out) hb)
               have n7_ := Aside0.mk (blk_below (g := gb235) (o := .cells #[.slice Ao29 t231.length co29] 35 (0, 0)) (kx_ BK235.out) hb)
               have n8_ := Aside0.mk (blk_below (g := gb239) (o := .cells #[.slice Ao35 t254.length co35] 35 (0, 0)) (kx_ BK239.out) hb)
               have n9_ := Aside0.mk (blk_below (g := gb247) (o := .cells #[.slice Ao46 t243.length co46] 35 (0, 0)) (kx_ BK247.out) hb)
               have n10_ := Aside0.mk (below_step (hm_) hb)
               have n11_ := Aside0.mk (hbox)
               have n12_ := Aside0.mk ((by rw [hg]; exact (below_size (hm_)) : w.heap.size ≤ gb269))
               have n13_ := Aside0.mk ((by rw [hg]; exact (below_size (hm_)) : w.heap.size ≤ gb269))
               have n14_ := Aside0.mk ((by rw [hg]; exact Nat.ne_of_lt (blk_lt (g := gb222) (o := .cells #[.slice A0_0 l0_0.length c0_0] 30 (0, 0)) (kx_ BK222.out)) : gb222 ≠ gb269))
               have n15_ := Aside0.mk ((by rw [hg]; exact Nat.ne_of_gt (blk_lt (g := gb222) (o := .cells #[.slice A0_0 l0_0.length c0_0] 30 (0, 0)) (kx_ BK222.out)) : gb269 ≠ gb222))
               have n16_ := Aside0.mk ((by rw [hg]; exact Nat.ne_of_lt (blk_lt (g := gb223) (o := .cells #[.int .i64 a1_0, .int .i64 a1_1, .int .i64 a1_2] 23 (0, 0)) (kx_ BK223.out)) : gb223 ≠ gb269))
               have n17_ := Aside0.mk ((by rw [hg]; exact Nat.ne_of_gt (blk_lt (g := gb223) (o := .cells #[.int .i64 a1_0, .int .i64 a1_1, .int .i64 a1_2] 23 (0, 0)) (kx_ BK223.out)) : gb269 ≠ gb223))
               have n18_ := Aside0.mk ((by rw [hg]; exact Nat.ne_of_lt (blk_lt (g := gb235) (o := .cells #[.slice Ao29 t231.length co29] 35 (0, 0)) (kx_ BK235.out)) : gb235 ≠ gb269))
               have n19_ := Aside0.mk ((by rw [hg]; exact Nat.ne_of_gt (blk_lt (g := gb235) (o := .cells #[.slice Ao29 t231.length co29] 35 (0, 0)) (kx_ BK235.out)) : gb269 ≠ gb235))
               have n20_ := Aside0.mk ((by rw [hg]; exact Nat.ne_of_lt (blk_lt (g := gb239) (o := .cells #[.slice Ao35 t254.length co35] 35 (0, 0)) (kx_ BK239.out)) : gb239 ≠ gb269))
               have n21_ := Aside0.mk ((by rw [hg]; exact Nat.ne_of_gt (blk_lt (g := gb239) (o := .cells #[.slice Ao35 t254.length co35] 35 (0, 0)) (kx_ BK239.out)) : gb269 ≠ gb239))
               have n22_ := Aside0.mk ((by rw [hg]; exact Nat.ne_of_lt (blk_lt (g := gb247) (o := .cells #[.slice Ao46 t243.length co46] 35 (0, 0)) (kx_ BK247.out)) : gb247 ≠ gb269))
               have n23_ := Aside0.mk ((by rw [hg]; exact Nat.ne_of_gt (blk_lt (g := gb247) (o := .cells #[.slice Ao46 t243.length co46] 35 (0, 0)) (kx_ BK247.out)) : gb269 ≠ gb247))
               clear HO_236000
               clear HO_240000
               clear HO_248000
               clear HO261
               clear HO267
               clear BK222
               clear BK223
               clear BK235
               clear BK239
               clear BK247
               clear HB
               have HO_236000 := n0_
               have HO_240000 := n1_
               have HO_248000 := n2_
               have HO261 := n3_
               have HO267 := n4_
               have BK222 := n5_
               have BK223 := n6_
               have BK235 := n7_
               have BK239 := n8_
               have BK247 := n9_
               have HB := n10_
               have BK269 := n11_
               have GW269 := n12_
               have GE269 := n13_
               have NB222_269 := n14_
               have NB269_222 := n15_
               have NB223_269 := n16_
               have NB269_223 := n17_
               have NB235_269 := n18_
               have NB269_235 := n19_
               have NB239_269 := n20_
               have NB269_239 := n21_
               have NB247_269 := n22_
               have NB269_247 := n23_
               clear n0_ n1_ n2_ n3_ n4_ n5_ n6_ n7_ n8_ n9_ n10_ n11_ n12_ n13_ n14_ n15_ n16_ n17_ n18_ n19_ n20_ n21_ n22_ n23_
               clear hb hbox hg
               refine hK.out _ _ ⟨bc_ BK222 0, bc_ BK223 0, bc_ BK223 1, bc_ BK223 2⟩ (fun hHeld => ?_)
               clear hK K
               refine norm_ (a' := ?_) ?_ ?_
               rotate_left
               ·show Act.put _ (some 14) _ = _
                simp only [Act.put, sT, sZ, sS, i64_w, i32_w]
                rfl
               exact norm_ (by simp only [putAll, Act.put, sT, sZ, sS]) (hCont (.slice Ao137 t259.length co137, v266, gb269) _ ⟨hHeld, (by (with_reducible repeat (first | apply rA | apply rN | apply rD)); exact Kd.R_mono HO261.out (fun _ hk => ⟨hk.2, ⟨hk.1.1.1.2, ⟨hk.1.1.2, hk.1.2⟩⟩⟩)), (by (with_reducible repeat (first | apply rA | apply rN | apply rD)); exact Kd.R_mono HO267.out (fun _ hk => ⟨hk.2, ⟨hk.1.1.1.2, ⟨hk.1.1.2, hk.1.2⟩⟩⟩)), (by (with_reducible repeat (first | apply rA | apply rN | apply rD)); exact Kd.R_mono HO_236000.out (fun _ hk => ⟨hk.1.2, ⟨hk.2, ⟨hk.1.1.1, hk.1.1.2⟩⟩⟩)), (by (with_reducible repeat (first | apply rA | apply rN | apply rD)); exact Kd.R_mono HO_240000.out (fun _ hk => ⟨hk.1.2, ⟨hk.2, ⟨hk.1.1.1, hk.1.1.2⟩⟩⟩)), (by (with_reducible repeat (first | apply rA | apply rN | apply rD)); exact Kd.R_mono HO_248000.out (fun _ hk => ⟨hk.1.2, ⟨hk.2, ⟨hk.1.1.1, hk.1.1.2⟩⟩⟩)), (kx_ BK222.out), (kx_ BK223.out), (kx_ BK235.out), (kx_ BK239.out), (kx_ BK247.out), (kx_ BK269.out), GW269.out, GE269.out, NB222_269.out, NB269_222.out, NB223_269.out, NB269_223.out, NB235_269.out, NB269_235.out, NB239_269.out, NB269_239.out, NB247_269.out, NB269_247.out, (hm_)⟩)
              ·skip
               refine box_step ?hg (N := 14) ?hd (cs := #[.slice none 0 0]) (t := 35) ?hr ?_; (case hd => rfl); (case hg => rfl); (case hr => first | (go_simp; done) | (go_simp; rfl))
               intro gb269 hg w137 hbox hb
               have n0_ := Aside0.mk (Kd.R_below (ra_ HO_236000.out) hb)
               have n1_ := Aside0.mk (Kd.R_below (ra_ HO_240000.out) hb)
               have n2_ := Aside0.mk (Kd.R_below (ra_ HO_248000.out) hb)
               have n3_ := Aside0.mk (Kd.R_below (ra_ HO261.out) hb)
               have n4_ := Aside0.mk (blk_below (g := gb222) (o := .cells #[.slice A0_0 l0_0.length c0_0] 30 (0, 0)) (kx_ BK222.out) hb)
               have n5_ := Aside0.mk (blk_below (g := gb223) (o := .cells #[.int .i64 a1_0, .int .i64 a1_1, .int .i64 a1_2] 23 (0, 0)) (kx_ BK223.out) hb)
               have n6_ := Aside0.mk (blk_below (g := gb235) (o := .cells #[.slice Ao29 t231.length co29] 35 (0, 0)) (kx_ BK235.out) hb)
               have n7_ := Aside0.mk (blk_below (g := gb239) (o := .cells #[.slice Ao35 t254.length co35] 35 (0, 0)) (kx_ BK239.out) hb)
               have n8_ := Aside0.mk (blk_below (g := gb247) (o := .cells #[.slice Ao46 t243.length co46] 35 (0, 0)) (kx_ BK247.out) hb)
               have n9_ := Aside0.mk (below_step (hm_) hb)
               have n10_ := Aside0.mk (hbox)
               have n11_ := Aside0.mk ((by rw [hg]; exact (below_size (hm_)) : w.heap.size ≤ gb269))
               have n12_ := Aside0.mk ((by rw [hg]; exact (below_size (hm_)) : w.heap.size ≤ gb269))
               have n13_ := Aside0.mk ((by rw [hg]; exact Nat.ne_of_lt (blk_lt (g := gb222) (o := .cells #[.slice A0_0 l0_0.length c0_0] 30 (0, 0)) (kx_ BK222.out)) : gb222 ≠ gb269))
               have n14_ := Aside0.mk ((by rw [hg]; exact Nat.ne_of_gt (blk_lt (g := gb222) (o := .cells #[.slice A0_0 l0_0.length c0_0] 30 (0, 0)) (kx_ BK222.out)) : gb269 ≠ gb222))
               have n15_ := Aside0.mk ((by rw [hg]; exact Nat.ne_of_lt (blk_lt (g := gb223) (o := .cells #[.int .i64 a1_0, .int .i64 a1_1, .int .i64 a1_2] 23 (0, 0)) (kx_ BK223.out)) : gb223 ≠ gb269))
               have n16_ := Aside0.mk ((by rw [hg]; exact Nat.ne_of_gt (blk_lt (g := gb223) (o := .cells #[.int .i64 a1_0, .int .i64 a1_1, .int .i64 a1_2] 23 (0, 0)) (kx_ BK223.out)) : gb269 ≠ gb223))
               have n17_ := Aside0.mk ((by rw [hg]; exact Nat.ne_of_lt (blk_lt (g := gb235) (o := .cells #[.slice Ao29 t231.length co29] 35 (0, 0)) (kx_ BK235.out)) : gb235 ≠ gb269))
               have n18_ := Aside0.mk ((by rw [hg]; exact Nat.ne_of_gt (blk_lt (g := gb235) (o := .cells #[.slice Ao29 t231.length co29] 35 (0, 0)) (kx_ BK235.out)) : gb269 ≠ gb235))
               have n19_ := Aside0.mk ((by rw [hg]; exact Nat.ne_of_lt (blk_lt (g := gb239) (o := .cells #[.slice Ao35 t254.length co35] 35 (0, 0)) (kx_ BK239.out)) : gb239 ≠ gb269))
               have n20_ := Aside0.mk ((by rw [hg]; exact Nat.ne_of_gt (blk_lt (g := gb239) (o := .cells #[.slice Ao35 t254.length co35] 35 (0, 0)) (kx_ BK239.out)) : gb269 ≠ gb239))
               have n21_ := Aside0.mk ((by rw [hg]; exact Nat.ne_of_lt (blk_lt (g := gb247) (o := .cells #[.slice Ao46 t243.length co46] 35 (0, 0)) (kx_ BK247.out)) : gb247 ≠ gb269))
               have n22_ := Aside0.mk ((by rw [hg]; exact Nat.ne_of_gt (blk_lt (g := gb247) (o := .cells #[.slice Ao46 t243.length co46] 35 (0, 0)) (kx_ BK247.out)) : gb269 ≠ gb247))
               clear HO_236000
               clear HO_240000
               clear HO_248000
               clear HO261
               clear BK222
               clear BK223
               clear BK235
               clear BK239
               clear BK247
               clear HB
               have HO_236000 := n0_
               have HO_240000 := n1_
               have HO_248000 := n2_
               have HO261 := n3_
               have BK222 := n4_
               have BK223 := n5_
               have BK235 := n6_
               have BK239 := n7_
               have BK247 := n8_
               have HB := n9_
               have BK269 := n10_
               have GW269 := n11_
               have GE269 := n12_
               have NB222_269 := n13_
               have NB269_222 := n14_
               have NB223_269 := n15_
               have NB269_223 := n16_
               have NB235_269 := n17_
               have NB269_235 := n18_
               have NB239_269 := n19_
               have NB269_239 := n20_
               have NB247_269 := n21_
               have NB269_247 := n22_
               clear n0_ n1_ n2_ n3_ n4_ n5_ n6_ n7_ n8_ n9_ n10_ n11_ n12_ n13_ n14_ n15_ n16_ n17_ n18_ n19_ n20_ n21_ n22_
               clear hb hbox hg
               obtain ⟨Ao138, co138, eo138⟩ := Kd.R_slice HO261.out
               (first | subst eo138 | (injection eo138 with f1_ f2_ f3_; have f4_ := f1_.symm; have f5_ := f3_.symm; clear f1_ f2_ f3_; subst f4_; subst f5_))
               refine hK.out _ _ ⟨bc_ BK222 0, bc_ BK223 0, bc_ BK223 1, bc_ BK223 2⟩ (fun hHeld => ?_)
               clear hK K
               refine norm_ (a' := ?_) ?_ ?_
               rotate_left
               ·show Act.put _ (some 14) _ = _
                simp only [Act.put, sT, sZ, sS, i64_w, i32_w]
                rfl
               refine one_ (i := 4) (N := some 84) #[true, true, true, true, true, false, false, false, true, false, false] rfl rfl (one_of HT_.out (by kernel_rfl)) (by decide) (fun K hK => ?_)
               refine goes_ Try.func18 (by kernel_rfl) rfl #[.agg #[.slice Ao138 t259.length co138], .agg #[.int .i64 t262, .int .i64 t263, .int .i64 t264]] (by rfl) rfl rfl ar_ ?_
               with_reducible refine (impl_AddClue.calls _ _ t259 t262 t263 t264 t265 t268 _ ?side1 ?side2 A124.out).mono ?_
               (case side1 => repeat (first | exact (Kd.R_reads' HO261.out).2.2 | (with_reducible refine Kd.C_alloc ?_ _) | (with_reducible refine Kd.C_drewN ?_ _) | (with_reducible refine Kd.C_drew ?_)))
               (case side2 => exact (Kd.R_reads' HO261.out).2.1)
               rintro e w139 ⟨v266, rfl, ho0, hb⟩
               refine ⟨_, rfl, ?_⟩
               have n0_ := Aside0.mk (Kd.R_elder' (ra_ HO_236000.out) (Kd.R_base ho0) hb)
               have n1_ := Aside0.mk (Kd.R_elder' (ra_ HO_240000.out) (Kd.R_base ho0) hb)
               have n2_ := Aside0.mk (Kd.R_elder' (ra_ HO_248000.out) (Kd.R_base ho0) hb)
               have n3_ := Aside0.mk (Kd.R_elder' (ra_ HO261.out) (Kd.R_base ho0) hb)
               have n4_ := Aside0.mk (Kd.R_lower (Kd.R_new' (Kd.R_new' (Kd.R_new' (Kd.R_new' ho0 (Kd.R_lt (ra_ HO_236000.out))) (Kd.R_lt (ra_ HO_240000.out))) (Kd.R_lt (ra_ HO_248000.out))) (Kd.R_lt (ra_ HO261.out))) (below_size (hm_)))
               have n5_ := Aside0.mk (blk_below (g := gb222) (o := .cells #[.slice A0_0 l0_0.length c0_0] 30 (0, 0)) (kx_ BK222.out) hb)
               have n6_ := Aside0.mk (blk_below (g := gb223) (o := .cells #[.int .i64 a1_0, .int .i64 a1_1, .int .i64 a1_2] 23 (0, 0)) (kx_ BK223.out) hb)
               have n7_ := Aside0.mk (blk_below (g := gb235) (o := .cells #[.slice Ao29 t231.length co29] 35 (0, 0)) (kx_ BK235.out) hb)
               have n8_ := Aside0.mk (blk_below (g := gb239) (o := .cells #[.slice Ao35 t254.length co35] 35 (0, 0)) (kx_ BK239.out) hb)
               have n9_ := Aside0.mk (blk_below (g := gb247) (o := .cells #[.slice Ao46 t243.length co46] 35 (0, 0)) (kx_ BK247.out) hb)
               have n10_ := Aside0.mk (blk_below (g := gb269) (o := .cells #[.slice none 0 0] 35 (0, 0)) (kx_ BK269.out) hb)
               have n11_ := Aside0.mk (below_step (hm_) hb)
               clear HO_236000
               clear HO_240000
               clear HO_248000
               clear HO261
               clear BK222
               clear BK223
               clear BK235
               clear BK239
               clear BK247
               clear BK269
               clear HB
               have HO_236000 := n0_
               have HO_240000 := n1_
               have HO_248000 := n2_
               have HO261 := n3_
               have HO267 := n4_
               have BK222 := n5_
               have BK223 := n6_
               have BK235 := n7_
               have BK239 := n8_
               have BK247 := n9_
               have BK269 := n10_
               have HB := n11_
               clear n0_ n1_ n2_ n3_ n4_ n5_ n6_ n7_ n8_ n9_ n10_ n11_
               (try clear hb)
               (try clear hb2)
               (try clear hk)
               (try clear hi)
               (try clear ho0)
               refine hK.out _ _ ⟨bc_ BK222 0, bc_ BK223 0, bc_ BK223 1, bc_ BK223 2⟩ (fun hHeld => ?_)
               clear hK K
               refine norm_ (a' := ?_) ?_ ?_
               rotate_left
               ·show Act.put _ (some 84) _ = _
                simp only [Act.put, sT, sZ, sS, i64_w, i32_w]
                rfl
               refine pure_ (i := 5) (N := some 79) (v := ?_) (a' := ?_) #[true, true, true, true, true, true, false, false, true, false, false] rfl rfl (any_of HT_.out (by kernel_rfl)) (fun _ _ _ h => h) (Or.inl ⟨by rfl, ?_⟩) ?_ ?_
               rotate_left
               ·intro w'
                go_simp
                with_reducible rfl
               rotate_left
               ·simp only [Act.put, sT, sZ, sS, i64_w, i32_w]
                rfl
               refine pure_ (i := 6) (N := some 85) (v := ?_) (a' := ?_) #[true, true, true, true, true, true, true, false, true, false, false] rfl rfl (any_of HT_.out (by kernel_rfl)) (fun _ _ _ h => h) (Or.inl ⟨by rfl, ?_⟩) ?_ ?_
               rotate_left
               ·intro w'
                go_simp
                with_reducible rfl
               rotate_left
               ·simp only [Act.put, sT, sZ, sS, i64_w, i32_w]
                rfl
               refine pure_ (i := 7) (N := some 86) (v := ?_) (a' := ?_) #[true, true, true, true, true, true, true, true, true, false, false] rfl rfl (any_of HT_.out (by kernel_rfl)) (fun _ _ _ h => h) (Or.inl ⟨by rfl, ?_⟩) ?_ ?_
               rotate_left
               ·intro w'
                go_simp
                with_reducible rfl
               rotate_left
               ·simp only [Act.put, sT, sZ, sS, i64_w, i32_w]
                rfl
               exact norm_ (by simp only [putAll, Act.put, sT, sZ, sS]) (hCont (.slice Ao138 t259.length co138, v266, gb269) _ ⟨hHeld, (by (with_reducible repeat (first | apply rA | apply rN | apply rD)); exact Kd.R_mono HO261.out (fun _ hk => ⟨hk.2, ⟨hk.1.1.1.2, ⟨hk.1.1.2, hk.1.2⟩⟩⟩)), (by (with_reducible repeat (first | apply rA | apply rN | apply rD)); exact Kd.R_mono HO267.out (fun _ hk => ⟨hk.2, ⟨hk.1.1.1.2, ⟨hk.1.1.2, hk.1.2⟩⟩⟩)), (by (with_reducible repeat (first | apply rA | apply rN | apply rD)); exact Kd.R_mono HO_236000.out (fun _ hk => ⟨hk.1.2, ⟨hk.2, ⟨hk.1.1.1, hk.1.1.2⟩⟩⟩)), (by (with_reducible repeat (first | apply rA | apply rN | apply rD)); exact Kd.R_mono HO_240000.out (fun _ hk => ⟨hk.1.2, ⟨hk.2, ⟨hk.1.1.1, hk.1.1.2⟩⟩⟩)), (by (with_reducible repeat (first | apply rA | apply rN | apply rD)); exact Kd.R_mono HO_248000.out (fun _ hk => ⟨hk.1.2, ⟨hk.2, ⟨hk.1.1.1, hk.1.1.2⟩⟩⟩)), (kx_ BK222.out), (kx_ BK223.out), (kx_ BK235.out), (kx_ BK239.out), (kx_ BK247.out), (kx_ BK269.out), GW269.out, GE269.out, NB222_269.out, NB269_222.out, NB223_269.out, NB269_223.out, NB235_269.out, NB269_235.out, NB239_269.out, NB269_239.out, NB247_269.out, NB269_247.out, (hm_)⟩)
             ·skip
              refine box_step ?hg (N := 14) ?hd (cs := #[.slice none 0 0]) (t := 35) ?hr ?_; (case hd => rfl); (case hg => rfl); (case hr => first | (go_simp; done) | (go_simp; rfl))
              intro gb269 hg w136 hbox hb
              have n0_ := Aside0.mk (Kd.R_below (ra_ HO_236000.out) hb)
              have n1_ := Aside0.mk (Kd.R_below (ra_ HO_240000.out) hb)
              have n2_ := Aside0.mk (Kd.R_below (ra_ HO_248000.out) hb)
              have n3_ := Aside0.mk (Kd.R_below (ra_ HO261.out) hb)
              have n4_ := Aside0.mk (blk_below (g := gb222) (o := .cells #[.slice A0_0 l0_0.length c0_0] 30 (0, 0)) (kx_ BK222.out) hb)
              have n5_ := Aside0.mk (blk_below (g := gb223) (o := .cells #[.int .i64 a1_0, .int .i64 a1_1, .int .i64 a1_2] 23 (0, 0)) (kx_ BK223.out) hb)
              have n6_ := Aside0.mk (blk_below (g := gb235) (o := .cells #[.slice Ao29 t231.length co29] 35 (0, 0)) (kx_ BK235.out) hb)
              have n7_ := Aside0.mk (blk_below (g := gb239) (o := .cells #[.slice Ao35 t254.length co35] 35 (0, 0)) (kx_ BK239.out) hb)
              have n8_ := Aside0.mk (blk_below (g := gb247) (o := .cells #[.slice Ao46 t243.length co46] 35 (0, 0)) (kx_ BK247.out) hb)
              have n9_ := Aside0.mk (below_step (hm_) hb)
              have n10_ := Aside0.mk (hbox)
              have n11_ := Aside0.mk ((by rw [hg]; exact (below_size (hm_)) : w.heap.size ≤ gb269))
              have n12_ := Aside0.mk ((by rw [hg]; exact (below_size (hm_)) : w.heap.size ≤ gb269))
              have n13_ := Aside0.mk ((by rw [hg]; exact Nat.ne_of_lt (blk_lt (g := gb222) (o := .cells #[.slice A0_0 l0_0.length c0_0] 30 (0, 0)) (kx_ BK222.out)) : gb222 ≠ gb269))
              have n14_ := Aside0.mk ((by rw [hg]; exact Nat.ne_of_gt (blk_lt (g := gb222) (o := .cells #[.slice A0_0 l0_0.length c0_0] 30 (0, 0)) (kx_ BK222.out)) : gb269 ≠ gb222))
              have n15_ := Aside0.mk ((by rw [hg]; exact Nat.ne_of_lt (blk_lt (g := gb223) (o := .cells #[.int .i64 a1_0, .int .i64 a1_1, .int .i64 a1_2] 23 (0, 0)) (kx_ BK223.out)) : gb223 ≠ gb269))
              have n16_ := Aside0.mk ((by rw [hg]; exact Nat.ne_of_gt (blk_lt (g := gb223) (o := .cells #[.int .i64 a1_0, .int .i64 a1_1, .int .i64 a1_2] 23 (0, 0)) (kx_ BK223.out)) : gb269 ≠ gb223))
              have n17_ := Aside0.mk ((by rw [hg]; exact Nat.ne_of_lt (blk_lt (g := gb235) (o := .cells #[.slice Ao29 t231.length co29] 35 (0, 0)) (kx_ BK235.out)) : gb235 ≠ gb269))
              have n18_ := Aside0.mk ((by rw [hg]; exact Nat.ne_of_gt (blk_lt (g := gb235) (o := .cells #[.slice Ao29 t231.length co29] 35 (0, 0)) (kx_ BK235.out)) : gb269 ≠ gb235))
              have n19_ := Aside0.mk ((by rw [hg]; exact Nat.ne_of_lt (blk_lt (g := gb239) (o := .cells #[.slice Ao35 t254.length co35] 35 (0, 0)) (kx_ BK239.out)) : gb239 ≠ gb269))
              have n20_ := Aside0.mk ((by rw [hg]; exact Nat.ne_of_gt (blk_lt (g := gb239) (o := .cells #[.slice Ao35 t254.length co35] 35 (0, 0)) (kx_ BK239.out)) : gb269 ≠ gb239))
              have n21_ := Aside0.mk ((by rw [hg]; exact Nat.ne_of_lt (blk_lt (g := gb247) (o := .cells #[.slice Ao46 t243.length co46] 35 (0, 0)) (kx_ BK247.out)) : gb247 ≠ gb269))
              have n22_ := Aside0.mk ((by rw [hg]; exact Nat.ne_of_gt (blk_lt (g := gb247) (o := .cells #[.slice Ao46 t243.length co46] 35 (0, 0)) (kx_ BK247.out)) : gb269 ≠ gb247))
              clear HO_236000
              clear HO_240000
              clear HO_248000
              clear HO261
              clear BK222
              clear BK223
              clear BK235
              clear BK239
              clear BK247
              clear HB
              have HO_236000 := n0_
              have HO_240000 := n1_
              have HO_248000 := n2_
              have HO261 := n3_
              have BK222 := n4_
              have BK223 := n5_
              have BK235 := n6_
              have BK239 := n7_
              have BK247 := n8_
              have HB := n9_
              have BK269 := n10_
              have GW269 := n11_
              have GE269 := n12_
              have NB222_269 := n13_
              have NB269_222 := n14_
              have NB223_269 := n15_
              have NB269_223 := n16_
              have NB235_269 := n17_
              have NB269_235 := n18_
              have NB239_269 := n19_
              have NB269_239 := n20_
              have NB247_269 := n21_
              have NB269_247 := n22_
              clear n0_ n1_ n2_ n3_ n4_ n5_ n6_ n7_ n8_ n9_ n10_ n11_ n12_ n13_ n14_ n15_ n16_ n17_ n18_ n19_ n20_ n21_ n22_
              clear hb hbox hg
              refine hK.out _ _ ⟨bc_ BK222 0, bc_ BK223 0, bc_ BK223 1, bc_ BK223 2⟩ (fun hHeld => ?_)
              clear hK K
              refine norm_ (a' := ?_) ?_ ?_
              rotate_left
              ·show Act.put _ (some 14) _ = _
               simp only [Act.put, sT, sZ, sS, i64_w, i32_w]
               rfl
              refine one_ (i := 3) (N := some 83) #[true, true, true, true, false, false, false, false, true, false, false] rfl rfl (one_of HT_.out (by kernel_rfl)) (by decide) (fun K hK => ?_)
              refine goes_ Try.func10 (by kernel_rfl) rfl #[.agg #[.int .i64 a1_0, .int .i64 a1_1, .int .i64 a1_2]] (by rfl) rfl rfl ar_ ?_
              with_reducible refine (laws_toClue.calls a1_0 a1_1 a1_2 t262 t263 t264 _ A123.out).mono ?_
              rintro e w137 ⟨rfl, hb⟩
              refine ⟨_, rfl, ?_⟩
              have n0_ := Aside0.mk (Kd.R_below (ra_ HO_236000.out) hb)
              have n1_ := Aside0.mk (Kd.R_below (ra_ HO_240000.out) hb)
              have n2_ := Aside0.mk (Kd.R_below (ra_ HO_248000.out) hb)
              have n3_ := Aside0.mk (Kd.R_below (ra_ HO261.out) hb)
              have n4_ := Aside0.mk (blk_below (g := gb222) (o := .cells #[.slice A0_0 l0_0.length c0_0] 30 (0, 0)) (kx_ BK222.out) hb)
              have n5_ := Aside0.mk (blk_below (g := gb223) (o := .cells #[.int .i64 a1_0, .int .i64 a1_1, .int .i64 a1_2] 23 (0, 0)) (kx_ BK223.out) hb)
              have n6_ := Aside0.mk (blk_below (g := gb235) (o := .cells #[.slice Ao29 t231.length co29] 35 (0, 0)) (kx_ BK235.out) hb)
              have n7_ := Aside0.mk (blk_below (g := gb239) (o := .cells #[.slice Ao35 t254.length co35] 35 (0, 0)) (kx_ BK239.out) hb)
              have n8_ := Aside0.mk (blk_below (g := gb247) (o := .cells #[.slice Ao46 t243.length co46] 35 (0, 0)) (kx_ BK247.out) hb)
              have n9_ := Aside0.mk (blk_below (g := gb269) (o := .cells #[.slice none 0 0] 35 (0, 0)) (kx_ BK269.out) hb)
              have n10_ := Aside0.mk (below_step (hm_) hb)
              clear HO_236000
              clear HO_240000
              clear HO_248000
              clear HO261
              clear BK222
              clear BK223
              clear BK235
              clear BK239
              clear BK247
              clear BK269
              clear HB
              have HO_236000 := n0_
              have HO_240000 := n1_
              have HO_248000 := n2_
              have HO261 := n3_
              have BK222 := n4_
              have BK223 := n5_
              have BK235 := n6_
              have BK239 := n7_
              have BK247 := n8_
              have BK269 := n9_
              have HB := n10_
              clear n0_ n1_ n2_ n3_ n4_ n5_ n6_ n7_ n8_ n9_ n10_
              (try clear hb)
              (try clear hb2)
              (try clear hk)
              (try clear hi)
              obtain ⟨Ao138, co138, eo138⟩ := Kd.R_slice HO261.out
              (first | subst eo138 | (injection eo138 with f1_ f2_ f3_; have f4_ := f1_.symm; have f5_ := f3_.symm; clear f1_ f2_ f3_; subst f4_; subst f5_))
              refine hK.out _ _ ⟨bc_ BK222 0, bc_ BK223 0, bc_ BK223 1, bc_ BK223 2⟩ (fun hHeld => ?_)
              clear hK K
              refine norm_ (a' := ?_) ?_ ?_
              rotate_left
              ·show Act.put _ (some 83) _ = _
               simp only [Act.put, sT, sZ, sS, i64_w, i32_w]
               rfl
              refine one_ (i := 4) (N := some 84) #[true, true, true, true, true, false, false, false, true, false, false] rfl rfl (one_of HT_.out (by kernel_rfl)) (by decide) (fun K hK => ?_)
              refine goes_ Try.func18 (by kernel_rfl) rfl #[.agg #[.slice Ao138 t259.length co138], .agg #[.int .i64 t262, .int .i64 t263, .int .i64 t264]] (by rfl) rfl rfl ar_ ?_
              with_reducible refine (impl_AddClue.calls _ _ t259 t262 t263 t264 t265 t268 _ ?side1 ?side2 A124.out).mono ?_
              (case side1 => repeat (first | exact (Kd.R_reads' HO261.out).2.2 | (with_reducible refine Kd.C_alloc ?_ _) | (with_reducible refine Kd.C_drewN ?_ _) | (with_reducible refine Kd.C_drew ?_)))
              (case side2 => exact (Kd.R_reads' HO261.out).2.1)
              rintro e w139 ⟨v266, rfl, ho0, hb⟩
              refine ⟨_, rfl, ?_⟩
              have n0_ := Aside0.mk (Kd.R_elder' (ra_ HO_236000.out) (Kd.R_base ho0) hb)
              have n1_ := Aside0.mk (Kd.R_elder' (ra_ HO_240000.out) (Kd.R_base ho0) hb)
              have n2_ := Aside0.mk (Kd.R_elder' (ra_ HO_248000.out) (Kd.R_base ho0) hb)
              have n3_ := Aside0.mk (Kd.R_elder' (ra_ HO261.out) (Kd.R_base ho0) hb)
              have n4_ := Aside0.mk (Kd.R_lower (Kd.R_new' (Kd.R_new' (Kd.R_new' (Kd.R_new' ho0 (Kd.R_lt (ra_ HO_236000.out))) (Kd.R_lt (ra_ HO_240000.out))) (Kd.R_lt (ra_ HO_248000.out))) (Kd.R_lt (ra_ HO261.out))) (below_size (hm_)))
              have n5_ := Aside0.mk (blk_below (g := gb222) (o := .cells #[.slice A0_0 l0_0.length c0_0] 30 (0, 0)) (kx_ BK222.out) hb)
              have n6_ := Aside0.mk (blk_below (g := gb223) (o := .cells #[.int .i64 a1_0, .int .i64 a1_1, .int .i64 a1_2] 23 (0, 0)) (kx_ BK223.out) hb)
              have n7_ := Aside0.mk (blk_below (g := gb235) (o := .cells #[.slice Ao29 t231.length co29] 35 (0, 0)) (kx_ BK235.out) hb)
              have n8_ := Aside0.mk (blk_below (g := gb239) (o := .cells #[.slice Ao35 t254.length co35] 35 (0, 0)) (kx_ BK239.out) hb)
              have n9_ := Aside0.mk (blk_below (g := gb247) (o := .cells #[.slice Ao46 t243.length co46] 35 (0, 0)) (kx_ BK247.out) hb)
              have n10_ := Aside0.mk (blk_below (g := gb269) (o := .cells #[.slice none 0 0] 35 (0, 0)) (kx_ BK269.out) hb)
              have n11_ := Aside0.mk (below_step (hm_) hb)
              clear HO_236000
              clear HO_240000
              clear HO_248000
              clear HO261
              clear BK222
              clear BK223
              clear BK235
              clear BK239
              clear BK247
              clear BK269
              clear HB
              have HO_236000 := n0_
              have HO_240000 := n1_
              have HO_248000 := n2_
              have HO261 := n3_
              have HO267 := n4_
              have BK222 := n5_
              have BK223 := n6_
              have BK235 := n7_
              have BK239 := n8_
              have BK247 := n9_
              have BK269 := n10_
              have HB := n11_
              clear n0_ n1_ n2_ n3_ n4_ n5_ n6_ n7_ n8_ n9_ n10_ n11_
              (try clear hb)
              (try clear hb2)
              (try clear hk)
              (try clear hi)
              (try clear ho0)
              refine hK.out _ _ ⟨bc_ BK222 0, bc_ BK223 0, bc_ BK223 1, bc_ BK223 2⟩ (fun hHeld => ?_)
              clear hK K
              refine norm_ (a' := ?_) ?_ ?_
              rotate_left
              ·show Act.put _ (some 84) _ = _
               simp only [Act.put, sT, sZ, sS, i64_w, i32_w]
               rfl
              refine pure_ (i := 5) (N := some 79) (v := ?_) (a' := ?_) #[true, true, true, true, true, true, false, false, true, false, false] rfl rfl (any_of HT_.out (by kernel_rfl)) (fun _ _ _ h => h) (Or.inl ⟨by rfl, ?_⟩) ?_ ?_
              rotate_left
              ·intro w'
               go_simp
               with_reducible rfl
              rotate_left
              ·simp only [Act.put, sT, sZ, sS, i64_w, i32_w]
               rfl
              refine pure_ (i := 6) (N := some 85) (v := ?_) (a' := ?_) #[true, true, true, true, true, true, true, false, true, false, false] rfl rfl (any_of HT_.out (by kernel_rfl)) (fun _ _ _ h => h) (Or.inl ⟨by rfl, ?_⟩) ?_ ?_
              rotate_left
              ·intro w'
               go_simp
               with_reducible rfl
              rotate_left
              ·simp only [Act.put, sT, sZ, sS, i64_w, i32_w]
               rfl
              refine pure_ (i := 7) (N := some 86) (v := ?_) (a' := ?_) #[true, true, true, true, true, true, true, true, true, false, false] rfl rfl (any_of HT_.out (by kernel_rfl)) (fun _ _ _ h => h) (Or.inl ⟨by rfl, ?_⟩) ?_ ?_
              rotate_left
              ·intro w'
               go_simp
               with_reducible rfl
              rotate_left
              ·simp only [Act.put, sT, sZ, sS, i64_w, i32_w]
               rfl
              exact norm_ (by simp only [putAll, Act.put, sT, sZ, sS]) (hCont (.slice Ao138 t259.length co138, v266, gb269) _ ⟨hHeld, (by (with_reducible repeat (first | apply rA | apply rN | apply rD)); exact Kd.R_mono HO261.out (fun _ hk => ⟨hk.2, ⟨hk.1.1.1.2, ⟨hk.1.1.2, hk.1.2⟩⟩⟩)), (by (with_reducible repeat (first | apply rA | apply rN | apply rD)); exact Kd.R_mono HO267.out (fun _ hk => ⟨hk.2, ⟨hk.1.1.1.2, ⟨hk.1.1.2, hk.1.2⟩⟩⟩)), (by (with_reducible repeat (first | apply rA | apply rN | apply rD)); exact Kd.R_mono HO_236000.out (fun _ hk => ⟨hk.1.2, ⟨hk.2, ⟨hk.1.1.1, hk.1.1.2⟩⟩⟩)), (by (with_reducible repeat (first | apply rA | apply rN | apply rD)); exact Kd.R_mono HO_240000.out (fun _ hk => ⟨hk.1.2, ⟨hk.2, ⟨hk.1.1.1, hk.1.1.2⟩⟩⟩)), (by (with_reducible repeat (first | apply rA | apply rN | apply rD)); exact Kd.R_mono HO_248000.out (fun _ hk => ⟨hk.1.2, ⟨hk.2, ⟨hk.1.1.1, hk.1.1.2⟩⟩⟩)), (kx_ BK222.out), (kx_ BK223.out), (kx_ BK235.out), (kx_ BK239.out), (kx_ BK247.out), (kx_ BK269.out), GW269.out, GE269.out, NB222_269.out, NB269_222.out, NB223_269.out, NB269_223.out, NB235_269.out, NB269_235.out, NB239_269.out, NB269_239.out, NB247_269.out, NB269_247.out, (hm_)⟩)
            ·skip
             refine box_step ?hg (N := 14) ?hd (cs := #[.slice none 0 0]) (t := 35) ?hr ?_; (case hd => rfl); (case hg => rfl); (case hr => first | (go_simp; done) | (go_simp; rfl))
             intro gb269 hg w135 hbox hb
             have n0_ := Aside0.mk (Kd.R_below (ra_ HO_236000.out) hb)
             have n1_ := Aside0.mk (Kd.R_below (ra_ HO_240000.out) hb)
             have n2_ := Aside0.mk (Kd.R_below (ra_ HO_248000.out) hb)
             have n3_ := Aside0.mk (blk_below (g := gb222) (o := .cells #[.slice A0_0 l0_0.length c0_0] 30 (0, 0)) (kx_ BK222.out) hb)
             have n4_ := Aside0.mk (blk_below (g := gb223) (o := .cells #[.int .i64 a1_0, .int .i64 a1_1, .int .i64 a1_2] 23 (0, 0)) (kx_ BK223.out) hb)
             have n5_ := Aside0.mk (blk_below (g := gb235) (o := .cells #[.slice Ao29 t231.length co29] 35 (0, 0)) (kx_ BK235.out) hb)
             have n6_ := Aside0.mk (blk_below (g := gb239) (o := .cells #[.slice Ao35 t254.length co35] 35 (0, 0)) (kx_ BK239.out) hb)
             have n7_ := Aside0.mk (blk_below (g := gb247) (o := .cells #[.slice Ao46 t243.length co46] 35 (0, 0)) (kx_ BK247.out) hb)
             have n8_ := Aside0.mk (below_step (hm_) hb)
             have n9_ := Aside0.mk (hbox)
             have n10_ := Aside0.mk ((by rw [hg]; exact (below_size (hm_)) : w.heap.size ≤ gb269))
             have n11_ := Aside0.mk ((by rw [hg]; exact (below_size (hm_)) : w.heap.size ≤ gb269))
             have n12_ := Aside0.mk ((by rw [hg]; exact Nat.ne_of_lt (blk_lt (g := gb222) (o := .cells #[.slice A0_0 l0_0.length c0_0] 30 (0, 0)) (kx_ BK222.out)) : gb222 ≠ gb269))
             have n13_ := Aside0.mk ((by rw [hg]; exact Nat.ne_of_gt (blk_lt (g := gb222) (o := .cells #[.slice A0_0 l0_0.length c0_0] 30 (0, 0)) (kx_ BK222.out)) : gb269 ≠ gb222))
             have n14_ := Aside0.mk ((by rw [hg]; exact Nat.ne_of_lt (blk_lt (g := gb223) (o := .cells #[.int .i64 a1_0, .int .i64 a1_1, .int .i64 a1_2] 23 (0, 0)) (kx_ BK223.out)) : gb223 ≠ gb269))
             have n15_ := Aside0.mk ((by rw [hg]; exact Nat.ne_of_gt (blk_lt (g := gb223) (o := .cells #[.int .i64 a1_0, .int .i64 a1_1, .int .i64 a1_2] 23 (0, 0)) (kx_ BK223.out)) : gb269 ≠ gb223))
             have n16_ := Aside0.mk ((by rw [hg]; exact Nat.ne_of_lt (blk_lt (g := gb235) (o := .cells #[.slice Ao29 t231.length co29] 35 (0, 0)) (kx_ BK235.out)) : gb235 ≠ gb269))
             have n17_ := Aside0.mk ((by rw [hg]; exact Nat.ne_of_gt (blk_lt (g := gb235) (o := .cells #[.slice Ao29 t231.length co29] 35 (0, 0)) (kx_ BK235.out)) : gb269 ≠ gb235))
             have n18_ := Aside0.mk ((by rw [hg]; exact Nat.ne_of_lt (blk_lt (g := gb239) (o := .cells #[.slice Ao35 t254.length co35] 35 (0, 0)) (kx_ BK239.out)) : gb239 ≠ gb269))
             have n19_ := Aside0.mk ((by rw [hg]; exact Nat.ne_of_gt (blk_lt (g := gb239) (o := .cells #[.slice Ao35 t254.length co35] 35 (0, 0)) (kx_ BK239.out)) : gb269 ≠ gb239))
             have n20_ := Aside0.mk ((by rw [hg]; exact Nat.ne_of_lt (blk_lt (g := gb247) (o := .cells #[.slice Ao46 t243.length co46] 35 (0, 0)) (kx_ BK247.out)) : gb247 ≠ gb269))
             have n21_ := Aside0.mk ((by rw [hg]; exact Nat.ne_of_gt (blk_lt (g := gb247) (o := .cells #[.slice Ao46 t243.length co46] 35 (0, 0)) (kx_ BK247.out)) : gb269 ≠ gb247))
             clear HO_236000
             clear HO_240000
             clear HO_248000
             clear BK222
             clear BK223
             clear BK235
             clear BK239
             clear BK247
             clear HB
             have HO_236000 := n0_
             have HO_240000 := n1_
             have HO_248000 := n2_
             have BK222 := n3_
             have BK223 := n4_
             have BK235 := n5_
             have BK239 := n6_
             have BK247 := n7_
             have HB := n8_
             have BK269 := n9_
             have GW269 := n10_
             have GE269 := n11_
             have NB222_269 := n12_
             have NB269_222 := n13_
             have NB223_269 := n14_
             have NB269_223 := n15_
             have NB235_269 := n16_
             have NB269_235 := n17_
             have NB239_269 := n18_
             have NB269_239 := n19_
             have NB247_269 := n20_
             have NB269_247 := n21_
             clear n0_ n1_ n2_ n3_ n4_ n5_ n6_ n7_ n8_ n9_ n10_ n11_ n12_ n13_ n14_ n15_ n16_ n17_ n18_ n19_ n20_ n21_
             clear hb hbox hg
             refine hK.out _ _ ⟨bc_ BK222 0, bc_ BK223 0, bc_ BK223 1, bc_ BK223 2⟩ (fun hHeld => ?_)
             clear hK K
             refine norm_ (a' := ?_) ?_ ?_
             rotate_left
             ·show Act.put _ (some 14) _ = _
              simp only [Act.put, sT, sZ, sS, i64_w, i32_w]
              rfl
             refine one_ (i := 1) (N := some 81) #[true, true, true, false, false, false, false, false, true, false, false] rfl rfl (one_of HT_.out (by kernel_rfl)) (by decide) (fun K hK => ?_)
             refine goes_ Try.func14 (by kernel_rfl) rfl #[.agg #[.slice A0_0 l0_0.length c0_0]] (by rfl) rfl rfl ar_ ?_
             with_reducible refine (laws_toPuzzle.calls kj74 _ _ l0_0 t259 _ ?side1 ?side2 A122.out).mono ?_
             (case side1 => repeat (first | exact (Kd.C_below HR0_0.out HB.out) | (with_reducible refine Kd.C_alloc ?_ _) | (with_reducible refine Kd.C_drewN ?_ _) | (with_reducible refine Kd.C_drew ?_)))
             (case side2 => exact HC0_0.out)
             rintro e w136 ⟨v260, rfl, ho0, hb⟩
             refine ⟨_, rfl, ?_⟩
             have n0_ := Aside0.mk (Kd.R_elder' (ra_ HO_236000.out) (Kd.R_base ho0) hb)
             have n1_ := Aside0.mk (Kd.R_elder' (ra_ HO_240000.out) (Kd.R_base ho0) hb)
             have n2_ := Aside0.mk (Kd.R_elder' (ra_ HO_248000.out) (Kd.R_base ho0) hb)
             have n3_ := Aside0.mk (Kd.R_lower (Kd.R_new' (Kd.R_new' (Kd.R_new' ho0 (Kd.R_lt (ra_ HO_236000.out))) (Kd.R_lt (ra_ HO_240000.out))) (Kd.R_lt (ra_ HO_248000.out))) (below_size (hm_)))
             have n4_ := Aside0.mk (blk_below (g := gb222) (o := .cells #[.slice A0_0 l0_0.length c0_0] 30 (0, 0)) (kx_ BK222.out) hb)
             have n5_ := Aside0.mk (blk_below (g := gb223) (o := .cells #[.int .i64 a1_0, .int .i64 a1_1, .int .i64 a1_2] 23 (0, 0)) (kx_ BK223.out) hb)
             have n6_ := Aside0.mk (blk_below (g := gb235) (o := .cells #[.slice Ao29 t231.length co29] 35 (0, 0)) (kx_ BK235.out) hb)
             have n7_ := Aside0.mk (blk_below (g := gb239) (o := .cells #[.slice Ao35 t254.length co35] 35 (0, 0)) (kx_ BK239.out) hb)
             have n8_ := Aside0.mk (blk_below (g := gb247) (o := .cells #[.slice Ao46 t243.length co46] 35 (0, 0)) (kx_ BK247.out) hb)
             have n9_ := Aside0.mk (blk_below (g := gb269) (o := .cells #[.slice none 0 0] 35 (0, 0)) (kx_ BK269.out) hb)
             have n10_ := Aside0.mk (below_step (hm_) hb)
             clear HO_236000
             clear HO_240000
             clear HO_248000
             clear BK222
             clear BK223
             clear BK235
             clear BK239
             clear BK247
             clear BK269
             clear HB
             have HO_236000 := n0_
             have HO_240000 := n1_
             have HO_248000 := n2_
             have HO261 := n3_
             have BK222 := n4_
             have BK223 := n5_
             have BK235 := n6_
             have BK239 := n7_
             have BK247 := n8_
             have BK269 := n9_
             have HB := n10_
             clear n0_ n1_ n2_ n3_ n4_ n5_ n6_ n7_ n8_ n9_ n10_
             (try clear hb)
             (try clear hb2)
             (try clear hk)
             (try clear hi)
             (try clear ho0)
             refine hK.out _ _ ⟨bc_ BK222 0, bc_ BK223 0, bc_ BK223 1, bc_ BK223 2⟩ (fun hHeld => ?_)
             clear hK K
             refine norm_ (a' := ?_) ?_ ?_
             rotate_left
             ·show Act.put _ (some 81) _ = _
              simp only [Act.put, sT, sZ, sS, i64_w, i32_w]
              rfl
             refine one_ (i := 3) (N := some 83) #[true, true, true, true, false, false, false, false, true, false, false] rfl rfl (one_of HT_.out (by kernel_rfl)) (by decide) (fun K hK => ?_)
             refine goes_ Try.func10 (by kernel_rfl) rfl #[.agg #[.int .i64 a1_0, .int .i64 a1_1, .int .i64 a1_2]] (by rfl) rfl rfl ar_ ?_
             with_reducible refine (laws_toClue.calls a1_0 a1_1 a1_2 t262 t263 t264 _ A123.out).mono ?_
             rintro e w137 ⟨rfl, hb⟩
             refine ⟨_, rfl, ?_⟩
             have n0_ := Aside0.mk (Kd.R_below (ra_ HO_236000.out) hb)
             have n1_ := Aside0.mk (Kd.R_below (ra_ HO_240000.out) hb)
             have n2_ := Aside0.mk (Kd.R_below (ra_ HO_248000.out) hb)
             have n3_ := Aside0.mk (Kd.R_below (ra_ HO261.out) hb)
             have n4_ := Aside0.mk (blk_below (g := gb222) (o := .cells #[.slice A0_0 l0_0.length c0_0] 30 (0, 0)) (kx_ BK222.out) hb)
             have n5_ := Aside0.mk (blk_below (g := gb223) (o := .cells #[.int .i64 a1_0, .int .i64 a1_1, .int .i64 a1_2] 23 (0, 0)) (kx_ BK223.out) hb)
             have n6_ := Aside0.mk (blk_below (g := gb235) (o := .cells #[.slice Ao29 t231.length co29] 35 (0, 0)) (kx_ BK235.out) hb)
             have n7_ := Aside0.mk (blk_below (g := gb239) (o := .cells #[.slice Ao35 t254.length co35] 35 (0, 0)) (kx_ BK239.out) hb)
             have n8_ := Aside0.mk (blk_below (g := gb247) (o := .cells #[.slice Ao46 t243.length co46] 35 (0, 0)) (kx_ BK247.out) hb)
             have n9_ := Aside0.mk (blk_below (g := gb269) (o := .cells #[.slice none 0 0] 35 (0, 0)) (kx_ BK269.out) hb)
             have n10_ := Aside0.mk (below_step (hm_) hb)
             clear HO_236000
             clear HO_240000
             clear HO_248000
             clear HO261
             clear BK222
             clear BK223
             clear BK235
             clear BK239
             clear BK247
             clear BK269
             clear HB
             have HO_236000 := n0_
             have HO_240000 := n1_
             have HO_248000 := n2_
             have HO261 := n3_
             have BK222 := n4_
             have BK223 := n5_
             have BK235 := n6_
             have BK239 := n7_
             have BK247 := n8_
             have BK269 := n9_
             have HB := n10_
             clear n0_ n1_ n2_ n3_ n4_ n5_ n6_ n7_ n8_ n9_ n10_
             (try clear hb)
             (try clear hb2)
             (try clear hk)
             (try clear hi)
             obtain ⟨Ao138, co138, eo138⟩ := Kd.R_slice HO261.out
             (first | subst eo138 | (injection eo138 with f1_ f2_ f3_; have f4_ := f1_.symm; have f5_ := f3_.symm; clear f1_ f2_ f3_; subst f4_; subst f5_))
             refine hK.out _ _ ⟨bc_ BK222 0, bc_ BK223 0, bc_ BK223 1, bc_ BK223 2⟩ (fun hHeld => ?_)
             clear hK K
             refine norm_ (a' := ?_) ?_ ?_
             rotate_left
             ·show Act.put _ (some 83) _ = _
              simp only [Act.put, sT, sZ, sS, i64_w, i32_w]
              rfl
             refine one_ (i := 4) (N := some 84) #[true, true, true, true, true, false, false, false, true, false, false] rfl rfl (one_of HT_.out (by kernel_rfl)) (by decide) (fun K hK => ?_)
             refine goes_ Try.func18 (by kernel_rfl) rfl #[.agg #[.slice Ao138 t259.length co138], .agg #[.int .i64 t262, .int .i64 t263, .int .i64 t264]] (by rfl) rfl rfl ar_ ?_
             with_reducible refine (impl_AddClue.calls _ _ t259 t262 t263 t264 t265 t268 _ ?side1 ?side2 A124.out).mono ?_
             (case side1 => repeat (first | exact (Kd.R_reads' HO261.out).2.2 | (with_reducible refine Kd.C_alloc ?_ _) | (with_reducible refine Kd.C_drewN ?_ _) | (with_reducible refine Kd.C_drew ?_)))
             (case side2 => exact (Kd.R_reads' HO261.out).2.1)
             rintro e w139 ⟨v266, rfl, ho0, hb⟩
             refine ⟨_, rfl, ?_⟩
             have n0_ := Aside0.mk (Kd.R_elder' (ra_ HO_236000.out) (Kd.R_base ho0) hb)
             have n1_ := Aside0.mk (Kd.R_elder' (ra_ HO_240000.out) (Kd.R_base ho0) hb)
             have n2_ := Aside0.mk (Kd.R_elder' (ra_ HO_248000.out) (Kd.R_base ho0) hb)
             have n3_ := Aside0.mk (Kd.R_elder' (ra_ HO261.out) (Kd.R_base ho0) hb)
             have n4_ := Aside0.mk (Kd.R_lower (Kd.R_new' (Kd.R_new' (Kd.R_new' (Kd.R_new' ho0 (Kd.R_lt (ra_ HO_236000.out))) (Kd.R_lt (ra_ HO_240000.out))) (Kd.R_lt (ra_ HO_248000.out))) (Kd.R_lt (ra_ HO261.out))) (below_size (hm_)))
             have n5_ := Aside0.mk (blk_below (g := gb222) (o := .cells #[.slice A0_0 l0_0.length c0_0] 30 (0, 0)) (kx_ BK222.out) hb)
             have n6_ := Aside0.mk (blk_below (g := gb223) (o := .cells #[.int .i64 a1_0, .int .i64 a1_1, .int .i64 a1_2] 23 (0, 0)) (kx_ BK223.out) hb)
             have n7_ := Aside0.mk (blk_below (g := gb235) (o := .cells #[.slice Ao29 t231.length co29] 35 (0, 0)) (kx_ BK235.out) hb)
             have n8_ := Aside0.mk (blk_below (g := gb239) (o := .cells #[.slice Ao35 t254.length co35] 35 (0, 0)) (kx_ BK239.out) hb)
             have n9_ := Aside0.mk (blk_below (g := gb247) (o := .cells #[.slice Ao46 t243.length co46] 35 (0, 0)) (kx_ BK247.out) hb)
             have n10_ := Aside0.mk (blk_below (g := gb269) (o := .cells #[.slice none 0 0] 35 (0, 0)) (kx_ BK269.out) hb)
             have n11_ := Aside0.mk (below_step (hm_) hb)
             clear HO_236000
             clear HO_240000
             clear HO_248000
             clear HO261
             clear BK222
             clear BK223
             clear BK235
             clear BK239
             clear BK247
             clear BK269
             clear HB
             have HO_236000 := n0_
             have HO_240000 := n1_
             have HO_248000 := n2_
             have HO261 := n3_
             have HO267 := n4_
             have BK222 := n5_
             have BK223 := n6_
             have BK235 := n7_
             have BK239 := n8_
             have BK247 := n9_
             have BK269 := n10_
             have HB := n11_
             clear n0_ n1_ n2_ n3_ n4_ n5_ n6_ n7_ n8_ n9_ n10_ n11_
             (try clear hb)
             (try clear hb2)
             (try clear hk)
             (try clear hi)
             (try clear ho0)
             refine hK.out _ _ ⟨bc_ BK222 0, bc_ BK223 0, bc_ BK223 1, bc_ BK223 2⟩ (fun hHeld => ?_)
             clear hK K
             refine norm_ (a' := ?_) ?_ ?_
             rotate_left
             ·show Act.put _ (some 84) _ = _
              simp only [Act.put, sT, sZ, sS, i64_w, i32_w]
              rfl
             refine pure_ (i := 5) (N := some 79) (v := ?_) (a' := ?_) #[true, true, true, true, true, true, false, false, true, false, false] rfl rfl (any_of HT_.out (by kernel_rfl)) (fun _ _ _ h => h) (Or.inl ⟨by rfl, ?_⟩) ?_ ?_
             rotate_left
             ·intro w'
              go_simp
              with_reducible rfl
             rotate_left
             ·simp only [Act.put, sT, sZ, sS, i64_w, i32_w]
              rfl
             refine pure_ (i := 6) (N := some 85) (v := ?_) (a' := ?_) #[true, true, true, true, true, true, true, false, true, false, false] rfl rfl (any_of HT_.out (by kernel_rfl)) (fun _ _ _ h => h) (Or.inl ⟨by rfl, ?_⟩) ?_ ?_
             rotate_left
             ·intro w'
              go_simp
              with_reducible rfl
             rotate_left
             ·simp only [Act.put, sT, sZ, sS, i64_w, i32_w]
              rfl
             refine pure_ (i := 7) (N := some 86) (v := ?_) (a' := ?_) #[true, true, true, true, true, true, true, true, true, false, false] rfl rfl (any_of HT_.out (by kernel_rfl)) (fun _ _ _ h => h) (Or.inl ⟨by rfl, ?_⟩) ?_ ?_
             rotate_left
             ·intro w'
              go_simp
              with_reducible rfl
             rotate_left
             ·simp only [Act.put, sT, sZ, sS, i64_w, i32_w]
              rfl
             exact norm_ (by simp only [putAll, Act.put, sT, sZ, sS]) (hCont (.slice Ao138 t259.length co138, v266, gb269) _ ⟨hHeld, (by (with_reducible repeat (first | apply rA | apply rN | apply rD)); exact Kd.R_mono HO261.out (fun _ hk => ⟨hk.2, ⟨hk.1.1.1.2, ⟨hk.1.1.2, hk.1.2⟩⟩⟩)), (by (with_reducible repeat (first | apply rA | apply rN | apply rD)); exact Kd.R_mono HO267.out (fun _ hk => ⟨hk.2, ⟨hk.1.1.1.2, ⟨hk.1.1.2, hk.1.2⟩⟩⟩)), (by (with_reducible repeat (first | apply rA | apply rN | apply rD)); exact Kd.R_mono HO_236000.out (fun _ hk => ⟨hk.1.2, ⟨hk.2, ⟨hk.1.1.1, hk.1.1.2⟩⟩⟩)), (by (with_reducible repeat (first | apply rA | apply rN | apply rD)); exact Kd.R_mono HO_240000.out (fun _ hk => ⟨hk.1.2, ⟨hk.2, ⟨hk.1.1.1, hk.1.1.2⟩⟩⟩)), (by (with_reducible repeat (first | apply rA | apply rN | apply rD)); exact Kd.R_mono HO_248000.out (fun _ hk => ⟨hk.1.2, ⟨hk.2, ⟨hk.1.1.1, hk.1.1.2⟩⟩⟩)), (kx_ BK222.out), (kx_ BK223.out), (kx_ BK235.out), (kx_ BK239.out), (kx_ BK247.out), (kx_ BK269.out), GW269.out, GE269.out, NB222_269.out, NB269_222.out, NB223_269.out, NB269_223.out, NB235_269.out, NB269_235.out, NB239_269.out, NB269_239.out, NB247_269.out, NB269_247.out, (hm_)⟩)
           rintro ⟨v260, v266, gb269⟩ w140 ⟨hS_, h0_, h1_, h2_, h3_, h4_, h5_, h6_, h7_, h8_, h9_, h10_, h11_, h12_, h13_, h14_, h15_, h16_, h17_, h18_, h19_, h20_, h21_, h22_, h23_⟩
           have n0_ : Aside0 (Kd.R k25 25 w140 w.heap.size (fun k_ => some k_ ≠ (v266 : Value).ownBlock ∧ some k_ ≠ (.slice Ao29 t231.length co29 : Value).ownBlock ∧ some k_ ≠ (.slice Ao35 t254.length co35 : Value).ownBlock ∧ some k_ ≠ (.slice Ao46 t243.length co46 : Value).ownBlock) v260 t259) := ⟨h0_⟩
           have n1_ : Aside0 (Kd.R k25 25 w140 w.heap.size (fun k_ => some k_ ≠ (v260 : Value).ownBlock ∧ some k_ ≠ (.slice Ao29 t231.length co29 : Value).ownBlock ∧ some k_ ≠ (.slice Ao35 t254.length co35 : Value).ownBlock ∧ some k_ ≠ (.slice Ao46 t243.length co46 : Value).ownBlock) v266 t265) := ⟨h1_⟩
           have n2_ : Aside0 (Kd.R k25 25 w140 w.heap.size (fun k_ => some k_ ≠ (v260 : Value).ownBlock ∧ some k_ ≠ (v266 : Value).ownBlock ∧ some k_ ≠ (.slice Ao35 t254.length co35 : Value).ownBlock ∧ some k_ ≠ (.slice Ao46 t243.length co46 : Value).ownBlock) (.slice Ao29 t231.length co29) t231) := ⟨h2_⟩
           have n3_ : Aside0 (Kd.R k25 25 w140 w.heap.size (fun k_ => some k_ ≠ (v260 : Value).ownBlock ∧ some k_ ≠ (v266 : Value).ownBlock ∧ some k_ ≠ (.slice Ao29 t231.length co29 : Value).ownBlock ∧ some k_ ≠ (.slice Ao46 t243.length co46 : Value).ownBlock) (.slice Ao35 t254.length co35) t254) := ⟨h3_⟩
           have n4_ : Aside0 (Kd.R k25 25 w140 w.heap.size (fun k_ => some k_ ≠ (v260 : Value).ownBlock ∧ some k_ ≠ (v266 : Value).ownBlock ∧ some k_ ≠ (.slice Ao29 t231.length co29 : Value).ownBlock ∧ some k_ ≠ (.slice Ao35 t254.length co35 : Value).ownBlock) (.slice Ao46 t243.length co46) t257) := ⟨h4_⟩
           have n5_ : Aside0 (w140.heap[gb222]? = some (.cells #[.slice A0_0 l0_0.length c0_0] 30 (0, 0))) := ⟨h5_⟩
           have n6_ : Aside0 (w140.heap[gb223]? = some (.cells #[.int .i64 a1_0, .int .i64 a1_1, .int .i64 a1_2] 23 (0, 0))) := ⟨h6_⟩
           have n7_ : Aside0 (w140.heap[gb235]? = some (.cells #[.slice Ao29 t231.length co29] 35 (0, 0))) := ⟨h7_⟩
           have n8_ : Aside0 (w140.heap[gb239]? = some (.cells #[.slice Ao35 t254.length co35] 35 (0, 0))) := ⟨h8_⟩
           have n9_ : Aside0 (w140.heap[gb247]? = some (.cells #[.slice Ao46 t243.length co46] 35 (0, 0))) := ⟨h9_⟩
           have n10_ : Aside0 (w140.heap[gb269]? = some (.cells #[.slice none 0 0] 35 (0, 0))) := ⟨h10_⟩
           have n11_ : Aside0 (w.heap.size ≤ gb269) := ⟨h11_⟩
           have n12_ : Aside0 (w.heap.size ≤ gb269) := ⟨h12_⟩
           have n13_ : Aside0 (gb222 ≠ gb269) := ⟨h13_⟩
           have n14_ : Aside0 (gb269 ≠ gb222) := ⟨h14_⟩
           have n15_ : Aside0 (gb223 ≠ gb269) := ⟨h15_⟩
           have n16_ : Aside0 (gb269 ≠ gb223) := ⟨h16_⟩
           have n17_ : Aside0 (gb235 ≠ gb269) := ⟨h17_⟩
           have n18_ : Aside0 (gb269 ≠ gb235) := ⟨h18_⟩
           have n19_ : Aside0 (gb239 ≠ gb269) := ⟨h19_⟩
           have n20_ : Aside0 (gb269 ≠ gb239) := ⟨h20_⟩
           have n21_ : Aside0 (gb247 ≠ gb269) := ⟨h21_⟩
           have n22_ : Aside0 (gb269 ≠ gb247) := ⟨h22_⟩
           have n23_ : Aside0 (Below w.heap.size w w140) := ⟨h23_⟩
           clear HO_236000
           clear HO_240000
           clear HO_248000
           clear BK222
           clear BK223
           clear BK235
           clear BK239
           clear BK247
           clear HB
           clear h0_ h1_ h2_ h3_ h4_ h5_ h6_ h7_ h8_ h9_ h10_ h11_ h12_ h13_ h14_ h15_ h16_ h17_ h18_ h19_ h20_ h21_ h22_ h23_
           have HO261 := n0_
           have HO267 := n1_
           have HO_236000 := n2_
           have HO_240000 := n3_
           have HO_248000 := n4_
           have BK222 := n5_
           have BK223 := n6_
           have BK235 := n7_
           have BK239 := n8_
           have BK247 := n9_
           have BK269 := n10_
           have GW269 := n11_
           have GE269 := n12_
           have NB222_269 := n13_
           have NB269_222 := n14_
           have NB223_269 := n15_
           have NB269_223 := n16_
           have NB235_269 := n17_
           have NB269_235 := n18_
           have NB239_269 := n19_
           have NB269_239 := n20_
           have NB247_269 := n21_
           have NB269_247 := n22_
           have HB := n23_
           clear n0_ n1_ n2_ n3_ n4_ n5_ n6_ n7_ n8_ n9_ n10_ n11_ n12_ n13_ n14_ n15_ n16_ n17_ n18_ n19_ n20_ n21_ n22_ n23_
           have hHeld : w140.cell? ⟨gb222, 0, none⟩ = some (.slice A0_0 l0_0.length c0_0) ∧ w140.cell? ⟨gb223, 0, none⟩ = some (.int .i64 a1_0) ∧ w140.cell? ⟨gb223, 1, none⟩ = some (.int .i64 a1_1) ∧ w140.cell? ⟨gb223, 2, none⟩ = some (.int .i64 a1_2) := hS_
           obtain ⟨Ao141, co141, eo141⟩ := Kd.R_slice HO267.out
           (first | subst eo141 | (injection eo141 with f1_ f2_ f3_; have f4_ := f1_.symm; have f5_ := f3_.symm; clear f1_ f2_ f3_; subst f4_; subst f5_))
           refine norm_ (a' := ?_) ?_ ?_
           rotate_left
           ·simp only [putAll, Act.put, sT, sZ, sS]
            rfl
           refine one_ (i := 9) (N := none) #[true, true, true, true, true, true, true, true, true, true, false] rfl rfl (one_of HT_.out (by kernel_rfl)) (by decide) (fun K hK => ?_)
           have hs142 : w140.cell? ⟨gb269, 0, none⟩ = some (.slice none 0 0) := bc_ BK269 0
           have hfs142 := blk_frozen BK269.out 0
           have hns142_0 := NB222_269.out
           have hns142_1 := NB223_269.out
           have hns142_2 := NB235_269.out
           have hns142_3 := NB239_269.out
           have hns142_4 := NB247_269.out
           have hms142_0 := NB269_222.out
           have hms142_1 := NB269_223.out
           have hms142_2 := NB269_235.out
           have hms142_3 := NB269_239.out
           have hms142_4 := NB269_247.out
           refine skip_ (w1 := ?_) (by rfl) rfl ?_ ?_
           rotate_left
           ·go_simp
            rfl
           refine hK.out _ _ ⟨((cell_far (p := ⟨gb269, _, none⟩) NB222_269.out _).trans (hHeld.1)), ((cell_far (p := ⟨gb269, _, none⟩) NB223_269.out _).trans (hHeld.2.1)), ((cell_far (p := ⟨gb269, _, none⟩) NB223_269.out _).trans (hHeld.2.2.1)), ((cell_far (p := ⟨gb269, _, none⟩) NB223_269.out _).trans (hHeld.2.2.2))⟩ (fun hHeld => ?_)
           clear hK K
           refine pure_ (i := 10) (N := some 15) (v := ?_) (a' := ?_) #[true, true, true, true, true, true, true, true, true, true, true] rfl rfl (any_of HT_.out (by kernel_rfl)) (fun _ _ _ h => h) (Or.inl ⟨by rfl, ?_⟩) ?_ ?_
           rotate_left
           ·intro w'
            go_simp
            with_reducible rfl
           rotate_left
           ·simp only [Act.put, sT, sZ, sS, i64_w, i32_w]
            rfl
           refine done_ (done_of HT_.out (by kernel_rfl)) ?_
           go_upto_region 25 with (fail)
           go_cut [95] (fun v95 wc => ∃ (kq : Nat) (x95_124 : Bool), v95 = .bool x95_124 ∧ Aside0 (laws_FnExactAddClue.j2 kq t256 x95_124 t257 = some r) ∧ Aside0 (kq ≤ kj74) ∧ Aside0 (Kd.R k25 25 wc w.heap.size (fun k_ => some k_ ≠ ((.slice Ao35 t254.length co35) : Value).ownBlock ∧ some k_ ≠ ((.slice Ao46 t243.length co46) : Value).ownBlock ∧ some k_ ≠ ((.slice Ao141 t265.length co141) : Value).ownBlock) (.slice Ao29 t231.length co29) t231) ∧ Aside0 (Kd.R k25 25 wc w.heap.size (fun k_ => some k_ ≠ ((.slice Ao29 t231.length co29) : Value).ownBlock ∧ some k_ ≠ ((.slice Ao46 t243.length co46) : Value).ownBlock ∧ some k_ ≠ ((.slice Ao141 t265.length co141) : Value).ownBlock) (.slice Ao35 t254.length co35) t254) ∧ Aside0 (Kd.R k25 25 wc w.heap.size (fun k_ => some k_ ≠ ((.slice Ao29 t231.length co29) : Value).ownBlock ∧ some k_ ≠ ((.slice Ao35 t254.length co35) : Value).ownBlock ∧ some k_ ≠ ((.slice Ao141 t265.length co141) : Value).ownBlock) (.slice Ao46 t243.length co46) t257) ∧ Aside0 (Kd.R k25 25 wc w.heap.size (fun k_ => some k_ ≠ ((.slice Ao29 t231.length co29) : Value).ownBlock ∧ some k_ ≠ ((.slice Ao35 t254.length co35) : Value).ownBlock ∧ some k_ ≠ ((.slice Ao46 t243.length co46) : Value).ownBlock) (.slice Ao141 t265.length co141) t265) ∧ Aside0 (wc.heap[gb222]? = some (.cells #[(.slice A0_0 l0_0.length c0_0)] 30 (0, 0))) ∧ Aside0 (wc.heap[gb223]? = some (.cells #[.int .i64 a1_0, .int .i64 a1_1, .int .i64 a1_2] 23 (0, 0))) ∧ Aside0 (wc.heap[gb235]? = some (.cells #[(.slice Ao29 t231.length co29)] 35 (0, 0))) ∧ Aside0 (wc.heap[gb239]? = some (.cells #[(.slice Ao35 t254.length co35)] 35 (0, 0))) ∧ Aside0 (wc.heap[gb247]? = some (.cells #[(.slice Ao46 t243.length co46)] 35 (0, 0))) ∧ Aside0 (wc.heap[gb269]? = some (.cells #[(.slice Ao141 t265.length co141)] 35 (0, 0))) ∧ Aside0 (Below w.heap.size w wc))
           case first =>
            have H := HC125.out
            clear HC125
            replace H := bI H
            obtain ⟨t270, A1430, H⟩ := H
            replace H : (if t270 = true then (laws_FnExactAddClue.j2 kj74 t256 (t268 != t234) t257) else (laws_FnExactAddClue.j2 kj74 t256 true t257)) = some r := H
            have A143 := Aside0.mk A1430
            clear A1430
            by_cases c144 : t270 = true
            ·subst c144
             have H1 : (laws_FnExactAddClue.j2 kj74 t256 (t268 != t234) t257) = some r := by rw [if_pos rfl] at H; exact H
             clear H
             have H := H1
             clear H1
             have H' := Aside0.mk H
             clear H
             have hnb145 := NB269_222.out
             have hnc145 := NB222_269.out
             have hnb146 := NB269_223.out
             have hnc146 := NB223_269.out
             have hnb147 := NB269_235.out
             have hnc147 := NB235_269.out
             have hnb148 := NB269_239.out
             have hnc148 := NB239_269.out
             have hnb149 := NB269_247.out
             have hnc149 := NB247_269.out
             have hcz150_0 : w140.cell? ⟨gb269, 0, none⟩ = some (.slice none 0 0) := bc_ BK269 0
             have hfz150_0 := blk_frozen BK269.out 0
             have hnb151 := NB235_222.out
             have hnc151 := NB222_235.out
             have hnb152 := NB235_223.out
             have hnc152 := NB223_235.out
             have hnb153 := NB235_239.out
             have hnc153 := NB239_235.out
             have hnb154 := NB235_247.out
             have hnc154 := NB247_235.out
             have hcz155_0 : w140.cell? ⟨gb235, 0, none⟩ = some (.slice Ao29 t231.length co29) := bc_ BK235 0
             have hfz155_0 := blk_frozen BK235.out 0
             go_wp2_with (first | ((with_reducible refine gate_callee (f := 16) rfl ?_); refine goesL_ (some 89) rfl rfl Try.func16 (by kernel_rfl) rfl #[.agg #[.slice Ao141 t265.length co141], .agg #[.slice Ao29 t231.length co29]] rfl ar_ ?_; (with_reducible refine (laws_eqPuzzle.calls kj74 _ _ t265 _ _ t231 true _ ?side1 ?side2 ?side3 ?side4 A143.out).mono ?_); (case side1 => refine (Kd.R_reads' (e := 25) (base := w.heap.size) (ok := fun k_ => (some k_ ≠ (v260 : Value).ownBlock ∧ (some k_ ≠ (.slice Ao29 t231.length co29 : Value).ownBlock ∧ (some k_ ≠ (.slice Ao35 t254.length co35 : Value).ownBlock ∧ some k_ ≠ (.slice Ao46 t243.length co46 : Value).ownBlock)))) (n := t265.length) (c := co141) ?_).2.2; exact (by (with_reducible repeat (first | apply rA | apply rN | apply rD)); exact (Kd.R_mono (Kd.R_far (p := ⟨gb269, 0, none⟩) (Kd.R_types HO267.out BK269.out (by decide)) (fun _ hk => hk.2) (.slice Ao141 t265.length co141)) (fun _ h_ => h_.1)))); (case side2 => exact (Kd.R_reads' HO267.out).2.1); (case side3 => refine (Kd.R_reads' (e := 25) (base := w.heap.size) (ok := fun k_ => (some k_ ≠ (v260 : Value).ownBlock ∧ (some k_ ≠ (.slice Ao141 t265.length co141 : Value).ownBlock ∧ (some k_ ≠ (.slice Ao35 t254.length co35 : Value).ownBlock ∧ some k_ ≠ (.slice Ao46 t243.length co46 : Value).ownBlock)))) (n := t231.length) (c := co29) ?_).2.2; exact (by (with_reducible repeat (first | apply rA | apply rN | apply rD)); exact (Kd.R_mono (Kd.R_far (p := ⟨gb269, 0, none⟩) (Kd.R_types HO_236000.out BK269.out (by decide)) (fun _ hk => hk.2) (.slice Ao141 t265.length co141)) (fun _ h_ => h_.1)))); (case side4 => exact (Kd.R_reads' HO_236000.out).2.1); rintro e w156 ⟨rfl, hb⟩; refine ⟨_, rfl, ?_⟩; have n0_ := Aside0.mk (Kd.R_below (by (with_reducible repeat (first | apply rA | apply rN | apply rD)); exact (Kd.R_mono (Kd.R_far (p := ⟨gb269, 0, none⟩) (Kd.R_types HO_236000.out BK269.out (by decide)) (fun _ hk => hk.2) (.slice Ao141 t265.length co141)) (fun _ h_ => h_.1))) hb); have n1_ := Aside0.mk (Kd.R_below (by (with_reducible repeat (first | apply rA | apply rN | apply rD)); exact (Kd.R_mono (Kd.R_far (p := ⟨gb269, 0, none⟩) (Kd.R_types HO_240000.out BK269.out (by decide)) (fun _ hk => hk.2) (.slice Ao141 t265.length co141)) (fun _ h_ => h_.1))) hb); have n2_ := Aside0.mk (Kd.R_below (by (with_reducible repeat (first | apply rA | apply rN | apply rD)); exact (Kd.R_mono (Kd.R_far (p := ⟨gb269, 0, none⟩) (Kd.R_types HO_248000.out BK269.out (by decide)) (fun _ hk => hk.2) (.slice Ao141 t265.length co141)) (fun _ h_ => h_.1))) hb); have n3_ := Aside0.mk (Kd.R_below (by (with_reducible repeat (first | apply rA | apply rN | apply rD)); exact (Kd.R_mono (Kd.R_far (p := ⟨gb269, 0, none⟩) (Kd.R_types HO261.out BK269.out (by decide)) (fun _ hk => hk.2) (.slice Ao141 t265.length co141)) (fun _ h_ => h_.1))) hb); have n4_ := Aside0.mk (Kd.R_below (by (with_reducible repeat (first | apply rA | apply rN | apply rD)); exact (Kd.R_mono (Kd.R_far (p := ⟨gb269, 0, none⟩) (Kd.R_types HO267.out BK269.out (by decide)) (fun _ hk => hk.2) (.slice Ao141 t265.length co141)) (fun _ h_ => h_.1))) hb); have n5_ := Aside0.mk (blk_below (g := gb222) (o := .cells #[.slice A0_0 l0_0.length c0_0] 30 (0, 0)) (by (with_reducible repeat (first | refine kN ?_ _ | refine kD ?_ | refine kA ?_ _)); refine blk_far ?_ NB222_269.out _; (with_reducible repeat (first | refine kN ?_ _ | refine kD ?_ | refine kA ?_ _)); exact BK222.out) hb); have n6_ := Aside0.mk (blk_below (g := gb223) (o := .cells #[.int .i64 a1_0, .int .i64 a1_1, .int .i64 a1_2] 23 (0, 0)) (by (with_reducible repeat (first | refine kN ?_ _ | refine kD ?_ | refine kA ?_ _)); refine blk_far ?_ NB223_269.out _; (with_reducible repeat (first | refine kN ?_ _ | refine kD ?_ | refine kA ?_ _)); exact BK223.out) hb); have n7_ := Aside0.mk (blk_below (g := gb235) (o := .cells #[.slice Ao29 t231.length co29] 35 (0, 0)) (by (with_reducible repeat (first | refine kN ?_ _ | refine kD ?_ | refine kA ?_ _)); refine blk_far ?_ NB235_269.out _; (with_reducible repeat (first | refine kN ?_ _ | refine kD ?_ | refine kA ?_ _)); exact BK235.out) hb); have n8_ := Aside0.mk (blk_below (g := gb239) (o := .cells #[.slice Ao35 t254.length co35] 35 (0, 0)) (by (with_reducible repeat (first | refine kN ?_ _ | refine kD ?_ | refine kA ?_ _)); refine blk_far ?_ NB239_269.out _; (with_reducible repeat (first | refine kN ?_ _ | refine kD ?_ | refine kA ?_ _)); exact BK239.out) hb); have n9_ := Aside0.mk (blk_below (g := gb247) (o := .cells #[.slice Ao46 t243.length co46] 35 (0, 0)) (by (with_reducible repeat (first | refine kN ?_ _ | refine kD ?_ | refine kA ?_ _)); refine blk_far ?_ NB247_269.out _; (with_reducible repeat (first | refine kN ?_ _ | refine kD ?_ | refine kA ?_ _)); exact BK247.out) hb); have n10_ := Aside0.mk (blk_below (g := gb269) (o := .cells #[.slice Ao141 t265.length co141] 35 (0, 0)) (by (with_reducible repeat (first | refine kN ?_ _ | refine kD ?_ | refine kA ?_ _)); refine blk_put (cs := #[.slice none 0 0]) ?_ 0 _ rfl; (with_reducible repeat (first | refine kN ?_ _ | refine kD ?_ | refine kA ?_ _)); exact BK269.out) hb); have n11_ := Aside0.mk (below_step (hm_) hb); clear HO_236000; clear HO_240000; clear HO_248000; clear HO261; clear HO267; clear BK222; clear BK223; clear BK235; clear BK239; clear BK247; clear BK269; clear HB; have HO_236000 := n0_; have HO_240000 := n1_; have HO_248000 := n2_; have HO261 := n3_; have HO267 := n4_; have BK222 := n5_; have BK223 := n6_; have BK235 := n7_; have BK239 := n8_; have BK247 := n9_; have BK269 := n10_; have HB := n11_; clear n0_ n1_ n2_ n3_ n4_ n5_ n6_ n7_ n8_ n9_ n10_ n11_; (try clear hb); (try clear hb2); (try clear hk); (try clear hi)))
             go_meet
             case rel => exact ⟨_, ((t268 != t234)), (by first | rfl | (simp; done) | (simp [*]; done)), H', ⟨by have := HJ15.out; have := HJ74.out; first | omega | exact Nat.le_refl _⟩, ⟨by (try simp only [hl240000_74]); (with_reducible repeat (first | apply rA | apply rN | apply rD)); exact Kd.R_mono HO_236000.out (fun _ hk => ⟨hk.2.2.1, ⟨hk.2.2.2, hk.2.1⟩⟩)⟩, ⟨by (try simp only [hl240000_74]); (with_reducible repeat (first | apply rA | apply rN | apply rD)); exact Kd.R_mono HO_240000.out (fun _ hk => ⟨hk.2.2.1, ⟨hk.2.2.2, hk.2.1⟩⟩)⟩, ⟨by (try simp only [hl240000_74]); (with_reducible repeat (first | apply rA | apply rN | apply rD)); exact Kd.R_mono HO_248000.out (fun _ hk => ⟨hk.2.2.1, ⟨hk.2.2.2, hk.2.1⟩⟩)⟩, ⟨by (try simp only [hl240000_74]); (with_reducible repeat (first | apply rA | apply rN | apply rD)); exact Kd.R_mono HO267.out (fun _ hk => ⟨hk.2.1, ⟨hk.2.2.1, hk.2.2.2⟩⟩)⟩, ⟨by (try simp only [hl240000_74]); (with_reducible repeat (first | refine kN ?_ _ | refine kD ?_ | refine kA ?_ _)); exact BK222.out⟩, ⟨by (try simp only [hl240000_74]); (with_reducible repeat (first | refine kN ?_ _ | refine kD ?_ | refine kA ?_ _)); exact BK223.out⟩, ⟨by (try simp only [hl240000_74]); (with_reducible repeat (first | refine kN ?_ _ | refine kD ?_ | refine kA ?_ _)); exact BK235.out⟩, ⟨by (try simp only [hl240000_74]); (with_reducible repeat (first | refine kN ?_ _ | refine kD ?_ | refine kA ?_ _)); exact BK239.out⟩, ⟨by (try simp only [hl240000_74]); (with_reducible repeat (first | refine kN ?_ _ | refine kD ?_ | refine kA ?_ _)); exact BK247.out⟩, ⟨by (try simp only [hl240000_74]); (with_reducible repeat (first | refine kN ?_ _ | refine kD ?_ | refine kA ?_ _)); exact BK269.out⟩, ⟨hm_⟩⟩
            ·replace c144 := Bool.eq_false_iff.mpr c144
             subst c144
             have H1 : (laws_FnExactAddClue.j2 kj74 t256 true t257) = some r := by rw [if_neg (show ¬ (false = true) by decide)] at H; exact H
             clear H
             have H := H1
             clear H1
             have H' := Aside0.mk H
             clear H
             have hnb157 := NB269_222.out
             have hnc157 := NB222_269.out
             have hnb158 := NB269_223.out
             have hnc158 := NB223_269.out
             have hnb159 := NB269_235.out
             have hnc159 := NB235_269.out
             have hnb160 := NB269_239.out
             have hnc160 := NB239_269.out
             have hnb161 := NB269_247.out
             have hnc161 := NB247_269.out
             have hcz162_0 : w140.cell? ⟨gb269, 0, none⟩ = some (.slice none 0 0) := bc_ BK269 0
             have hfz162_0 := blk_frozen BK269.out 0
             have hnb163 := NB235_222.out
             have hnc163 := NB222_235.out
             have hnb164 := NB235_223.out
             have hnc164 := NB223_235.out
             have hnb165 := NB235_239.out
             have hnc165 := NB239_235.out
             have hnb166 := NB235_247.out
             have hnc166 := NB247_235.out
             have hcz167_0 : w140.cell? ⟨gb235, 0, none⟩ = some (.slice Ao29 t231.length co29) := bc_ BK235 0
             have hfz167_0 := blk_frozen BK235.out 0
             go_wp2_with (first | ((with_reducible refine gate_callee (f := 16) rfl ?_); refine goesL_ (some 89) rfl rfl Try.func16 (by kernel_rfl) rfl #[.agg #[.slice Ao141 t265.length co141], .agg #[.slice Ao29 t231.length co29]] rfl ar_ ?_; (with_reducible refine (laws_eqPuzzle.calls kj74 _ _ t265 _ _ t231 false _ ?side1 ?side2 ?side3 ?side4 A143.out).mono ?_); (case side1 => refine (Kd.R_reads' (e := 25) (base := w.heap.size) (ok := fun k_ => (some k_ ≠ (v260 : Value).ownBlock ∧ (some k_ ≠ (.slice Ao29 t231.length co29 : Value).ownBlock ∧ (some k_ ≠ (.slice Ao35 t254.length co35 : Value).ownBlock ∧ some k_ ≠ (.slice Ao46 t243.length co46 : Value).ownBlock)))) (n := t265.length) (c := co141) ?_).2.2; exact (by (with_reducible repeat (first | apply rA | apply rN | apply rD)); exact (Kd.R_mono (Kd.R_far (p := ⟨gb269, 0, none⟩) (Kd.R_types HO267.out BK269.out (by decide)) (fun _ hk => hk.2) (.slice Ao141 t265.length co141)) (fun _ h_ => h_.1)))); (case side2 => exact (Kd.R_reads' HO267.out).2.1); (case side3 => refine (Kd.R_reads' (e := 25) (base := w.heap.size) (ok := fun k_ => (some k_ ≠ (v260 : Value).ownBlock ∧ (some k_ ≠ (.slice Ao141 t265.length co141 : Value).ownBlock ∧ (some k_ ≠ (.slice Ao35 t254.length co35 : Value).ownBlock ∧ some k_ ≠ (.slice Ao46 t243.length co46 : Value).ownBlock)))) (n := t231.length) (c := co29) ?_).2.2; exact (by (with_reducible repeat (first | apply rA | apply rN | apply rD)); exact (Kd.R_mono (Kd.R_far (p := ⟨gb269, 0, none⟩) (Kd.R_types HO_236000.out BK269.out (by decide)) (fun _ hk => hk.2) (.slice Ao141 t265.length co141)) (fun _ h_ => h_.1)))); (case side4 => exact (Kd.R_reads' HO_236000.out).2.1); rintro e w168 ⟨rfl, hb⟩; refine ⟨_, rfl, ?_⟩; have n0_ := Aside0.mk (Kd.R_below (by (with_reducible repeat (first | apply rA | apply rN | apply rD)); exact (Kd.R_mono (Kd.R_far (p := ⟨gb269, 0, none⟩) (Kd.R_types HO_236000.out BK269.out (by decide)) (fun _ hk => hk.2) (.slice Ao141 t265.length co141)) (fun _ h_ => h_.1))) hb); have n1_ := Aside0.mk (Kd.R_below (by (with_reducible repeat (first | apply rA | apply rN | apply rD)); exact (Kd.R_mono (Kd.R_far (p := ⟨gb269, 0, none⟩) (Kd.R_types HO_240000.out BK269.out (by decide)) (fun _ hk => hk.2) (.slice Ao141 t265.length co141)) (fun _ h_ => h_.1))) hb); have n2_ := Aside0.mk (Kd.R_below (by (with_reducible repeat (first | apply rA | apply rN | apply rD)); exact (Kd.R_mono (Kd.R_far (p := ⟨gb269, 0, none⟩) (Kd.R_types HO_248000.out BK269.out (by decide)) (fun _ hk => hk.2) (.slice Ao141 t265.length co141)) (fun _ h_ => h_.1))) hb); have n3_ := Aside0.mk (Kd.R_below (by (with_reducible repeat (first | apply rA | apply rN | apply rD)); exact (Kd.R_mono (Kd.R_far (p := ⟨gb269, 0, none⟩) (Kd.R_types HO261.out BK269.out (by decide)) (fun _ hk => hk.2) (.slice Ao141 t265.length co141)) (fun _ h_ => h_.1))) hb); have n4_ := Aside0.mk (Kd.R_below (by (with_reducible repeat (first | apply rA | apply rN | apply rD)); exact (Kd.R_mono (Kd.R_far (p := ⟨gb269, 0, none⟩) (Kd.R_types HO267.out BK269.out (by decide)) (fun _ hk => hk.2) (.slice Ao141 t265.length co141)) (fun _ h_ => h_.1))) hb); have n5_ := Aside0.mk (blk_below (g := gb222) (o := .cells #[.slice A0_0 l0_0.length c0_0] 30 (0, 0)) (by (with_reducible repeat (first | refine kN ?_ _ | refine kD ?_ | refine kA ?_ _)); refine blk_far ?_ NB222_269.out _; (with_reducible repeat (first | refine kN ?_ _ | refine kD ?_ | refine kA ?_ _)); exact BK222.out) hb); have n6_ := Aside0.mk (blk_below (g := gb223) (o := .cells #[.int .i64 a1_0, .int .i64 a1_1, .int .i64 a1_2] 23 (0, 0)) (by (with_reducible repeat (first | refine kN ?_ _ | refine kD ?_ | refine kA ?_ _)); refine blk_far ?_ NB223_269.out _; (with_reducible repeat (first | refine kN ?_ _ | refine kD ?_ | refine kA ?_ _)); exact BK223.out) hb); have n7_ := Aside0.mk (blk_below (g := gb235) (o := .cells #[.slice Ao29 t231.length co29] 35 (0, 0)) (by (with_reducible repeat (first | refine kN ?_ _ | refine kD ?_ | refine kA ?_ _)); refine blk_far ?_ NB235_269.out _; (with_reducible repeat (first | refine kN ?_ _ | refine kD ?_ | refine kA ?_ _)); exact BK235.out) hb); have n8_ := Aside0.mk (blk_below (g := gb239) (o := .cells #[.slice Ao35 t254.length co35] 35 (0, 0)) (by (with_reducible repeat (first | refine kN ?_ _ | refine kD ?_ | refine kA ?_ _)); refine blk_far ?_ NB239_269.out _; (with_reducible repeat (first | refine kN ?_ _ | refine kD ?_ | refine kA ?_ _)); exact BK239.out) hb); have n9_ := Aside0.mk (blk_below (g := gb247) (o := .cells #[.slice Ao46 t243.length co46] 35 (0, 0)) (by (with_reducible repeat (first | refine kN ?_ _ | refine kD ?_ | refine kA ?_ _)); refine blk_far ?_ NB247_269.out _; (with_reducible repeat (first | refine kN ?_ _ | refine kD ?_ | refine kA ?_ _)); exact BK247.out) hb); have n10_ := Aside0.mk (blk_below (g := gb269) (o := .cells #[.slice Ao141 t265.length co141] 35 (0, 0)) (by (with_reducible repeat (first | refine kN ?_ _ | refine kD ?_ | refine kA ?_ _)); refine blk_put (cs := #[.slice none 0 0]) ?_ 0 _ rfl; (with_reducible repeat (first | refine kN ?_ _ | refine kD ?_ | refine kA ?_ _)); exact BK269.out) hb); have n11_ := Aside0.mk (below_step (hm_) hb); clear HO_236000; clear HO_240000; clear HO_248000; clear HO261; clear HO267; clear BK222; clear BK223; clear BK235; clear BK239; clear BK247; clear BK269; clear HB; have HO_236000 := n0_; have HO_240000 := n1_; have HO_248000 := n2_; have HO261 := n3_; have HO267 := n4_; have BK222 := n5_; have BK223 := n6_; have BK235 := n7_; have BK239 := n8_; have BK247 := n9_; have BK269 := n10_; have HB := n11_; clear n0_ n1_ n2_ n3_ n4_ n5_ n6_ n7_ n8_ n9_ n10_ n11_; (try clear hb); (try clear hb2); (try clear hk); (try clear hi)))
             go_meet
             case rel => exact ⟨_, (true), (by first | rfl | (simp; done) | (simp [*]; done)), H', ⟨by have := HJ15.out; have := HJ74.out; first | omega | exact Nat.le_refl _⟩, ⟨by (try simp only [hl240000_74]); (with_reducible repeat (first | apply rA | apply rN | apply rD)); exact Kd.R_mono HO_236000.out (fun _ hk => ⟨hk.2.2.1, ⟨hk.2.2.2, hk.2.1⟩⟩)⟩, ⟨by (try simp only [hl240000_74]); (with_reducible repeat (first | apply rA | apply rN | apply rD)); exact Kd.R_mono HO_240000.out (fun _ hk => ⟨hk.2.2.1, ⟨hk.2.2.2, hk.2.1⟩⟩)⟩, ⟨by (try simp only [hl240000_74]); (with_reducible repeat (first | apply rA | apply rN | apply rD)); exact Kd.R_mono HO_248000.out (fun _ hk => ⟨hk.2.2.1, ⟨hk.2.2.2, hk.2.1⟩⟩)⟩, ⟨by (try simp only [hl240000_74]); (with_reducible repeat (first | apply rA | apply rN | apply rD)); exact Kd.R_mono HO267.out (fun _ hk => ⟨hk.2.1, ⟨hk.2.2.1, hk.2.2.2⟩⟩)⟩, ⟨by (try simp only [hl240000_74]); (with_reducible repeat (first | refine kN ?_ _ | refine kD ?_ | refine kA ?_ _)); exact BK222.out⟩, ⟨by (try simp only [hl240000_74]); (with_reducible repeat (first | refine kN ?_ _ | refine kD ?_ | refine kA ?_ _)); exact BK223.out⟩, ⟨by (try simp only [hl240000_74]); (with_reducible repeat (first | refine kN ?_ _ | refine kD ?_ | refine kA ?_ _)); exact BK235.out⟩, ⟨by (try simp only [hl240000_74]); (with_reducible repeat (first | refine kN ?_ _ | refine kD ?_ | refine kA ?_ _)); exact BK239.out⟩, ⟨by (try simp only [hl240000_74]); (with_reducible repeat (first | refine kN ?_ _ | refine kD ?_ | refine kA ?_ _)); exact BK247.out⟩, ⟨by (try simp only [hl240000_74]); (with_reducible repeat (first | refine kN ?_ _ | refine kD ?_ | refine kA ?_ _)); exact BK269.out⟩, ⟨hm_⟩⟩
           case rest =>
            clear HC125
            try clear c1
            try clear p2
            try clear c10
            try clear c14
            try clear c15
            try clear c16
            try clear c18
            try clear c144
            try clear c145
            try clear c146
            try clear c147
            try clear c148
            try clear c149
            try clear c151
            try clear c152
            try clear c153
            try clear c154
            try clear c157
            try clear c158
            try clear c159
            try clear c160
            try clear c161
            try clear c163
            try clear c164
            try clear c165
            try clear c166
            try clear hcz150_0
            try clear hcz155_0
            try clear hcz162_0
            try clear hcz167_0
            try clear hfz150_0
            try clear hfz155_0
            try clear hfz162_0
            try clear hfz167_0
            obtain ⟨kq, x95_124, rfl, HA, HJ124, HO_236000, HO_240000, HO_248000, HO_270000, BK222, BK223, BK235, BK239, BK247, BK269, HB⟩ := hcut
            have hl248000_124 := (Kd.R_reads' HO_248000.out).1
            rw [hl248000_124] at HO_248000
            (try simp only [hl248000_124])
            (try simp only [hl248000_124] at BK222)
            (try simp only [hl248000_124] at BK223)
            (try simp only [hl248000_124] at BK235)
            (try simp only [hl248000_124] at BK239)
            (try simp only [hl248000_124] at BK247)
            (try simp only [hl248000_124] at BK269)
            (try simp only [hl248000_124] at HO_236000)
            (try simp only [hl248000_124] at HO_240000)
            (try simp only [hl248000_124] at HO_270000)
            cases kq with
            | zero => exact absurd HA.out (by simp [laws_FnExactAddClue.j2])
            | succ kj124 =>
             have H := HA.out
             clear HA
             simp only [laws_FnExactAddClue.j2] at H
             by_cases c169 : x95_124 = true
             ·subst c169
              have H1 : (some false) = some r := by rw [if_pos rfl] at H; exact H
              clear H
              have H := H1
              clear H1
              obtain rfl := oI H
              go_wp2
              go_ret
              exact ⟨by first | rfl | (simp [errW_none, errW_some] <;> rfl) | (simp [*, errW_none, errW_some] <;> rfl), hm_⟩
             ·replace c169 := Bool.eq_false_iff.mpr c169
              subst c169
              have H1 : ((laws_heldPuzzle.f kj124 t257 1).bind fun t271 => (if t271 < 0 then (some false) else (if t271 = t256 then (some true) else (some false)))) = some r := by rw [if_neg (show ¬ (false = true) by decide)] at H; exact H
              clear H
              have H := H1
              clear H1
              replace H := bI H
              obtain ⟨t271, A1700, H⟩ := H
              replace H : (if t271 < 0 then (some false) else (if t271 = t256 then (some true) else (some false))) = some r := H
              have A170 := Aside0.mk A1700
              clear A1700
              by_cases c171 : t271 < 0
              ·rw [if_pos c171] at H
               have c171b0 : decide (t271 < 0) = true := decide_eq_true c171
               clear c171
               obtain rfl := oI H
               have hnb172 := NB247_222.out
               have hnc172 := NB222_247.out
               have hnb173 := NB247_223.out
               have hnc173 := NB223_247.out
               have hnb174 := NB247_235.out
               have hnc174 := NB235_247.out
               have hnb175 := NB247_239.out
               have hnc175 := NB239_247.out
               have hnb176 := NB247_269.out
               have hnc176 := NB269_247.out
               have hcz177_0 : wc.cell? ⟨gb247, 0, none⟩ = some (.slice Ao46 t257.length co46) := bc_ BK247 0
               have hfz177_0 := blk_frozen BK247.out 0
               go_wp2_with (first | ((with_reducible refine gate_callee (f := 20) rfl ?_); refine goesL_ (some 98) rfl rfl Try.func20 (by kernel_rfl) rfl #[.agg #[.slice Ao46 t257.length co46], .int .i64 1] rfl ar_ ?_; (with_reducible refine (laws_heldPuzzle.calls kj124 _ _ t257 1 t271 _ ?side1 ?side2 A170.out).mono ?_); (case side1 => repeat (first | exact (Kd.R_reads' HO_248000.out).2.2 | (with_reducible refine Kd.C_alloc ?_ _) | (with_reducible refine Kd.C_drewN ?_ _) | (with_reducible refine Kd.C_drew ?_))); (case side2 => exact (Kd.R_reads' HO_248000.out).2.1); rintro e w178 ⟨rfl, hb⟩; refine ⟨_, rfl, ?_⟩; have n0_ := Aside0.mk (Kd.R_below (ra_ HO_236000.out) hb); have n1_ := Aside0.mk (Kd.R_below (ra_ HO_240000.out) hb); have n2_ := Aside0.mk (Kd.R_below (ra_ HO_248000.out) hb); have n3_ := Aside0.mk (Kd.R_below (ra_ HO_270000.out) hb); have n4_ := Aside0.mk (blk_below (g := gb222) (o := .cells #[.slice A0_0 l0_0.length c0_0] 30 (0, 0)) (kx_ BK222.out) hb); have n5_ := Aside0.mk (blk_below (g := gb223) (o := .cells #[.int .i64 a1_0, .int .i64 a1_1, .int .i64 a1_2] 23 (0, 0)) (kx_ BK223.out) hb); have n6_ := Aside0.mk (blk_below (g := gb235) (o := .cells #[.slice Ao29 t231.length co29] 35 (0, 0)) (kx_ BK235.out) hb); have n7_ := Aside0.mk (blk_below (g := gb239) (o := .cells #[.slice Ao35 t254.length co35] 35 (0, 0)) (kx_ BK239.out) hb); have n8_ := Aside0.mk (blk_below (g := gb247) (o := .cells #[.slice Ao46 t257.length co46] 35 (0, 0)) (kx_ BK247.out) hb); have n9_ := Aside0.mk (blk_below (g := gb269) (o := .cells #[.slice Ao141 t265.length co141] 35 (0, 0)) (kx_ BK269.out) hb); have n10_ := Aside0.mk (below_step (hm_) hb); clear HO_236000; clear HO_240000; clear HO_248000; clear HO_270000; clear BK222; clear BK223; clear BK235; clear BK239; clear BK247; clear BK269; clear HB; have HO_236000 := n0_; have HO_240000 := n1_; have HO_248000 := n2_; have HO_270000 := n3_; have BK222 := n4_; have BK223 := n5_; have BK235 := n6_; have BK239 := n7_; have BK247 := n8_; have BK269 := n9_; have HB := n10_; clear n0_ n1_ n2_ n3_ n4_ n5_ n6_ n7_ n8_ n9_ n10_; (try clear hb); (try clear hb2); (try clear hk); (try clear hi)))
               go_ret
               exact ⟨by first | rfl | (simp [errW_none, errW_some] <;> rfl) | (simp [*, errW_none, errW_some] <;> rfl), hm_⟩
              ·rw [if_neg c171] at H
               have c171b0 : decide (t271 < 0) = false := decide_eq_false c171
               clear c171
               by_cases c179 : t271 = t256
               ·rw [if_pos c179] at H
                have c179b0 : (t271 == t256) = true := beq_iff_eq.mpr c179
                have c179b1 : (t271 != t256) = false := bne_eq_false_iff_eq.mpr c179
                clear c179
                obtain rfl := oI H
                have hnb180 := NB247_222.out
                have hnc180 := NB222_247.out
                have hnb181 := NB247_223.out
                have hnc181 := NB223_247.out
                have hnb182 := NB247_235.out
                have hnc182 := NB235_247.out
                have hnb183 := NB247_239.out
                have hnc183 := NB239_247.out
                have hnb184 := NB247_269.out
                have hnc184 := NB269_247.out
                have hcz185_0 : wc.cell? ⟨gb247, 0, none⟩ = some (.slice Ao46 t257.length co46) := bc_ BK247 0
                have hfz185_0 := blk_frozen BK247.out 0
                go_wp2_with (first | ((with_reducible refine gate_callee (f := 20) rfl ?_); refine goesL_ (some 98) rfl rfl Try.func20 (by kernel_rfl) rfl #[.agg #[.slice Ao46 t257.length co46], .int .i64 1] rfl ar_ ?_; (with_reducible refine (laws_heldPuzzle.calls kj124 _ _ t257 1 t271 _ ?side1 ?side2 A170.out).mono ?_); (case side1 => repeat (first | exact (Kd.R_reads' HO_248000.out).2.2 | (with_reducible refine Kd.C_alloc ?_ _) | (with_reducible refine Kd.C_drewN ?_ _) | (with_reducible refine Kd.C_drew ?_))); (case side2 => exact (Kd.R_reads' HO_248000.out).2.1); rintro e w186 ⟨rfl, hb⟩; refine ⟨_, rfl, ?_⟩; have n0_ := Aside0.mk (Kd.R_below (ra_ HO_236000.out) hb); have n1_ := Aside0.mk (Kd.R_below (ra_ HO_240000.out) hb); have n2_ := Aside0.mk (Kd.R_below (ra_ HO_248000.out) hb); have n3_ := Aside0.mk (Kd.R_below (ra_ HO_270000.out) hb); have n4_ := Aside0.mk (blk_below (g := gb222) (o := .cells #[.slice A0_0 l0_0.length c0_0] 30 (0, 0)) (kx_ BK222.out) hb); have n5_ := Aside0.mk (blk_below (g := gb223) (o := .cells #[.int .i64 a1_0, .int .i64 a1_1, .int .i64 a1_2] 23 (0, 0)) (kx_ BK223.out) hb); have n6_ := Aside0.mk (blk_below (g := gb235) (o := .cells #[.slice Ao29 t231.length co29] 35 (0, 0)) (kx_ BK235.out) hb); have n7_ := Aside0.mk (blk_below (g := gb239) (o := .cells #[.slice Ao35 t254.length co35] 35 (0, 0)) (kx_ BK239.out) hb); have n8_ := Aside0.mk (blk_below (g := gb247) (o := .cells #[.slice Ao46 t257.length co46] 35 (0, 0)) (kx_ BK247.out) hb); have n9_ := Aside0.mk (blk_below (g := gb269) (o := .cells #[.slice Ao141 t265.length co141] 35 (0, 0)) (kx_ BK269.out) hb); have n10_ := Aside0.mk (below_step (hm_) hb); clear HO_236000; clear HO_240000; clear HO_248000; clear HO_270000; clear BK222; clear BK223; clear BK235; clear BK239; clear BK247; clear BK269; clear HB; have HO_236000 := n0_; have HO_240000 := n1_; have HO_248000 := n2_; have HO_270000 := n3_; have BK222 := n4_; have BK223 := n5_; have BK235 := n6_; have BK239 := n7_; have BK247 := n8_; have BK269 := n9_; have HB := n10_; clear n0_ n1_ n2_ n3_ n4_ n5_ n6_ n7_ n8_ n9_ n10_; (try clear hb); (try clear hb2); (try clear hk); (try clear hi)))
                go_ret
                exact ⟨by first | rfl | (simp [errW_none, errW_some] <;> rfl) | (simp [*, errW_none, errW_some] <;> rfl), hm_⟩
               ·rw [if_neg c179] at H
                have c179b0 : (t271 == t256) = false := beq_eq_false_iff_ne.mpr c179
                have c179b1 : (t271 != t256) = true := bne_iff_ne.mpr c179
                obtain rfl := oI H
                have hnb187 := NB247_222.out
                have hnc187 := NB222_247.out
                have hnb188 := NB247_223.out
                have hnc188 := NB223_247.out
                have hnb189 := NB247_235.out
                have hnc189 := NB235_247.out
                have hnb190 := NB247_239.out
                have hnc190 := NB239_247.out
                have hnb191 := NB247_269.out
                have hnc191 := NB269_247.out
                have hcz192_0 : wc.cell? ⟨gb247, 0, none⟩ = some (.slice Ao46 t257.length co46) := bc_ BK247 0
                have hfz192_0 := blk_frozen BK247.out 0
                go_wp2_with (first | ((with_reducible refine gate_callee (f := 20) rfl ?_); refine goesL_ (some 98) rfl rfl Try.func20 (by kernel_rfl) rfl #[.agg #[.slice Ao46 t257.length co46], .int .i64 1] rfl ar_ ?_; (with_reducible refine (laws_heldPuzzle.calls kj124 _ _ t257 1 t271 _ ?side1 ?side2 A170.out).mono ?_); (case side1 => repeat (first | exact (Kd.R_reads' HO_248000.out).2.2 | (with_reducible refine Kd.C_alloc ?_ _) | (with_reducible refine Kd.C_drewN ?_ _) | (with_reducible refine Kd.C_drew ?_))); (case side2 => exact (Kd.R_reads' HO_248000.out).2.1); rintro e w193 ⟨rfl, hb⟩; refine ⟨_, rfl, ?_⟩; have n0_ := Aside0.mk (Kd.R_below (ra_ HO_236000.out) hb); have n1_ := Aside0.mk (Kd.R_below (ra_ HO_240000.out) hb); have n2_ := Aside0.mk (Kd.R_below (ra_ HO_248000.out) hb); have n3_ := Aside0.mk (Kd.R_below (ra_ HO_270000.out) hb); have n4_ := Aside0.mk (blk_below (g := gb222) (o := .cells #[.slice A0_0 l0_0.length c0_0] 30 (0, 0)) (kx_ BK222.out) hb); have n5_ := Aside0.mk (blk_below (g := gb223) (o := .cells #[.int .i64 a1_0, .int .i64 a1_1, .int .i64 a1_2] 23 (0, 0)) (kx_ BK223.out) hb); have n6_ := Aside0.mk (blk_below (g := gb235) (o := .cells #[.slice Ao29 t231.length co29] 35 (0, 0)) (kx_ BK235.out) hb); have n7_ := Aside0.mk (blk_below (g := gb239) (o := .cells #[.slice Ao35 t254.length co35] 35 (0, 0)) (kx_ BK239.out) hb); have n8_ := Aside0.mk (blk_below (g := gb247) (o := .cells #[.slice Ao46 t257.length co46] 35 (0, 0)) (kx_ BK247.out) hb); have n9_ := Aside0.mk (blk_below (g := gb269) (o := .cells #[.slice Ao141 t265.length co141] 35 (0, 0)) (kx_ BK269.out) hb); have n10_ := Aside0.mk (below_step (hm_) hb); clear HO_236000; clear HO_240000; clear HO_248000; clear HO_270000; clear BK222; clear BK223; clear BK235; clear BK239; clear BK247; clear BK269; clear HB; have HO_236000 := n0_; have HO_240000 := n1_; have HO_248000 := n2_; have HO_270000 := n3_; have BK222 := n4_; have BK223 := n5_; have BK235 := n6_; have BK239 := n7_; have BK247 := n8_; have BK269 := n9_; have HB := n10_; clear n0_ n1_ n2_ n3_ n4_ n5_ n6_ n7_ n8_ n9_ n10_; (try clear hb); (try clear hb2); (try clear hk); (try clear hi)))
                go_ret
                exact ⟨by first | rfl | (simp [errW_none, errW_some] <;> rfl) | (simp [*, errW_none, errW_some] <;> rfl), hm_⟩
          ·rw [if_neg c121] at H
           have c121b0 : (t258 == t256) = false := beq_eq_false_iff_ne.mpr c121
           have c121b1 : (t258 != t256) = true := bne_iff_ne.mpr c121
           obtain rfl := oI H
           have hnb194 := NB247_222.out
           have hnc194 := NB222_247.out
           have hnb195 := NB247_223.out
           have hnc195 := NB223_247.out
           have hnb196 := NB247_235.out
           have hnc196 := NB235_247.out
           have hnb197 := NB247_239.out
           have hnc197 := NB239_247.out
           have hcz198_0 : wc.cell? ⟨gb247, 0, none⟩ = some (.slice Ao46 t243.length co46) := bc_ BK247 0
           have hfz198_0 := blk_frozen BK247.out 0
           go_wp2_with (first | ((with_reducible refine gate_callee (f := 19) rfl ?_); refine goesL_ (some 70) rfl rfl Try.func19 (by kernel_rfl) rfl #[.agg #[.slice Ao46 t243.length co46], .int .i64 1] rfl ar_ ?_; (with_reducible refine (laws_markPuzzle.calls kj74 (fun k_ => some k_ = (.slice Ao46 t243.length co46 : Value).ownBlock) (.slice Ao46 t243.length co46) t243 1 t256 t257 w _ ?side1 ?side2 A110.out).mono ?_); (case side1 => repeat (first | (with_reducible first | exact HB.out | apply bA | apply bN | apply bD | refine below_set ?_ GE222.out | refine below_set ?_ GE223.out | refine below_set ?_ GE235.out | refine below_set ?_ GE239.out | refine below_set ?_ GE247.out) | exact HB.out)); (case side2 => exact Kd.R_tight rfl HO_248000.out); rintro e w199 ⟨rfl, hy0, hb, hkp⟩; refine ⟨_, rfl, ?_⟩; have n0_ := Aside0.mk (Kd.R_mono (ok' := fun k_ => some k_ ≠ (.slice Ao35 t254.length co35 : Value).ownBlock ∧ some k_ ≠ (.slice Ao46 t243.length co46 : Value).ownBlock) (Kd.R_keptB (HO_236000.out) hkp (fun k_ hk_ hs_ => (hk_.2) hs_)) (fun k_ hk_ => ⟨hk_.1.1, hk_.1.2⟩)); have n1_ := Aside0.mk (Kd.R_mono (ok' := fun k_ => some k_ ≠ (.slice Ao29 t231.length co29 : Value).ownBlock ∧ some k_ ≠ (.slice Ao46 t243.length co46 : Value).ownBlock) (Kd.R_keptB (HO_240000.out) hkp (fun k_ hk_ hs_ => (hk_.2) hs_)) (fun k_ hk_ => ⟨hk_.1.1, hk_.1.2⟩)); have n2_ := Aside0.mk (Kd.R_reok rfl hy0 (fun k_ e_ => HO_248000.out.1 k_ e_)); have n3_ := Aside0.mk (blk_kept (kx_ BK222.out) hkp (fun hs_ => (fun e_ => (Kd.R_ne HO_248000.out BK222.out (by decide)) e_) hs_)); have n4_ := Aside0.mk (blk_kept (kx_ BK223.out) hkp (fun hs_ => (fun e_ => (Kd.R_ne HO_248000.out BK223.out (by decide)) e_) hs_)); have n5_ := Aside0.mk (blk_kept (kx_ BK235.out) hkp (fun hs_ => (fun e_ => (Kd.R_ne HO_248000.out BK235.out (by decide)) e_) hs_)); have n6_ := Aside0.mk (blk_kept (kx_ BK239.out) hkp (fun hs_ => (fun e_ => (Kd.R_ne HO_248000.out BK239.out (by decide)) e_) hs_)); have n7_ := Aside0.mk (blk_kept (kx_ BK247.out) hkp (fun hs_ => (fun e_ => (Kd.R_ne HO_248000.out BK247.out (by decide)) e_) hs_)); have n8_ := Aside0.mk (hb); clear HO_236000; clear HO_240000; clear HO_248000; clear BK222; clear BK223; clear BK235; clear BK239; clear BK247; clear HB; have HO_236000 := n0_; have HO_240000 := n1_; have HO_248000 := n2_; have BK222 := n3_; have BK223 := n4_; have BK235 := n5_; have BK239 := n6_; have BK247 := n7_; have HB := n8_; clear n0_ n1_ n2_ n3_ n4_ n5_ n6_ n7_ n8_; (try clear hb); (try clear hkp); (try clear hy0); have hcz200_0 : w199.cell? ⟨gb247, 0, none⟩ = some (.slice Ao46 t243.length co46) := bc_ BK247 0; have hfz200_0 := blk_frozen BK247.out 0) | ((with_reducible refine gate_callee (f := 20) rfl ?_); refine goesL_ (some 73) rfl rfl Try.func20 (by kernel_rfl) rfl #[.agg #[.slice Ao46 t257.length co46], .int .i64 1] rfl (by (try simp only [mT, mC, mN]); first | done | (rw [show t257.length = t243.length from (Kd.R_reads' HO_248000.out).1.symm] <;> rfl) | rfl | (simp only [List.length_drop, List.length_take]; rfl)) ?_; (with_reducible refine (laws_heldPuzzle.calls kj74 _ _ t257 1 t258 _ ?side1 ?side2 A111.out).mono ?_); (case side1 => repeat (first | exact (Kd.R_reads' HO_248000.out).2.2 | (with_reducible refine Kd.C_alloc ?_ _) | (with_reducible refine Kd.C_drewN ?_ _) | (with_reducible refine Kd.C_drew ?_))); (case side2 => rw [show t257.length = t243.length from (Kd.R_reads' HO_248000.out).1.symm]; exact (Kd.R_reads' HO_248000.out).2.1); rintro e w201 ⟨rfl, hb⟩; refine ⟨_, rfl, ?_⟩; have n0_ := Aside0.mk (Kd.R_below (ra_ HO_236000.out) hb); have n1_ := Aside0.mk (Kd.R_below (ra_ HO_240000.out) hb); have n2_ := Aside0.mk (Kd.R_below (ra_ HO_248000.out) hb); have n3_ := Aside0.mk (blk_below (g := gb222) (o := .cells #[.slice A0_0 l0_0.length c0_0] 30 (0, 0)) (kx_ BK222.out) hb); have n4_ := Aside0.mk (blk_below (g := gb223) (o := .cells #[.int .i64 a1_0, .int .i64 a1_1, .int .i64 a1_2] 23 (0, 0)) (kx_ BK223.out) hb); have n5_ := Aside0.mk (blk_below (g := gb235) (o := .cells #[.slice Ao29 t231.length co29] 35 (0, 0)) (kx_ BK235.out) hb); have n6_ := Aside0.mk (blk_below (g := gb239) (o := .cells #[.slice Ao35 t254.length co35] 35 (0, 0)) (kx_ BK239.out) hb); have n7_ := Aside0.mk (blk_below (g := gb247) (o := .cells #[.slice Ao46 t243.length co46] 35 (0, 0)) (kx_ BK247.out) hb); have n8_ := Aside0.mk (below_step (hm_) hb); clear HO_236000; clear HO_240000; clear HO_248000; clear BK222; clear BK223; clear BK235; clear BK239; clear BK247; clear HB; have HO_236000 := n0_; have HO_240000 := n1_; have HO_248000 := n2_; have BK222 := n3_; have BK223 := n4_; have BK235 := n5_; have BK239 := n6_; have BK247 := n7_; have HB := n8_; clear n0_ n1_ n2_ n3_ n4_ n5_ n6_ n7_ n8_; (try clear hb); (try clear hb2); (try clear hk); (try clear hi)))
           go_ret
           exact ⟨by first | rfl | (simp [errW_none, errW_some] <;> rfl) | (simp [*, errW_none, errW_some] <;> rfl), hm_⟩
     ·replace c73 := Bool.eq_false_iff.mpr c73
      subst c73
      have H1 : (some false) = some r := by rw [if_neg (show ¬ (false = true) by decide)] at H; exact H
      clear H
      have H := H1
      clear H1
      obtain rfl := oI H
      try go_wp2
      have n0_ := Aside0.mk (Kd.R_drew HO_236000.out)
      have n1_ := Aside0.mk (Kd.R_drew HO_240000.out)
      have n2_ := Aside0.mk (Kd.R_drew HO_248000.out)
      have n3_ := Aside0.mk (blk_drew BK222.out)
      have n4_ := Aside0.mk (blk_drew BK223.out)
      have n5_ := Aside0.mk (blk_drew BK235.out)
      have n6_ := Aside0.mk (blk_drew BK239.out)
      have n7_ := Aside0.mk (blk_drew BK247.out)
      have n8_ := Aside0.mk (below_drew1 HB.out)
      clear HO_236000
      clear HO_240000
      clear HO_248000
      clear BK222
      clear BK223
      clear BK235
      clear BK239
      clear BK247
      clear HB
      have HO_236000 := n0_
      have HO_240000 := n1_
      have HO_248000 := n2_
      have BK222 := n3_
      have BK223 := n4_
      have BK235 := n5_
      have BK239 := n6_
      have BK247 := n7_
      have HB := n8_
      clear n0_ n1_ n2_ n3_ n4_ n5_ n6_ n7_ n8_
      refine start_ (n := 5) (S := fun w' => w'.cell? ⟨gb239, 0, none⟩ = some (.slice Ao35 t236.length co35) ∧ w'.cell? ⟨gb222, 0, none⟩ = some (.slice A0_0 l0_0.length c0_0)) (ds := []) #[false, false, false, false, false] (by kernel_rfl) rfl rfl ⟨bc_ BK239 0, bc_ BK222 0⟩ (fun hHeld => ?_)
      generalize wc.drew = w202 at HO_236000 HO_240000 HO_248000 BK222 BK223 BK235 BK239 BK247 HB hHeld ⊢
      refine take_ (i := 0) (N := some 47) (v := ?_) (a' := ?_) #[true, false, false, false, false] rfl rfl (by kernel_rfl) (fun _ _ _ h => h) (Or.inl ⟨by rfl, ?_⟩) hHeld ?_ ?_
      rotate_left
      ·rintro w' ⟨s0, s1⟩
       go_simp
       with_reducible rfl
      rotate_left
      ·simp only [Act.put, sT, sZ, sS, i64_w, i32_w]
       rfl
      refine take_ (i := 1) (N := some 48) (v := ?_) (a' := ?_) #[true, true, false, false, false] rfl rfl (by kernel_rfl) (fun _ _ _ h => h) (Or.inl ⟨by rfl, ?_⟩) hHeld ?_ ?_
      rotate_left
      ·rintro w' ⟨s0, s1⟩
       go_simp
       with_reducible rfl
      rotate_left
      ·simp only [Act.put, sT, sZ, sS, i64_w, i32_w]
       rfl
      refine one_ (i := 2) (N := some 49) #[true, true, true, false, false] rfl rfl (by kernel_rfl) (by decide) (fun K hK => ?_)
      refine goes_ Try.func14 (by kernel_rfl) rfl #[.agg #[.slice A0_0 l0_0.length c0_0]] (by rfl) rfl rfl ar_ ?_
      with_reducible refine (laws_toPuzzle.calls kj15 _ _ l0_0 t249 _ ?side1 ?side2 A71.out).mono ?_
      (case side1 => repeat (first | exact (Kd.C_below HR0_0.out HB.out) | (with_reducible refine Kd.C_alloc ?_ _) | (with_reducible refine Kd.C_drewN ?_ _) | (with_reducible refine Kd.C_drew ?_)))
      (case side2 => exact HC0_0.out)
      rintro e w203 ⟨v250, rfl, ho0, hb⟩
      refine ⟨_, rfl, ?_⟩
      have n0_ := Aside0.mk (Kd.R_elder' (ra_ HO_236000.out) (Kd.R_base ho0) hb)
      have n1_ := Aside0.mk (Kd.R_elder' (ra_ HO_240000.out) (Kd.R_base ho0) hb)
      have n2_ := Aside0.mk (Kd.R_elder' (ra_ HO_248000.out) (Kd.R_base ho0) hb)
      have n3_ := Aside0.mk (Kd.R_lower (Kd.R_new' (Kd.R_new' (Kd.R_new' ho0 (Kd.R_lt (ra_ HO_236000.out))) (Kd.R_lt (ra_ HO_240000.out))) (Kd.R_lt (ra_ HO_248000.out))) (below_size (hm_)))
      have n4_ := Aside0.mk (blk_below (g := gb222) (o := .cells #[.slice A0_0 l0_0.length c0_0] 30 (0, 0)) (kx_ BK222.out) hb)
      have n5_ := Aside0.mk (blk_below (g := gb223) (o := .cells #[.int .i64 a1_0, .int .i64 a1_1, .int .i64 a1_2] 23 (0, 0)) (kx_ BK223.out) hb)
      have n6_ := Aside0.mk (blk_below (g := gb235) (o := .cells #[.slice Ao29 t231.length co29] 35 (0, 0)) (kx_ BK235.out) hb)
      have n7_ := Aside0.mk (blk_below (g := gb239) (o := .cells #[.slice Ao35 t236.length co35] 35 (0, 0)) (kx_ BK239.out) hb)
      have n8_ := Aside0.mk (blk_below (g := gb247) (o := .cells #[.slice Ao46 t243.length co46] 35 (0, 0)) (kx_ BK247.out) hb)
      have n9_ := Aside0.mk (below_step (hm_) hb)
      clear HO_236000
      clear HO_240000
      clear HO_248000
      clear BK222
      clear BK223
      clear BK235
      clear BK239
      clear BK247
      clear HB
      have HO_236000 := n0_
      have HO_240000 := n1_
      have HO_248000 := n2_
      have HO251 := n3_
      have BK222 := n4_
      have BK223 := n5_
      have BK235 := n6_
      have BK239 := n7_
      have BK247 := n8_
      have HB := n9_
      clear n0_ n1_ n2_ n3_ n4_ n5_ n6_ n7_ n8_ n9_
      (try clear hb)
      (try clear hb2)
      (try clear hk)
      (try clear hi)
      (try clear ho0)
      obtain ⟨Ao204, co204, eo204⟩ := Kd.R_slice HO251.out
      (first | subst eo204 | (injection eo204 with f1_ f2_ f3_; have f4_ := f1_.symm; have f5_ := f3_.symm; clear f1_ f2_ f3_; subst f4_; subst f5_))
      refine hK.out _ _ ⟨bc_ BK239 0, bc_ BK222 0⟩ (fun hHeld => ?_)
      clear hK K
      refine norm_ (a' := ?_) ?_ ?_
      rotate_left
      ·show Act.put _ (some 49) _ = _
       simp only [Act.put, sT, sZ, sS, i64_w, i32_w]
       rfl
      refine one_ (i := 3) (N := some 50) #[true, true, true, true, false] rfl rfl (by kernel_rfl) (by decide) (fun K hK => ?_)
      refine goes_ Try.func16 (by kernel_rfl) rfl #[.agg #[.slice Ao35 t236.length co35], .agg #[.slice Ao204 t249.length co204]] (by rfl) rfl rfl ar_ ?_
      with_reducible refine (laws_eqPuzzle.calls kj15 _ _ t236 _ _ t249 false _ ?side1 ?side2 ?side3 ?side4 A72.out).mono ?_
      (case side1 => repeat (first | exact (Kd.R_reads' HO_240000.out).2.2 | (with_reducible refine Kd.C_alloc ?_ _) | (with_reducible refine Kd.C_drewN ?_ _) | (with_reducible refine Kd.C_drew ?_)))
      (case side2 => exact (Kd.R_reads' HO_240000.out).2.1)
      (case side3 => repeat (first | exact (Kd.R_reads' HO251.out).2.2 | (with_reducible refine Kd.C_alloc ?_ _) | (with_reducible refine Kd.C_drewN ?_ _) | (with_reducible refine Kd.C_drew ?_)))
      (case side4 => exact (Kd.R_reads' HO251.out).2.1)
      rintro e w205 ⟨rfl, hb⟩
      refine ⟨_, rfl, ?_⟩
      have n0_ := Aside0.mk (Kd.R_below (ra_ HO_236000.out) hb)
      have n1_ := Aside0.mk (Kd.R_below (ra_ HO_240000.out) hb)
      have n2_ := Aside0.mk (Kd.R_below (ra_ HO_248000.out) hb)
      have n3_ := Aside0.mk (Kd.R_below (ra_ HO251.out) hb)
      have n4_ := Aside0.mk (blk_below (g := gb222) (o := .cells #[.slice A0_0 l0_0.length c0_0] 30 (0, 0)) (kx_ BK222.out) hb)
      have n5_ := Aside0.mk (blk_below (g := gb223) (o := .cells #[.int .i64 a1_0, .int .i64 a1_1, .int .i64 a1_2] 23 (0, 0)) (kx_ BK223.out) hb)
      have n6_ := Aside0.mk (blk_below (g := gb235) (o := .cells #[.slice Ao29 t231.length co29] 35 (0, 0)) (kx_ BK235.out) hb)
      have n7_ := Aside0.mk (blk_below (g := gb239) (o := .cells #[.slice Ao35 t236.length co35] 35 (0, 0)) (kx_ BK239.out) hb)
      have n8_ := Aside0.mk (blk_below (g := gb247) (o := .cells #[.slice Ao46 t243.length co46] 35 (0, 0)) (kx_ BK247.out) hb)
      have n9_ := Aside0.mk (below_step (hm_) hb)
      clear HO_236000
      clear HO_240000
      clear HO_248000
      clear HO251
      clear BK222
      clear BK223
      clear BK235
      clear BK239
      clear BK247
      clear HB
      have HO_236000 := n0_
      have HO_240000 := n1_
      have HO_248000 := n2_
      have HO251 := n3_
      have BK222 := n4_
      have BK223 := n5_
      have BK235 := n6_
      have BK239 := n7_
      have BK247 := n8_
      have HB := n9_
      clear n0_ n1_ n2_ n3_ n4_ n5_ n6_ n7_ n8_ n9_
      (try clear hb)
      (try clear hb2)
      (try clear hk)
      (try clear hi)
      refine hK.out _ _ ⟨bc_ BK239 0, bc_ BK222 0⟩ (fun hHeld => ?_)
      clear hK K
      refine norm_ (a' := ?_) ?_ ?_
      rotate_left
      ·show Act.put _ (some 50) _ = _
       simp only [Act.put, sT, sZ, sS, i64_w, i32_w]
       rfl
      refine pure_ (i := 4) (N := some 51) (v := ?_) (a' := ?_) #[true, true, true, true, true] rfl rfl (by kernel_rfl) (fun _ _ _ h => h) (Or.inl ⟨by rfl, ?_⟩) ?_ ?_
      rotate_left
      ·intro w'
       go_simp
       with_reducible rfl
      rotate_left
      ·simp only [Act.put, sT, sZ, sS, i64_w, i32_w]
       rfl
      refine done_ (by kernel_rfl) ?_
      try go_wp2
      go_ret
      exact ⟨by first | rfl | (simp [errW_none, errW_some] <;> rfl) | (simp [*, errW_none, errW_some] <;> rfl), hm_⟩
end Go.Proofs.Ytcfcjpcoofjckaa.Pr
/- The statements' own helpers on lists of clues: the size, the copies and the comparison. -/
namespace Go.Proofs.Ytcfcjpcoofjckaa.M
open Go.RowKit Go.Proofs.YtcfcjpcoofjckaaW.PrintWords Go.Proofs.Ytcfcjpcoofjckaa.Pr
abbrev Cl := S25
abbrev LCl := S23
def toCl (c : LCl) : Cl := ⟨c.f0, c.f1, c.f2⟩
theorem rd_cl (l : List Cl) (i : Nat) (h : i < l.length) : rd_T25 l (i : Int) = l[i] := by
  unfold rd_T25
  simp [List.getD_eq_getElem?_getD, List.getElem?_eq_getElem h]
theorem rd_lcl (l : List LCl) (i : Nat) (h : i < l.length) : rd_T23 l (i : Int) = l[i] := by
  unfold rd_T23
  simp [List.getD_eq_getElem?_getD, List.getElem?_eq_getElem h]
theorem szClS_small (l : List LCl) (n : Int) (hn : 0 ≤ n ∧ n ≤ 1048576) (h : (l.length : Int) ≤ n) : laws_szClueS.f l n = some (n - (l.length : Int)) := by
  unfold laws_szClueS.f
  rw [w64 (by omega) (by omega), if_neg (by omega)]
theorem szClS_big (l : List LCl) (n : Int) (hn : 0 ≤ n ∧ n ≤ 1048576) (h : n < (l.length : Int)) (hm : l.length ≤ maxLen) : laws_szClueS.f l n = some (-1) := by
  unfold maxLen at hm
  unfold laws_szClueS.f
  rw [w64 (by omega) (by omega), if_pos (by omega)]
theorem szP_small (l : List LCl) (h : l.length ≤ 1048576) : laws_szPuzzle.f l 1048576 = some (1048576 - (l.length : Int)) := by
  unfold laws_szPuzzle.f
  rw [szClS_small l _ (by omega) (by omega)]
  simp only [Option.bind_some]
  rw [if_neg (by omega)]
theorem szP_big (l : List LCl) (h : 1048576 < l.length) (hm : l.length ≤ maxLen) : laws_szPuzzle.f l 1048576 = some (-1) := by
  unfold laws_szPuzzle.f
  rw [szClS_big l _ (by omega) (by omega) hm]
  simp
theorem toClS_ev (l : List LCl) (hl : l.length ≤ 1048576) : Ev (fun k => laws_toClueS.f k l) (l.map toCl) := by
  unfold laws_toClueS.f
  refine Ev.pos (by omega) (Ev.pos (by simp; omega) ?_)
  rw [Int.toNat_natCast]
  refine Ev.scan0 (fun k i acc => laws_toClueS.l0 k l acc i) l (fun rest acc => l.map toCl) (fun i acc => acc = (l.take i).map toCl ++ List.replicate (l.length - i) z25)
    (fun acc hp => by
      refine Ev.step (fun k => by rw [laws_toClueS.l0]) ?_
      refine Ev.neg (by omega) (Ev.val ?_)
      rw [hp]
      simp)
    (fun i h acc hp => by
      have hr := rd_lcl l i h
      have hal : acc.length = l.length := by rw [hp]; simp; omega
      refine .inl ⟨acc.set i (toCl l[i]), ?_, rfl, fun r hr2 => ?_⟩
      · rw [hp, List.take_succ_eq_append_getElem h, List.map_append, List.append_assoc]
        have ht : ((l.take i).map toCl).length = i := by simp; omega
        rw [List.set_append_right i _ (by omega), ht, Nat.sub_self]
        congr 1
        obtain ⟨q, hq⟩ : ∃ q, l.length - i = q + 1 := ⟨l.length - i - 1, by omega⟩
        rw [hq, show l.length - (i + 1) = q by omega, List.replicate_succ, List.set_cons_zero]
        rfl
      · refine Ev.step (fun k => by rw [laws_toClueS.l0]) ?_
        refine Ev.pos (by omega) (Ev.pos (by omega) ?_)
        rw [hr]
        refine Ev.bindc (a := (l[i].f0, l[i].f1, l[i].f2)) rfl (Ev.pos (by omega) ?_)
        rw [w64 (x := (i : Int) + 1) (by omega) (by omega), Int.toNat_natCast]
        exact hr2)
    _ (by simp)
theorem toP_ev (l : List LCl) (hl : l.length ≤ 1048576) : Ev (fun k => laws_toPuzzle.f k l) (l.map toCl) := by
  unfold laws_toPuzzle.f
  exact Ev.bindk (toClS_ev l hl) (Ev.val rfl)
theorem eqClS_ev (l : List Cl) (hl : l.length ≤ 9223372036854775806) : Ev (fun k => laws_eqClueS.f k l l) true := by
  unfold laws_eqClueS.f
  refine Ev.pos rfl ?_
  have e := Ev.scan0 (fun k i (_ : Unit) => laws_eqClueS.l0 k l l i) l (fun _ _ => true) (fun _ _ => True)
    (fun acc _ => by
      refine Ev.step (fun k => by rw [laws_eqClueS.l0]) ?_
      exact Ev.neg (by omega) (Ev.now true))
    (fun i h acc _ => by
      refine .inl ⟨(), trivial, rfl, fun r hr2 => ?_⟩
      refine Ev.step (fun k => by rw [laws_eqClueS.l0]) ?_
      refine Ev.pos (by omega) (Ev.pos (by omega) (Ev.pos (by omega) ?_))
      refine Ev.bindc (a := true) (by unfold laws_eqClue.f; simp) (Ev.pos rfl ?_)
      rw [w64 (x := (i : Int) + 1) (by omega) (by omega)]
      exact hr2) () trivial
  exact e
theorem eqP_ev (l : List Cl) (hl : l.length ≤ 9223372036854775806) : Ev (fun k => laws_eqPuzzle.f k l l) true := by
  unfold laws_eqPuzzle.f
  exact Ev.bindk (eqClS_ev l hl) (Ev.pos rfl (Ev.val rfl))
end Go.Proofs.Ytcfcjpcoofjckaa.M
