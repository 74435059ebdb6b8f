/- Regions are as many as chords and crossings and one, pieces as chords and twice the crossings, and arcs are parted as shades tell. (Part 5 of 6.) -/
import Derived.Test.YtdjbdpgdhpobfaaKFnRegionsPart0
import Derived.Test.YtdjbdpgdhpobfaaKFnRegionsPart1
import Derived.Test.YtdjbdpgdhpobfaaKFnRegionsPart2
import Derived.Test.YtdjbdpgdhpobfaaKFnRegionsPart3
set_option linter.unusedVariables false
set_option linter.unusedSimpArgs false
namespace Go.Proofs.Ytdjbdpgdhpobfaa.Pr
open Go.RowKit Go.Proofs.YtdjbdpgdhpobfaaW.PrintWords Go.Proofs.YtdjbdpgdhpobfaaW.PrintLast Go.Proofs.YtdjbdpgdhpobfaaW.PrintMore
attribute [local go_sem] max2_int min2_int max_two min_two max_three min_three max_four min_four
def impl_RegionsOf.f (k : Nat) (a0 : Int) (l1 : List (S60)) : Option (Int × Bool) := (impl_isSet.f k a0 l1).bind fun t144 => (if t144 = true then ((impl_crossings.f k l1).bind fun t145 => (some (wrap64 ((wrap64 (1 + (l1.length : Int))) + t145), true))) else (some (0, false)))
theorem impl_RegionsOf.mono : ∀ a0 a1 k, LeO (impl_RegionsOf.f k a0 a1) (impl_RegionsOf.f (k + 1) a0 a1) := by
 intro a0 a1 k
 unfold impl_RegionsOf.f
 repeat' first
   | (with_reducible exact impl_crossings.mono _ _)
   | (with_reducible exact impl_isSet.mono _ _ _)
   | (with_reducible exact LeO.refl _)
   | (with_reducible exact LeO.none _)
   | (with_reducible refine LeO.ite ?_ ?_)
   | (with_reducible refine LeO.bind ?_ (fun _ => ?_))
   | exact impl_crossings.mono _ _
   | exact impl_isSet.mono _ _ _
   | exact LeO.none _
   | refine LeO.ite ?_ ?_
   | refine LeO.bind ?_ (fun _ => ?_)
set_option maxHeartbeats 8000000 in
set_option maxRecDepth 100000 in
theorem impl_RegionsOf.calls (k : Nat) (a0 : Int) (A1 : Option Addr) (c1 : Nat) (l1 : List (S60)) (r1 : Int) (r2 : Bool) (w : World) (hr1 : Kd.C k60 w A1 l1.length l1) (hc1 : l1.length ≤ c1) (h : impl_RegionsOf.f k a0 l1 = some (r1, r2)) :
  Calls Try.prog 8 #[.int .i64 a0, .slice A1 l1.length c1] w fun e w' => e = .returned (.tuple #[.int .i64 r1, .bool r2]) ∧ Below w.heap.size w w' := by
 have HR1 := Aside0.mk hr1
 have HC1 := Aside0.mk hc1
 clear hr1 hc1
 have HB := Aside0.mk (Below.refl w.heap.size w)
 have H : ((impl_isSet.f k a0 l1).bind fun t144 => (if t144 = true then ((impl_crossings.f k l1).bind fun t145 => (some (wrap64 ((wrap64 (1 + (l1.length : Int))) + t145), true))) else (some (0, false)))) = some (r1, r2) := h
 clear h
 replace H := bI H
 obtain ⟨t144, A30, H⟩ := H
 replace H : (if t144 = true then ((impl_crossings.f k l1).bind fun t145 => (some (wrap64 ((wrap64 (1 + (l1.length : Int))) + t145), true))) else (some (0, false))) = some (r1, r2) := H
 have A3 := Aside0.mk A30
 clear A30
 by_cases c4 : t144 = true
 ·subst c4
  have H1 : ((impl_crossings.f k l1).bind fun t145 => (some (wrap64 ((wrap64 (1 + (l1.length : Int))) + t145), true))) = some (r1, r2) := by rw [if_pos rfl] at H; exact H
  clear H
  have H := H1
  clear H1
  replace H := bI H
  obtain ⟨t145, A50, H⟩ := H
  replace H : (some (wrap64 ((wrap64 (1 + (l1.length : Int))) + t145), true)) = some (r1, r2) := H
  have A5 := Aside0.mk A50
  clear A50
  simp only [Option.some.injEq, Prod.mk.injEq] at H
  obtain ⟨rfl, rfl⟩ := H
  go_enter Try.func8, Try.ntmps8
  go_wp2_with (first | ((with_reducible refine gate_callee (f := 36) rfl ?_); refine goesL_ (some 8) rfl rfl Try.func36 (by kernel_rfl) rfl #[.int .i64 a0, .slice A1 l1.length c1] rfl ar_ ?_; (with_reducible refine (impl_isSet.calls k a0 _ _ l1 true _ ?side1 ?side2 A3.out).mono ?_); (case side1 => repeat (first | exact HR1.out | (with_reducible refine Kd.C_alloc ?_ _) | (with_reducible refine Kd.C_drewN ?_ _) | (with_reducible refine Kd.C_drew ?_))); (case side2 => exact HC1.out); rintro e w6 ⟨rfl, hb⟩; refine ⟨_, rfl, ?_⟩; have n0_ := Aside0.mk (below_step hb_ hb); clear HB; have HB := n0_; clear n0_; (try clear hb); (try clear hb2); (try clear hk); (try clear hi)) | ((with_reducible refine gate_callee (f := 37) rfl ?_); refine goesL_ (some 14) rfl rfl Try.func37 (by kernel_rfl) rfl #[.slice A1 l1.length c1] rfl ar_ ?_; (with_reducible refine (impl_crossings.calls k _ _ l1 t145 _ ?side1 ?side2 A5.out).mono ?_); (case side1 => repeat (first | exact (Kd.C_below HR1.out HB.out) | (with_reducible refine Kd.C_alloc ?_ _) | (with_reducible refine Kd.C_drewN ?_ _) | (with_reducible refine Kd.C_drew ?_))); (case side2 => exact HC1.out); rintro e w7 ⟨rfl, hb⟩; refine ⟨_, rfl, ?_⟩; have n0_ := Aside0.mk (below_step hb_ hb); clear HB; have HB := n0_; clear n0_; (try clear hb); (try clear hb2); (try clear hk); (try clear hi)))
  go_ret2
  exact ⟨by first | rfl | (simp [errW_none, errW_some] <;> rfl) | (simp [*, errW_none, errW_some] <;> rfl), hb_⟩
 ·replace c4 := Bool.eq_false_iff.mpr c4
  subst c4
  have H1 : (some (0, false)) = some (r1, r2) := by rw [if_neg (show ¬ (false = true) by decide)] at H; exact H
  clear H
  have H := H1
  clear H1
  simp only [Option.some.injEq, Prod.mk.injEq] at H
  obtain ⟨rfl, rfl⟩ := H
  go_enter Try.func8, Try.ntmps8
  go_wp2_with (first | ((with_reducible refine gate_callee (f := 36) rfl ?_); refine goesL_ (some 8) rfl rfl Try.func36 (by kernel_rfl) rfl #[.int .i64 a0, .slice A1 l1.length c1] rfl ar_ ?_; (with_reducible refine (impl_isSet.calls k a0 _ _ l1 false _ ?side1 ?side2 A3.out).mono ?_); (case side1 => repeat (first | exact HR1.out | (with_reducible refine Kd.C_alloc ?_ _) | (with_reducible refine Kd.C_drewN ?_ _) | (with_reducible refine Kd.C_drew ?_))); (case side2 => exact HC1.out); rintro e w8 ⟨rfl, hb⟩; refine ⟨_, rfl, ?_⟩; have n0_ := Aside0.mk (below_step hb_ hb); clear HB; have HB := n0_; clear n0_; (try clear hb); (try clear hb2); (try clear hk); (try clear hi)))
  go_ret2
  exact ⟨by first | rfl | (simp [errW_none, errW_some] <;> rfl) | (simp [*, errW_none, errW_some] <;> rfl), hb_⟩
def spec_RegionsOf.f (k : Nat) (a0 : Int) (l1 : List (S60)) : Option (Int × Bool) := (spec_cdGood.f k a0 l1).bind fun t245 => (if t245 = true then ((spec_cdPairs.f k l1).bind fun t246 => (some (wrap64 ((wrap64 (1 + (l1.length : Int))) + (t246.length : Int)), true))) else (some (0, false)))
theorem spec_RegionsOf.mono : ∀ a0 a1 k, LeO (spec_RegionsOf.f k a0 a1) (spec_RegionsOf.f (k + 1) a0 a1) := by
 intro a0 a1 k
 unfold spec_RegionsOf.f
 repeat' first
   | (with_reducible exact spec_cdGood.mono _ _ _)
   | (with_reducible exact spec_cdPairs.mono _ _)
   | (with_reducible exact LeO.refl _)
   | (with_reducible exact LeO.none _)
   | (with_reducible refine LeO.ite ?_ ?_)
   | (with_reducible refine LeO.bind ?_ (fun _ => ?_))
   | exact spec_cdGood.mono _ _ _
   | exact spec_cdPairs.mono _ _
   | exact LeO.none _
   | refine LeO.ite ?_ ?_
   | refine LeO.bind ?_ (fun _ => ?_)
set_option maxHeartbeats 8000000 in
set_option maxRecDepth 100000 in
theorem spec_RegionsOf.calls (k : Nat) (a0 : Int) (A1 : Option Addr) (c1 : Nat) (l1 : List (S60)) (r1 : Int) (r2 : Bool) (w : World) (hr1 : Kd.C k60 w A1 l1.length l1) (hc1 : l1.length ≤ c1) (h : spec_RegionsOf.f k a0 l1 = some (r1, r2)) :
  Calls Try.prog 9 #[.int .i64 a0, .slice A1 l1.length c1] w fun e w' => e = .returned (.tuple #[.int .i64 r1, .bool r2]) ∧ Below w.heap.size w w' := by
 have HR1 := Aside0.mk hr1
 have HC1 := Aside0.mk hc1
 clear hr1 hc1
 have HB := Aside0.mk (Below.refl w.heap.size w)
 have H : ((spec_cdGood.f k a0 l1).bind fun t245 => (if t245 = true then ((spec_cdPairs.f k l1).bind fun t246 => (some (wrap64 ((wrap64 (1 + (l1.length : Int))) + (t246.length : Int)), true))) else (some (0, false)))) = some (r1, r2) := h
 clear h
 replace H := bI H
 obtain ⟨t245, A30, H⟩ := H
 replace H : (if t245 = true then ((spec_cdPairs.f k l1).bind fun t246 => (some (wrap64 ((wrap64 (1 + (l1.length : Int))) + (t246.length : Int)), true))) else (some (0, false))) = some (r1, r2) := H
 have A3 := Aside0.mk A30
 clear A30
 by_cases c4 : t245 = true
 ·subst c4
  have H1 : ((spec_cdPairs.f k l1).bind fun t246 => (some (wrap64 ((wrap64 (1 + (l1.length : Int))) + (t246.length : Int)), true))) = some (r1, r2) := by rw [if_pos rfl] at H; exact H
  clear H
  have H := H1
  clear H1
  replace H := bI H
  obtain ⟨t246, A50, H⟩ := H
  replace H : (some (wrap64 ((wrap64 (1 + (l1.length : Int))) + (t246.length : Int)), true)) = some (r1, r2) := H
  have A5 := Aside0.mk A50
  clear A50
  simp only [Option.some.injEq, Prod.mk.injEq] at H
  obtain ⟨rfl, rfl⟩ := H
  go_enter Try.func9, Try.ntmps9
  go_wp2_with (first | ((with_reducible refine gate_callee (f := 33) rfl ?_); refine goesL_ (some 8) rfl rfl Try.func33 (by kernel_rfl) rfl #[.int .i64 a0, .slice A1 l1.length c1] rfl ar_ ?_; (with_reducible refine (spec_cdGood.calls k a0 _ _ l1 true _ ?side1 ?side2 A3.out).mono ?_); (case side1 => repeat (first | exact HR1.out | (with_reducible refine Kd.C_alloc ?_ _) | (with_reducible refine Kd.C_drewN ?_ _) | (with_reducible refine Kd.C_drew ?_))); (case side2 => exact HC1.out); rintro e w6 ⟨rfl, hb⟩; refine ⟨_, rfl, ?_⟩; have n0_ := Aside0.mk (below_step hb_ hb); clear HB; have HB := n0_; clear n0_; (try clear hb); (try clear hb2); (try clear hk); (try clear hi)) | ((with_reducible refine gate_callee (f := 38) rfl ?_); refine goesL_ (some 14) rfl rfl Try.func38 (by kernel_rfl) rfl #[.slice A1 l1.length c1] rfl ar_ ?_; (with_reducible refine (spec_cdPairs.calls k _ _ l1 t246 _ ?side1 ?side2 A5.out).mono ?_); (case side1 => repeat (first | exact (Kd.C_below HR1.out HB.out) | (with_reducible refine Kd.C_alloc ?_ _) | (with_reducible refine Kd.C_drewN ?_ _) | (with_reducible refine Kd.C_drew ?_))); (case side2 => exact HC1.out); rintro e w7 ⟨v247, rfl, ho0, hb⟩; refine ⟨_, rfl, ?_⟩; have n0_ := Aside0.mk (Kd.S_lower ho0 (below_size hb_)); have n1_ := Aside0.mk (below_step hb_ hb); clear HB; have HO248 := n0_; have HB := n1_; clear n0_ n1_; (try clear hb); (try clear hb2); (try clear hk); (try clear hi); (try clear ho0); obtain ⟨Ao8, co8, eo8⟩ := Kd.S_slice HO248.out; subst eo8))
  go_ret2
  exact ⟨by first | rfl | (simp [errW_none, errW_some] <;> rfl) | (simp [*, errW_none, errW_some] <;> rfl), hb_⟩
 ·replace c4 := Bool.eq_false_iff.mpr c4
  subst c4
  have H1 : (some (0, false)) = some (r1, r2) := by rw [if_neg (show ¬ (false = true) by decide)] at H; exact H
  clear H
  have H := H1
  clear H1
  simp only [Option.some.injEq, Prod.mk.injEq] at H
  obtain ⟨rfl, rfl⟩ := H
  go_enter Try.func9, Try.ntmps9
  go_wp2_with (first | ((with_reducible refine gate_callee (f := 33) rfl ?_); refine goesL_ (some 8) rfl rfl Try.func33 (by kernel_rfl) rfl #[.int .i64 a0, .slice A1 l1.length c1] rfl ar_ ?_; (with_reducible refine (spec_cdGood.calls k a0 _ _ l1 false _ ?side1 ?side2 A3.out).mono ?_); (case side1 => repeat (first | exact HR1.out | (with_reducible refine Kd.C_alloc ?_ _) | (with_reducible refine Kd.C_drewN ?_ _) | (with_reducible refine Kd.C_drew ?_))); (case side2 => exact HC1.out); rintro e w9 ⟨rfl, hb⟩; refine ⟨_, rfl, ?_⟩; have n0_ := Aside0.mk (below_step hb_ hb); clear HB; have HB := n0_; clear n0_; (try clear hb); (try clear hb2); (try clear hk); (try clear hi)))
  go_ret2
  exact ⟨by first | rfl | (simp [errW_none, errW_some] <;> rfl) | (simp [*, errW_none, errW_some] <;> rfl), hb_⟩
def impl_PiecesOfChord.f (k : Nat) (a0 : Int) (l1 : List (S60)) (a2 : Int) : Option (Int × Bool) := (impl_isSet.f k a0 l1).bind fun t161 => (if t161 = true then ((impl_within.f a2 0 (wrap64 ((l1.length : Int) - 1))).bind fun t162 => (if t162 = true then (if 0 ≤ a2 then (if a2 < (l1.length : Int) then ((impl_crossed.f k l1 ((rd_T60 l1 a2).f0) ((rd_T60 l1 a2).f1)).bind fun t164 => (some (wrap64 (1 + t164), true))) else (none)) else (none)) else (some (0, false)))) else (some (0, false)))
theorem impl_PiecesOfChord.mono : ∀ a0 a1 a2 k, LeO (impl_PiecesOfChord.f k a0 a1 a2) (impl_PiecesOfChord.f (k + 1) a0 a1 a2) := by
 intro a0 a1 a2 k
 unfold impl_PiecesOfChord.f
 repeat' first
   | (with_reducible exact impl_crossed.mono _ _ _ _)
   | (with_reducible exact impl_isSet.mono _ _ _)
   | (with_reducible exact LeO.refl _)
   | (with_reducible exact LeO.none _)
   | (with_reducible refine LeO.ite ?_ ?_)
   | (with_reducible refine LeO.bind ?_ (fun _ => ?_))
   | exact impl_crossed.mono _ _ _ _
   | exact impl_isSet.mono _ _ _
   | exact LeO.none _
   | refine LeO.ite ?_ ?_
   | refine LeO.bind ?_ (fun _ => ?_)
set_option maxHeartbeats 8000000 in
set_option maxRecDepth 100000 in
theorem impl_PiecesOfChord.calls (k : Nat) (a0 : Int) (A1 : Option Addr) (c1 : Nat) (l1 : List (S60)) (a2 : Int) (r1 : Int) (r2 : Bool) (w : World) (hr1 : Kd.C k60 w A1 l1.length l1) (hc1 : l1.length ≤ c1) (h : impl_PiecesOfChord.f k a0 l1 a2 = some (r1, r2)) :
  Calls Try.prog 16 #[.int .i64 a0, .slice A1 l1.length c1, .int .i64 a2] w fun e w' => e = .returned (.tuple #[.int .i64 r1, .bool r2]) ∧ Below w.heap.size w w' := by
 have hu60 := Try.underlying60
 have HR1 := Aside0.mk hr1
 have HC1 := Aside0.mk hc1
 clear hr1 hc1
 have HB := Aside0.mk (Below.refl w.heap.size w)
 have H : ((impl_isSet.f k a0 l1).bind fun t161 => (if t161 = true then ((impl_within.f a2 0 (wrap64 ((l1.length : Int) - 1))).bind fun t162 => (if t162 = true then (if 0 ≤ a2 then (if a2 < (l1.length : Int) then ((impl_crossed.f k l1 ((rd_T60 l1 a2).f0) ((rd_T60 l1 a2).f1)).bind fun t164 => (some (wrap64 (1 + t164), true))) else (none)) else (none)) else (some (0, false)))) else (some (0, false)))) = some (r1, r2) := h
 clear h
 replace H := bI H
 obtain ⟨t161, A40, H⟩ := H
 replace H : (if t161 = true then ((impl_within.f a2 0 (wrap64 ((l1.length : Int) - 1))).bind fun t162 => (if t162 = true then (if 0 ≤ a2 then (if a2 < (l1.length : Int) then ((impl_crossed.f k l1 ((rd_T60 l1 a2).f0) ((rd_T60 l1 a2).f1)).bind fun t164 => (some (wrap64 (1 + t164), true))) else (none)) else (none)) else (some (0, false)))) else (some (0, false))) = some (r1, r2) := H
 have A4 := Aside0.mk A40
 clear A40
 by_cases c5 : t161 = true
 ·subst c5
  have H1 : ((impl_within.f a2 0 (wrap64 ((l1.length : Int) - 1))).bind fun t162 => (if t162 = true then (if 0 ≤ a2 then (if a2 < (l1.length : Int) then ((impl_crossed.f k l1 ((rd_T60 l1 a2).f0) ((rd_T60 l1 a2).f1)).bind fun t164 => (some (wrap64 (1 + t164), true))) else (none)) else (none)) else (some (0, false)))) = some (r1, r2) := by rw [if_pos rfl] at H; exact H
  clear H
  have H := H1
  clear H1
  replace H := bI H
  obtain ⟨t162, A60, H⟩ := H
  replace H : (if t162 = true then (if 0 ≤ a2 then (if a2 < (l1.length : Int) then ((impl_crossed.f k l1 ((rd_T60 l1 a2).f0) ((rd_T60 l1 a2).f1)).bind fun t164 => (some (wrap64 (1 + t164), true))) else (none)) else (none)) else (some (0, false))) = some (r1, r2) := H
  have A6 := Aside0.mk A60
  clear A60
  by_cases c7 : t162 = true
  ·subst c7
   have H1 : (if 0 ≤ a2 then (if a2 < (l1.length : Int) then ((impl_crossed.f k l1 ((rd_T60 l1 a2).f0) ((rd_T60 l1 a2).f1)).bind fun t164 => (some (wrap64 (1 + t164), true))) else (none)) else (none)) = some (r1, r2) := by rw [if_pos rfl] at H; exact H
   clear H
   have H := H1
   clear H1
   by_cases c8 : 0 ≤ a2
   ·rw [if_pos c8] at H
    have c8b0 : decide (0 ≤ a2) = true := decide_eq_true c8
    clear c8
    by_cases c9 : a2 < (l1.length : Int)
    ·rw [if_pos c9] at H
     have c9b0 : decide (a2 < (l1.length : Int)) = true := decide_eq_true c9
     clear c9
     replace H := bI H
     obtain ⟨t164, A100, H⟩ := H
     replace H : (some (wrap64 (1 + t164), true)) = some (r1, r2) := H
     have A10 := Aside0.mk A100
     clear A100
     simp only [Option.some.injEq, Prod.mk.injEq] at H
     obtain ⟨rfl, rfl⟩ := H
     go_enter Try.func16, Try.ntmps16
     go_wp2_with (first | ((with_reducible refine gate_callee (f := 36) rfl ?_); refine goesL_ (some 10) rfl rfl Try.func36 (by kernel_rfl) rfl #[.int .i64 a0, .slice A1 l1.length c1] rfl ar_ ?_; (with_reducible refine (impl_isSet.calls k a0 _ _ l1 true _ ?side1 ?side2 A4.out).mono ?_); (case side1 => repeat (first | exact HR1.out | (with_reducible refine Kd.C_alloc ?_ _) | (with_reducible refine Kd.C_drewN ?_ _) | (with_reducible refine Kd.C_drew ?_))); (case side2 => exact HC1.out); rintro e w11 ⟨rfl, hb⟩; refine ⟨_, rfl, ?_⟩; have n0_ := Aside0.mk (below_step hb_ hb); clear HB; have HB := n0_; clear n0_; (try clear hb); (try clear hb2); (try clear hk); (try clear hi)) | (go_at_call 40; (with_reducible refine (impl_within.calls a2 0 (wrap64 ((l1.length : Int) - 1)) true _ A6.out).mono ?_); rintro e w' ⟨rfl, ⟨nd, rfl⟩⟩; have p163 : 0 ≤ (a2 : Int) := of_decide_eq_true (by assumption); have q163 : a2 < (l1.length : Int) := of_decide_eq_true (by assumption); obtain ⟨ad163, e163, hx163_0, hx163_1⟩ := at_T60 HR1.out a2 p163 q163; cases e163; replace hx163_0 := (HB.out.cell (World.block_lt_of_cell? w _ hx163_0)).trans hx163_0; replace hx163_1 := (HB.out.cell (World.block_lt_of_cell? w _ hx163_1)).trans hx163_1; replace p163 := eq_true p163; replace q163 := eq_true q163) | ((with_reducible refine gate_callee (f := 43) rfl ?_); refine goesL_ (some 25) rfl rfl Try.func43 (by kernel_rfl) rfl #[.slice (some ad163) l1.length c1, .agg #[.int .i64 ((rd_T60 l1 a2).f0), .int .i64 ((rd_T60 l1 a2).f1)]] rfl ar_ ?_; (with_reducible refine (impl_crossed.calls k _ _ l1 ((rd_T60 l1 a2).f0) ((rd_T60 l1 a2).f1) t164 _ ?side1 ?side2 A10.out).mono ?_); (case side1 => repeat (first | exact (Kd.C_below HR1.out hb_) | (with_reducible refine Kd.C_alloc ?_ _) | (with_reducible refine Kd.C_drewN ?_ _) | (with_reducible refine Kd.C_drew ?_))); (case side2 => exact HC1.out); rintro e w12 ⟨rfl, hb⟩; refine ⟨_, rfl, ?_⟩; have n0_ := Aside0.mk (below_step hb_ hb); clear HB; have HB := n0_; clear n0_; (try clear hb); (try clear hb2); (try clear hk); (try clear hi)))
     go_ret2
     exact ⟨by first | rfl | (simp [errW_none, errW_some] <;> rfl) | (simp [*, errW_none, errW_some] <;> rfl), hb_⟩
    ·rw [if_neg c9] at H
     exact absurd H (by simp)
   ·rw [if_neg c8] at H
    exact absurd H (by simp)
  ·replace c7 := Bool.eq_false_iff.mpr c7
   subst c7
   have H1 : (some (0, false)) = some (r1, r2) := by rw [if_neg (show ¬ (false = true) by decide)] at H; exact H
   clear H
   have H := H1
   clear H1
   simp only [Option.some.injEq, Prod.mk.injEq] at H
   obtain ⟨rfl, rfl⟩ := H
   go_enter Try.func16, Try.ntmps16
   go_wp2_with (first | ((with_reducible refine gate_callee (f := 36) rfl ?_); refine goesL_ (some 10) rfl rfl Try.func36 (by kernel_rfl) rfl #[.int .i64 a0, .slice A1 l1.length c1] rfl ar_ ?_; (with_reducible refine (impl_isSet.calls k a0 _ _ l1 true _ ?side1 ?side2 A4.out).mono ?_); (case side1 => repeat (first | exact HR1.out | (with_reducible refine Kd.C_alloc ?_ _) | (with_reducible refine Kd.C_drewN ?_ _) | (with_reducible refine Kd.C_drew ?_))); (case side2 => exact HC1.out); rintro e w13 ⟨rfl, hb⟩; refine ⟨_, rfl, ?_⟩; have n0_ := Aside0.mk (below_step hb_ hb); clear HB; have HB := n0_; clear n0_; (try clear hb); (try clear hb2); (try clear hk); (try clear hi)) | (go_at_call 40; (with_reducible refine (impl_within.calls a2 0 (wrap64 ((l1.length : Int) - 1)) false _ A6.out).mono ?_); rintro e w' ⟨rfl, ⟨nd, rfl⟩⟩))
   go_ret2
   exact ⟨by first | rfl | (simp [errW_none, errW_some] <;> rfl) | (simp [*, errW_none, errW_some] <;> rfl), hb_⟩
 ·replace c5 := Bool.eq_false_iff.mpr c5
  subst c5
  have H1 : (some (0, false)) = some (r1, r2) := by rw [if_neg (show ¬ (false = true) by decide)] at H; exact H
  clear H
  have H := H1
  clear H1
  simp only [Option.some.injEq, Prod.mk.injEq] at H
  obtain ⟨rfl, rfl⟩ := H
  go_enter Try.func16, Try.ntmps16
  go_wp2_with (first | ((with_reducible refine gate_callee (f := 36) rfl ?_); refine goesL_ (some 10) rfl rfl Try.func36 (by kernel_rfl) rfl #[.int .i64 a0, .slice A1 l1.length c1] rfl ar_ ?_; (with_reducible refine (impl_isSet.calls k a0 _ _ l1 false _ ?side1 ?side2 A4.out).mono ?_); (case side1 => repeat (first | exact HR1.out | (with_reducible refine Kd.C_alloc ?_ _) | (with_reducible refine Kd.C_drewN ?_ _) | (with_reducible refine Kd.C_drew ?_))); (case side2 => exact HC1.out); rintro e w14 ⟨rfl, hb⟩; refine ⟨_, rfl, ?_⟩; have n0_ := Aside0.mk (below_step hb_ hb); clear HB; have HB := n0_; clear n0_; (try clear hb); (try clear hb2); (try clear hk); (try clear hi)))
  go_ret2
  exact ⟨by first | rfl | (simp [errW_none, errW_some] <;> rfl) | (simp [*, errW_none, errW_some] <;> rfl), hb_⟩
def spec_PiecesOfChord.f (k : Nat) (a0 : Int) (l1 : List (S60)) (a2 : Int) : Option (Int × Bool) := (spec_cdGood.f k a0 l1).bind fun t257 => (if t257 = true then ((spec_l1In.f a2 0 (wrap64 ((l1.length : Int) - 1))).bind fun t258 => (if t258 = true then ((spec_rePieces.f k l1 a2).bind fun t259 => (some (t259, true))) else (some (0, false)))) else (some (0, false)))
theorem spec_PiecesOfChord.mono : ∀ a0 a1 a2 k, LeO (spec_PiecesOfChord.f k a0 a1 a2) (spec_PiecesOfChord.f (k + 1) a0 a1 a2) := by
 intro a0 a1 a2 k
 unfold spec_PiecesOfChord.f
 repeat' first
   | (with_reducible exact spec_cdGood.mono _ _ _)
   | (with_reducible exact spec_rePieces.mono _ _ _)
   | (with_reducible exact LeO.refl _)
   | (with_reducible exact LeO.none _)
   | (with_reducible refine LeO.ite ?_ ?_)
   | (with_reducible refine LeO.bind ?_ (fun _ => ?_))
   | exact spec_cdGood.mono _ _ _
   | exact spec_rePieces.mono _ _ _
   | exact LeO.none _
   | refine LeO.ite ?_ ?_
   | refine LeO.bind ?_ (fun _ => ?_)
set_option maxHeartbeats 8000000 in
set_option maxRecDepth 100000 in
theorem spec_PiecesOfChord.calls (k : Nat) (a0 : Int) (A1 : Option Addr) (c1 : Nat) (l1 : List (S60)) (a2 : Int) (r1 : Int) (r2 : Bool) (w : World) (hr1 : Kd.C k60 w A1 l1.length l1) (hc1 : l1.length ≤ c1) (h : spec_PiecesOfChord.f k a0 l1 a2 = some (r1, r2)) :
  Calls Try.prog 18 #[.int .i64 a0, .slice A1 l1.length c1, .int .i64 a2] w fun e w' => e = .returned (.tuple #[.int .i64 r1, .bool r2]) ∧ Below w.heap.size w w' := by
 have HR1 := Aside0.mk hr1
 have HC1 := Aside0.mk hc1
 clear hr1 hc1
 have HB := Aside0.mk (Below.refl w.heap.size w)
 have H : ((spec_cdGood.f k a0 l1).bind fun t257 => (if t257 = true then ((spec_l1In.f a2 0 (wrap64 ((l1.length : Int) - 1))).bind fun t258 => (if t258 = true then ((spec_rePieces.f k l1 a2).bind fun t259 => (some (t259, true))) else (some (0, false)))) else (some (0, false)))) = some (r1, r2) := h
 clear h
 replace H := bI H
 obtain ⟨t257, A40, H⟩ := H
 replace H : (if t257 = true then ((spec_l1In.f a2 0 (wrap64 ((l1.length : Int) - 1))).bind fun t258 => (if t258 = true then ((spec_rePieces.f k l1 a2).bind fun t259 => (some (t259, true))) else (some (0, false)))) else (some (0, false))) = some (r1, r2) := H
 have A4 := Aside0.mk A40
 clear A40
 by_cases c5 : t257 = true
 ·subst c5
  have H1 : ((spec_l1In.f a2 0 (wrap64 ((l1.length : Int) - 1))).bind fun t258 => (if t258 = true then ((spec_rePieces.f k l1 a2).bind fun t259 => (some (t259, true))) else (some (0, false)))) = some (r1, r2) := by rw [if_pos rfl] at H; exact H
  clear H
  have H := H1
  clear H1
  replace H := bI H
  obtain ⟨t258, A60, H⟩ := H
  replace H : (if t258 = true then ((spec_rePieces.f k l1 a2).bind fun t259 => (some (t259, true))) else (some (0, false))) = some (r1, r2) := H
  have A6 := Aside0.mk A60
  clear A60
  by_cases c7 : t258 = true
  ·subst c7
   have H1 : ((spec_rePieces.f k l1 a2).bind fun t259 => (some (t259, true))) = some (r1, r2) := by rw [if_pos rfl] at H; exact H
   clear H
   have H := H1
   clear H1
   replace H := bI H
   obtain ⟨t259, A80, H⟩ := H
   replace H : (some (t259, true)) = some (r1, r2) := H
   have A8 := Aside0.mk A80
   clear A80
   simp only [Option.some.injEq, Prod.mk.injEq] at H
   obtain ⟨rfl, rfl⟩ := H
   go_enter Try.func18, Try.ntmps18
   go_wp2_with (first | ((with_reducible refine gate_callee (f := 33) rfl ?_); refine goesL_ (some 10) rfl rfl Try.func33 (by kernel_rfl) rfl #[.int .i64 a0, .slice A1 l1.length c1] rfl ar_ ?_; (with_reducible refine (spec_cdGood.calls k a0 _ _ l1 true _ ?side1 ?side2 A4.out).mono ?_); (case side1 => repeat (first | exact HR1.out | (with_reducible refine Kd.C_alloc ?_ _) | (with_reducible refine Kd.C_drewN ?_ _) | (with_reducible refine Kd.C_drew ?_))); (case side2 => exact HC1.out); rintro e w9 ⟨rfl, hb⟩; refine ⟨_, rfl, ?_⟩; have n0_ := Aside0.mk (below_step hb_ hb); clear HB; have HB := n0_; clear n0_; (try clear hb); (try clear hb2); (try clear hk); (try clear hi)) | (go_at_call 34; (with_reducible refine (spec_l1In.calls a2 0 (wrap64 ((l1.length : Int) - 1)) true _ A6.out).mono ?_); rintro e w' ⟨rfl, ⟨nd, rfl⟩⟩) | ((with_reducible refine gate_callee (f := 39) rfl ?_); refine goesL_ (some 22) rfl rfl Try.func39 (by kernel_rfl) rfl #[.slice A1 l1.length c1, .int .i64 a2] rfl ar_ ?_; (with_reducible refine (spec_rePieces.calls k _ _ l1 a2 t259 _ ?side1 ?side2 A8.out).mono ?_); (case side1 => repeat (first | exact (Kd.C_below HR1.out hb_) | (with_reducible refine Kd.C_alloc ?_ _) | (with_reducible refine Kd.C_drewN ?_ _) | (with_reducible refine Kd.C_drew ?_))); (case side2 => exact HC1.out); rintro e w10 ⟨rfl, hb⟩; refine ⟨_, rfl, ?_⟩; have n0_ := Aside0.mk (below_step hb_ hb); clear HB; have HB := n0_; clear n0_; (try clear hb); (try clear hb2); (try clear hk); (try clear hi)))
   go_ret2
   exact ⟨by first | rfl | (simp [errW_none, errW_some] <;> rfl) | (simp [*, errW_none, errW_some] <;> rfl), hb_⟩
  ·replace c7 := Bool.eq_false_iff.mpr c7
   subst c7
   have H1 : (some (0, false)) = some (r1, r2) := by rw [if_neg (show ¬ (false = true) by decide)] at H; exact H
   clear H
   have H := H1
   clear H1
   simp only [Option.some.injEq, Prod.mk.injEq] at H
   obtain ⟨rfl, rfl⟩ := H
   go_enter Try.func18, Try.ntmps18
   go_wp2_with (first | ((with_reducible refine gate_callee (f := 33) rfl ?_); refine goesL_ (some 10) rfl rfl Try.func33 (by kernel_rfl) rfl #[.int .i64 a0, .slice A1 l1.length c1] rfl ar_ ?_; (with_reducible refine (spec_cdGood.calls k a0 _ _ l1 true _ ?side1 ?side2 A4.out).mono ?_); (case side1 => repeat (first | exact HR1.out | (with_reducible refine Kd.C_alloc ?_ _) | (with_reducible refine Kd.C_drewN ?_ _) | (with_reducible refine Kd.C_drew ?_))); (case side2 => exact HC1.out); rintro e w11 ⟨rfl, hb⟩; refine ⟨_, rfl, ?_⟩; have n0_ := Aside0.mk (below_step hb_ hb); clear HB; have HB := n0_; clear n0_; (try clear hb); (try clear hb2); (try clear hk); (try clear hi)) | (go_at_call 34; (with_reducible refine (spec_l1In.calls a2 0 (wrap64 ((l1.length : Int) - 1)) false _ A6.out).mono ?_); rintro e w' ⟨rfl, ⟨nd, rfl⟩⟩))
   go_ret2
   exact ⟨by first | rfl | (simp [errW_none, errW_some] <;> rfl) | (simp [*, errW_none, errW_some] <;> rfl), hb_⟩
 ·replace c5 := Bool.eq_false_iff.mpr c5
  subst c5
  have H1 : (some (0, false)) = some (r1, r2) := by rw [if_neg (show ¬ (false = true) by decide)] at H; exact H
  clear H
  have H := H1
  clear H1
  simp only [Option.some.injEq, Prod.mk.injEq] at H
  obtain ⟨rfl, rfl⟩ := H
  go_enter Try.func18, Try.ntmps18
  go_wp2_with (first | ((with_reducible refine gate_callee (f := 33) rfl ?_); refine goesL_ (some 10) rfl rfl Try.func33 (by kernel_rfl) rfl #[.int .i64 a0, .slice A1 l1.length c1] rfl ar_ ?_; (with_reducible refine (spec_cdGood.calls k a0 _ _ l1 false _ ?side1 ?side2 A4.out).mono ?_); (case side1 => repeat (first | exact HR1.out | (with_reducible refine Kd.C_alloc ?_ _) | (with_reducible refine Kd.C_drewN ?_ _) | (with_reducible refine Kd.C_drew ?_))); (case side2 => exact HC1.out); rintro e w12 ⟨rfl, hb⟩; refine ⟨_, rfl, ?_⟩; have n0_ := Aside0.mk (below_step hb_ hb); clear HB; have HB := n0_; clear n0_; (try clear hb); (try clear hb2); (try clear hk); (try clear hi)))
  go_ret2
  exact ⟨by first | rfl | (simp [errW_none, errW_some] <;> rfl) | (simp [*, errW_none, errW_some] <;> rfl), hb_⟩
def impl_CountPieces.f (k : Nat) (a0 : Int) (l1 : List (S60)) : Option (Int × Bool) := (impl_isSet.f k a0 l1).bind fun t146 => (if t146 = true then ((impl_crossings.f k l1).bind fun t147 => (some (wrap64 ((l1.length : Int) + (wrap64 (2 * t147))), true))) else (some (0, false)))
theorem impl_CountPieces.mono : ∀ a0 a1 k, LeO (impl_CountPieces.f k a0 a1) (impl_CountPieces.f (k + 1) a0 a1) := by
 intro a0 a1 k
 unfold impl_CountPieces.f
 repeat' first
   | (with_reducible exact impl_crossings.mono _ _)
   | (with_reducible exact impl_isSet.mono _ _ _)
   | (with_reducible exact LeO.refl _)
   | (with_reducible exact LeO.none _)
   | (with_reducible refine LeO.ite ?_ ?_)
   | (with_reducible refine LeO.bind ?_ (fun _ => ?_))
   | exact impl_crossings.mono _ _
   | exact impl_isSet.mono _ _ _
   | exact LeO.none _
   | refine LeO.ite ?_ ?_
   | refine LeO.bind ?_ (fun _ => ?_)
set_option maxHeartbeats 8000000 in
set_option maxRecDepth 100000 in
theorem impl_CountPieces.calls (k : Nat) (a0 : Int) (A1 : Option Addr) (c1 : Nat) (l1 : List (S60)) (r1 : Int) (r2 : Bool) (w : World) (hr1 : Kd.C k60 w A1 l1.length l1) (hc1 : l1.length ≤ c1) (h : impl_CountPieces.f k a0 l1 = some (r1, r2)) :
  Calls Try.prog 10 #[.int .i64 a0, .slice A1 l1.length c1] w fun e w' => e = .returned (.tuple #[.int .i64 r1, .bool r2]) ∧ Below w.heap.size w w' := by
 have HR1 := Aside0.mk hr1
 have HC1 := Aside0.mk hc1
 clear hr1 hc1
 have HB := Aside0.mk (Below.refl w.heap.size w)
 have H : ((impl_isSet.f k a0 l1).bind fun t146 => (if t146 = true then ((impl_crossings.f k l1).bind fun t147 => (some (wrap64 ((l1.length : Int) + (wrap64 (2 * t147))), true))) else (some (0, false)))) = some (r1, r2) := h
 clear h
 replace H := bI H
 obtain ⟨t146, A30, H⟩ := H
 replace H : (if t146 = true then ((impl_crossings.f k l1).bind fun t147 => (some (wrap64 ((l1.length : Int) + (wrap64 (2 * t147))), true))) else (some (0, false))) = some (r1, r2) := H
 have A3 := Aside0.mk A30
 clear A30
 by_cases c4 : t146 = true
 ·subst c4
  have H1 : ((impl_crossings.f k l1).bind fun t147 => (some (wrap64 ((l1.length : Int) + (wrap64 (2 * t147))), true))) = some (r1, r2) := by rw [if_pos rfl] at H; exact H
  clear H
  have H := H1
  clear H1
  replace H := bI H
  obtain ⟨t147, A50, H⟩ := H
  replace H : (some (wrap64 ((l1.length : Int) + (wrap64 (2 * t147))), true)) = some (r1, r2) := H
  have A5 := Aside0.mk A50
  clear A50
  simp only [Option.some.injEq, Prod.mk.injEq] at H
  obtain ⟨rfl, rfl⟩ := H
  go_enter Try.func10, Try.ntmps10
  go_wp2_with (first | ((with_reducible refine gate_callee (f := 36) rfl ?_); refine goesL_ (some 8) rfl rfl Try.func36 (by kernel_rfl) rfl #[.int .i64 a0, .slice A1 l1.length c1] rfl ar_ ?_; (with_reducible refine (impl_isSet.calls k a0 _ _ l1 true _ ?side1 ?side2 A3.out).mono ?_); (case side1 => repeat (first | exact HR1.out | (with_reducible refine Kd.C_alloc ?_ _) | (with_reducible refine Kd.C_drewN ?_ _) | (with_reducible refine Kd.C_drew ?_))); (case side2 => exact HC1.out); rintro e w6 ⟨rfl, hb⟩; refine ⟨_, rfl, ?_⟩; have n0_ := Aside0.mk (below_step hb_ hb); clear HB; have HB := n0_; clear n0_; (try clear hb); (try clear hb2); (try clear hk); (try clear hi)) | ((with_reducible refine gate_callee (f := 37) rfl ?_); refine goesL_ (some 13) rfl rfl Try.func37 (by kernel_rfl) rfl #[.slice A1 l1.length c1] rfl ar_ ?_; (with_reducible refine (impl_crossings.calls k _ _ l1 t147 _ ?side1 ?side2 A5.out).mono ?_); (case side1 => repeat (first | exact (Kd.C_below HR1.out HB.out) | (with_reducible refine Kd.C_alloc ?_ _) | (with_reducible refine Kd.C_drewN ?_ _) | (with_reducible refine Kd.C_drew ?_))); (case side2 => exact HC1.out); rintro e w7 ⟨rfl, hb⟩; refine ⟨_, rfl, ?_⟩; have n0_ := Aside0.mk (below_step hb_ hb); clear HB; have HB := n0_; clear n0_; (try clear hb); (try clear hb2); (try clear hk); (try clear hi)))
  go_ret2
  exact ⟨by first | rfl | (simp [errW_none, errW_some] <;> rfl) | (simp [*, errW_none, errW_some] <;> rfl), hb_⟩
 ·replace c4 := Bool.eq_false_iff.mpr c4
  subst c4
  have H1 : (some (0, false)) = some (r1, r2) := by rw [if_neg (show ¬ (false = true) by decide)] at H; exact H
  clear H
  have H := H1
  clear H1
  simp only [Option.some.injEq, Prod.mk.injEq] at H
  obtain ⟨rfl, rfl⟩ := H
  go_enter Try.func10, Try.ntmps10
  go_wp2_with (first | ((with_reducible refine gate_callee (f := 36) rfl ?_); refine goesL_ (some 8) rfl rfl Try.func36 (by kernel_rfl) rfl #[.int .i64 a0, .slice A1 l1.length c1] rfl ar_ ?_; (with_reducible refine (impl_isSet.calls k a0 _ _ l1 false _ ?side1 ?side2 A3.out).mono ?_); (case side1 => repeat (first | exact HR1.out | (with_reducible refine Kd.C_alloc ?_ _) | (with_reducible refine Kd.C_drewN ?_ _) | (with_reducible refine Kd.C_drew ?_))); (case side2 => exact HC1.out); rintro e w8 ⟨rfl, hb⟩; refine ⟨_, rfl, ?_⟩; have n0_ := Aside0.mk (below_step hb_ hb); clear HB; have HB := n0_; clear n0_; (try clear hb); (try clear hb2); (try clear hk); (try clear hi)))
  go_ret2
  exact ⟨by first | rfl | (simp [errW_none, errW_some] <;> rfl) | (simp [*, errW_none, errW_some] <;> rfl), hb_⟩
def spec_CountPieces.l0 : Nat → List (S60) → Int → Int → Int → Option (Int × Bool)
 | 0, _, _, _, _ => none
 | k + 1, x1, x6, x13, x14 => if x14 < x13 then ((spec_rePieces.f k x1 x14).bind fun t254 => (spec_CountPieces.l0 k x1 (wrap64 (x6 + t254)) x13 (wrap64 (x14 + 1)))) else (some (x6, true))
def spec_CountPieces.f (k : Nat) (a0 : Int) (l1 : List (S60)) : Option (Int × Bool) := (spec_cdGood.f k a0 l1).bind fun t253 => (if t253 = true then (spec_CountPieces.l0 k l1 0 (l1.length : Int) 0) else (some (0, false)))
theorem spec_CountPieces.mono_l : ∀ k, (∀ y0 y1 y2 y3, LeO (spec_CountPieces.l0 k y0 y1 y2 y3) (spec_CountPieces.l0 (k + 1) y0 y1 y2 y3))
 | 0 => fun _ _ _ _ r h => by simp [spec_CountPieces.l0] at h
 | k + 1 => by
  have ih0 := spec_CountPieces.mono_l k
  ·intro y0 y1 y2 y3
   unfold spec_CountPieces.l0
   repeat' first
   | (with_reducible exact ih0 _ _ _ _)
   | (with_reducible exact spec_cdGood.mono _ _ _)
   | (with_reducible exact spec_rePieces.mono _ _ _)
   | (with_reducible exact LeO.refl _)
   | (with_reducible exact LeO.none _)
   | (with_reducible refine LeO.ite ?_ ?_)
   | (with_reducible refine LeO.bind ?_ (fun _ => ?_))
   | exact ih0 _ _ _ _
   | exact spec_cdGood.mono _ _ _
   | exact spec_rePieces.mono _ _ _
   | exact LeO.none _
   | refine LeO.ite ?_ ?_
   | refine LeO.bind ?_ (fun _ => ?_)
theorem spec_CountPieces.mono : ∀ a0 a1 k, LeO (spec_CountPieces.f k a0 a1) (spec_CountPieces.f (k + 1) a0 a1) := by
 intro a0 a1 k
 have ih0 := spec_CountPieces.mono_l k
 unfold spec_CountPieces.f
 repeat' first
   | (with_reducible exact ih0 _ _ _ _)
   | (with_reducible exact spec_cdGood.mono _ _ _)
   | (with_reducible exact spec_rePieces.mono _ _ _)
   | (with_reducible exact LeO.refl _)
   | (with_reducible exact LeO.none _)
   | (with_reducible refine LeO.ite ?_ ?_)
   | (with_reducible refine LeO.bind ?_ (fun _ => ?_))
   | exact ih0 _ _ _ _
   | exact spec_cdGood.mono _ _ _
   | exact spec_rePieces.mono _ _ _
   | exact LeO.none _
   | refine LeO.ite ?_ ?_
   | refine LeO.bind ?_ (fun _ => ?_)
set_option maxHeartbeats 8000000 in
set_option maxRecDepth 100000 in
theorem spec_CountPieces.calls (k : Nat) (a0 : Int) (A1 : Option Addr) (c1 : Nat) (l1 : List (S60)) (r1 : Int) (r2 : Bool) (w : World) (hr1 : Kd.C k60 w A1 l1.length l1) (hc1 : l1.length ≤ c1) (h : spec_CountPieces.f k a0 l1 = some (r1, r2)) :
  Calls Try.prog 11 #[.int .i64 a0, .slice A1 l1.length c1] w fun e w' => e = .returned (.tuple #[.int .i64 r1, .bool r2]) ∧ Below w.heap.size w w' := by
 have HR1 := Aside0.mk hr1
 have HC1 := Aside0.mk hc1
 clear hr1 hc1
 have HB := Aside0.mk (Below.refl w.heap.size w)
 have H : ((spec_cdGood.f k a0 l1).bind fun t253 => (if t253 = true then (spec_CountPieces.l0 k l1 0 (l1.length : Int) 0) else (some (0, false)))) = some (r1, r2) := h
 clear h
 replace H := bI H
 obtain ⟨t253, A30, H⟩ := H
 replace H : (if t253 = true then (spec_CountPieces.l0 k l1 0 (l1.length : Int) 0) else (some (0, false))) = some (r1, r2) := H
 have A3 := Aside0.mk A30
 clear A30
 by_cases c4 : t253 = true
 ·subst c4
  have H1 : (spec_CountPieces.l0 k l1 0 (l1.length : Int) 0) = some (r1, r2) := by rw [if_pos rfl] at H; exact H
  clear H
  have H := H1
  clear H1
  have H' := Aside0.mk H
  clear H
  go_enter Try.func11, Try.ntmps11
  go_wp2_with (first | ((with_reducible refine gate_callee (f := 33) rfl ?_); refine goesL_ (some 10) rfl rfl Try.func33 (by kernel_rfl) rfl #[.int .i64 a0, .slice A1 l1.length c1] rfl ar_ ?_; (with_reducible refine (spec_cdGood.calls k a0 _ _ l1 true _ ?side1 ?side2 A3.out).mono ?_); (case side1 => repeat (first | exact HR1.out | (with_reducible refine Kd.C_alloc ?_ _) | (with_reducible refine Kd.C_drewN ?_ _) | (with_reducible refine Kd.C_drew ?_))); (case side2 => exact HC1.out); rintro e w5 ⟨rfl, hb⟩; refine ⟨_, rfl, ?_⟩; have n0_ := Aside0.mk (below_step hb_ hb); clear HB; have HB := n0_; clear n0_; (try clear hb); (try clear hb2); (try clear hk); (try clear hi)))
  go_loopg [6, 14] k (fun kq v6 v14 w' => ∃ (x6_1 : Int) (x14_1 : Int), v6 = .int .i64 x6_1 ∧ v14 = .int .i64 x14_1 ∧ Aside0 (spec_CountPieces.l0 kq l1 x6_1 (l1.length : Int) x14_1 = some (r1, r2)) ∧ Aside0 (kq ≤ k) ∧ Aside0 (Below w.heap.size w w'))
  case atStart => exact ⟨(0), (0), (by first | rfl | (simp; done) | (simp [*]; done)), (by first | rfl | (simp; done) | (simp [*]; done)), H', ⟨Nat.le_refl _⟩, ⟨hb_⟩⟩
  case round =>
   clear H'
   try clear c1
   try clear p2
   try clear c3
   try clear c4
   obtain ⟨x6_1, x14_1, rfl, rfl, HA, HK1, HB⟩ := hrel
   cases gk with
   | zero => exact absurd HA.out (by simp [spec_CountPieces.l0])
   | succ k1 =>
    have H := HA.out
    clear HA
    simp only [spec_CountPieces.l0] at H
    by_cases c6 : x14_1 < (l1.length : Int)
    ·rw [if_pos c6] at H
     have c6b0 : decide (x14_1 < (l1.length : Int)) = true := decide_eq_true c6
     clear c6
     replace H := bI H
     obtain ⟨t254, A70, H⟩ := H
     replace H : (spec_CountPieces.l0 k1 l1 (wrap64 (x6_1 + t254)) (l1.length : Int) (wrap64 (x14_1 + 1))) = some (r1, r2) := H
     have A7 := Aside0.mk A70
     clear A70
     have H' := Aside0.mk H
     clear H
     go_wp2_with (first | ((with_reducible refine gate_callee (f := 39) rfl ?_); refine goesL_ (some 20) rfl rfl Try.func39 (by kernel_rfl) rfl #[.slice A1 l1.length c1, .int .i64 x14_1] rfl ar_ ?_; (with_reducible refine (spec_rePieces.calls k1 _ _ l1 x14_1 t254 _ ?side1 ?side2 A7.out).mono ?_); (case side1 => repeat (first | exact (Kd.C_below HR1.out HB.out) | (with_reducible refine Kd.C_alloc ?_ _) | (with_reducible refine Kd.C_drewN ?_ _) | (with_reducible refine Kd.C_drew ?_))); (case side2 => exact HC1.out); rintro e w8 ⟨rfl, hb⟩; refine ⟨_, rfl, ?_⟩; have n0_ := Aside0.mk (below_step hb_ hb); clear HB; have HB := n0_; clear n0_; (try clear hb); (try clear hb2); (try clear hk); (try clear hi)))
     go_roundg k1
     case measure => have := HK1.out; omega
     case rel => exact ⟨(wrap64 (x6_1 + t254)), (wrap64 (x14_1 + 1)), (by first | rfl | (simp; done) | (simp [*]; done)), (by first | rfl | (simp; done) | (simp [*]; done)), H', ⟨by have := HK1.out; omega⟩, ⟨hb_⟩⟩
    ·rw [if_neg c6] at H
     have c6b0 : decide (x14_1 < (l1.length : Int)) = false := decide_eq_false c6
     clear c6
     simp only [Option.some.injEq, Prod.mk.injEq] at H
     obtain ⟨rfl, rfl⟩ := H
     go_wp2
     go_ret2
     exact ⟨by first | rfl | (simp [errW_none, errW_some] <;> rfl) | (simp [*, errW_none, errW_some] <;> rfl), hb_⟩
 ·replace c4 := Bool.eq_false_iff.mpr c4
  subst c4
  have H1 : (some (0, false)) = some (r1, r2) := by rw [if_neg (show ¬ (false = true) by decide)] at H; exact H
  clear H
  have H := H1
  clear H1
  simp only [Option.some.injEq, Prod.mk.injEq] at H
  obtain ⟨rfl, rfl⟩ := H
  go_enter Try.func11, Try.ntmps11
  go_wp2_with (first | ((with_reducible refine gate_callee (f := 33) rfl ?_); refine goesL_ (some 10) rfl rfl Try.func33 (by kernel_rfl) rfl #[.int .i64 a0, .slice A1 l1.length c1] rfl ar_ ?_; (with_reducible refine (spec_cdGood.calls k a0 _ _ l1 false _ ?side1 ?side2 A3.out).mono ?_); (case side1 => repeat (first | exact HR1.out | (with_reducible refine Kd.C_alloc ?_ _) | (with_reducible refine Kd.C_drewN ?_ _) | (with_reducible refine Kd.C_drew ?_))); (case side2 => exact HC1.out); rintro e w9 ⟨rfl, hb⟩; refine ⟨_, rfl, ?_⟩; have n0_ := Aside0.mk (below_step hb_ hb); clear HB; have HB := n0_; clear n0_; (try clear hb); (try clear hb2); (try clear hk); (try clear hi)))
  go_ret2
  exact ⟨by first | rfl | (simp [errW_none, errW_some] <;> rfl) | (simp [*, errW_none, errW_some] <;> rfl), hb_⟩
def impl_ShadesOfArcs.l0 : Nat → List (S60) → List Int → Int → Int → Option (ByteArray × Bool)
 | 0, _, _, _, _ => none
 | k + 1, x1, x6, x13, x14 => if x14 < x13 then ((impl_parted.f k x1 0 x14).bind fun t152 => (if (Int.tmod t152 2) = 0 then (if x6.length < 140737488355328 then (impl_ShadesOfArcs.l0 k x1 (x6 ++ [108]) x13 (wrap64 (x14 + 1))) else (none)) else (if x6.length < 140737488355328 then (impl_ShadesOfArcs.l0 k x1 (x6 ++ [100]) x13 (wrap64 (x14 + 1))) else (none)))) else (some (strOfNums x6, true))
def impl_ShadesOfArcs.f (k : Nat) (a0 : Int) (l1 : List (S60)) : Option (ByteArray × Bool) := (impl_isSet.f k a0 l1).bind fun t148 => (if t148 = true then (impl_ShadesOfArcs.l0 k l1 (([] : List Int)) a0 0) else (some ((⟨#[]⟩ : ByteArray), false)))
theorem impl_ShadesOfArcs.mono_l : ∀ k, (∀ y0 y1 y2 y3, LeO (impl_ShadesOfArcs.l0 k y0 y1 y2 y3) (impl_ShadesOfArcs.l0 (k + 1) y0 y1 y2 y3))
 | 0 => fun _ _ _ _ r h => by simp [impl_ShadesOfArcs.l0] at h
 | k + 1 => by
  have ih0 := impl_ShadesOfArcs.mono_l k
  ·intro y0 y1 y2 y3
   unfold impl_ShadesOfArcs.l0
   repeat' first
   | (with_reducible exact ih0 _ _ _ _)
   | (with_reducible exact impl_isSet.mono _ _ _)
   | (with_reducible exact impl_parted.mono _ _ _ _)
   | (with_reducible exact LeO.refl _)
   | (with_reducible exact LeO.none _)
   | (with_reducible refine LeO.ite ?_ ?_)
   | (with_reducible refine LeO.bind ?_ (fun _ => ?_))
   | exact ih0 _ _ _ _
   | exact impl_isSet.mono _ _ _
   | exact impl_parted.mono _ _ _ _
   | exact LeO.none _
   | refine LeO.ite ?_ ?_
   | refine LeO.bind ?_ (fun _ => ?_)
theorem impl_ShadesOfArcs.mono : ∀ a0 a1 k, LeO (impl_ShadesOfArcs.f k a0 a1) (impl_ShadesOfArcs.f (k + 1) a0 a1) := by
 intro a0 a1 k
 have ih0 := impl_ShadesOfArcs.mono_l k
 unfold impl_ShadesOfArcs.f
 repeat' first
   | (with_reducible exact ih0 _ _ _ _)
   | (with_reducible exact impl_isSet.mono _ _ _)
   | (with_reducible exact impl_parted.mono _ _ _ _)
   | (with_reducible exact LeO.refl _)
   | (with_reducible exact LeO.none _)
   | (with_reducible refine LeO.ite ?_ ?_)
   | (with_reducible refine LeO.bind ?_ (fun _ => ?_))
   | exact ih0 _ _ _ _
   | exact impl_isSet.mono _ _ _
   | exact impl_parted.mono _ _ _ _
   | exact LeO.none _
   | refine LeO.ite ?_ ?_
   | refine LeO.bind ?_ (fun _ => ?_)
set_option maxHeartbeats 8000000 in
set_option maxRecDepth 100000 in
theorem impl_ShadesOfArcs.calls (k : Nat) (a0 : Int) (A1 : Option Addr) (c1 : Nat) (l1 : List (S60)) (r1 : ByteArray) (r2 : Bool) (w : World) (hr1 : Kd.C k60 w A1 l1.length l1) (hc1 : l1.length ≤ c1) (h : impl_ShadesOfArcs.f k a0 l1 = some (r1, r2)) :
  Calls Try.prog 12 #[.int .i64 a0, .slice A1 l1.length c1] w fun e w' => e = .returned (.tuple #[.string r1, .bool r2]) ∧ Below w.heap.size w w' := by
 have HR1 := Aside0.mk hr1
 have HC1 := Aside0.mk hc1
 clear hr1 hc1
 have HB := Aside0.mk (Below.refl w.heap.size w)
 have H : ((impl_isSet.f k a0 l1).bind fun t148 => (if t148 = true then (impl_ShadesOfArcs.l0 k l1 (([] : List Int)) a0 0) else (some ((⟨#[]⟩ : ByteArray), false)))) = some (r1, r2) := h
 clear h
 replace H := bI H
 obtain ⟨t148, A30, H⟩ := H
 replace H : (if t148 = true then (impl_ShadesOfArcs.l0 k l1 (([] : List Int)) a0 0) else (some ((⟨#[]⟩ : ByteArray), false))) = some (r1, r2) := H
 have A3 := Aside0.mk A30
 clear A30
 by_cases c4 : t148 = true
 ·subst c4
  have H1 : (impl_ShadesOfArcs.l0 k l1 (([] : List Int)) a0 0) = some (r1, r2) := by rw [if_pos rfl] at H; exact H
  clear H
  have H := H1
  clear H1
  obtain ⟨y149, hy149⟩ : ∃ y_ : List Int, y_ = (([] : List Int)) := ⟨_, rfl⟩
  replace H : (impl_ShadesOfArcs.l0 k l1 y149 a0 0) = some (r1, r2) := by first | (rw [hy149]; with_reducible exact H) | (have H2_ := (Option.bind_some _ _).symm.trans H; rw [hy149]; with_reducible exact H2_) | (have H2_ := (Option.bind_some _ _).symm.trans H; with_reducible exact H2_) | with_reducible exact H | (rw [hy149]; exact H) | exact H
  have Ny149 := Aside0.mk hy149
  clear hy149
  have H' := Aside0.mk H
  clear H
  go_enter Try.func12, Try.ntmps12
  go_wp2_with (first | ((with_reducible refine gate_callee (f := 36) rfl ?_); refine goesL_ (some 10) rfl rfl Try.func36 (by kernel_rfl) rfl #[.int .i64 a0, .slice A1 l1.length c1] rfl ar_ ?_; (with_reducible refine (impl_isSet.calls k a0 _ _ l1 true _ ?side1 ?side2 A3.out).mono ?_); (case side1 => repeat (first | exact HR1.out | (with_reducible refine Kd.C_alloc ?_ _) | (with_reducible refine Kd.C_drewN ?_ _) | (with_reducible refine Kd.C_drew ?_))); (case side2 => exact HC1.out); rintro e w5 ⟨rfl, hb⟩; refine ⟨_, rfl, ?_⟩; have n0_ := Aside0.mk (below_step hb_ hb); clear HB; have HB := n0_; clear n0_; (try clear hb); (try clear hb2); (try clear hk); (try clear hi)) | ((with_reducible refine gate_dst (N := 12) rfl ?_); refine Kd.R_lit (Kd.int .u8) _ 5 ?hg (N := 12) ?hd (xs := ([] : List Int)) (inner := []) (ok := fun _ => True) (okp := fun _ => True) ?hr ?hp (fun _ hk => hk) trivial (Below.refl _ _) (Nat.le_refl _) (by simp) ?_; (case hd => rfl); (case hg => rfl); (case hr => first | (go_simp; done) | (go_simp; rfl)); (case hp => exact (Reps.none _ _)); intro v150 w6 ho7 hb hg_ hnew_; clear hg_ hnew_; (first | rw [← Ny149.out] at ho7 | (simp only [Int.reduceToNat] at ho7; rw [← Ny149.out] at ho7)); have n0_ := Aside0.mk (Kd.R_lower ho7 (below_size hb_)); have n1_ := Aside0.mk (below_step hb_ hb); clear HB; have HO151 := n0_; have HB := n1_; clear n0_ n1_; clear hb ho7))
  go_loopg [6, 14] k (fun kq v6 v14 w' => ∃ (x6_1 : List Int) (x14_1 : Int), v14 = .int .i64 x14_1 ∧ Aside0 (impl_ShadesOfArcs.l0 kq l1 x6_1 a0 x14_1 = some (r1, r2)) ∧ Aside0 (kq ≤ k) ∧ Aside0 (Kd.R (Kd.int .u8) 5 w' w.heap.size (fun _ => True) v6 x6_1) ∧ Aside0 (Below w.heap.size w w'))
  case atStart => exact ⟨(y149), (0), (by first | rfl | (simp; done) | (simp [*]; done)), H', ⟨Nat.le_refl _⟩, ⟨by (with_reducible repeat (first | apply rA | apply rN | apply rD)); exact HO151.out⟩, ⟨hb_⟩⟩
  case round =>
   clear H'
   try clear c1
   try clear p2
   try clear c3
   try clear c4
   obtain ⟨x6_1, x14_1, rfl, HA, HK1, HO_6, HB⟩ := hrel
   cases gk with
   | zero => exact absurd HA.out (by simp [impl_ShadesOfArcs.l0])
   | succ k1 =>
    have H := HA.out
    clear HA
    simp only [impl_ShadesOfArcs.l0] at H
    by_cases c8 : x14_1 < a0
    ·rw [if_pos c8] at H
     have c8b0 : decide (x14_1 < a0) = true := decide_eq_true c8
     clear c8
     replace H := bI H
     obtain ⟨t152, A90, H⟩ := H
     replace H : (if (Int.tmod t152 2) = 0 then (if x6_1.length < 140737488355328 then (impl_ShadesOfArcs.l0 k1 l1 (x6_1 ++ [108]) a0 (wrap64 (x14_1 + 1))) else (none)) else (if x6_1.length < 140737488355328 then (impl_ShadesOfArcs.l0 k1 l1 (x6_1 ++ [100]) a0 (wrap64 (x14_1 + 1))) else (none))) = some (r1, r2) := H
     have A9 := Aside0.mk A90
     clear A90
     by_cases c10 : (Int.tmod t152 2) = 0
     ·rw [if_pos c10] at H
      have c10b0 : ((Int.tmod t152 2) == 0) = true := beq_iff_eq.mpr c10
      have c10b1 : ((Int.tmod t152 2) != 0) = false := bne_eq_false_iff_eq.mpr c10
      clear c10
      by_cases c11 : x6_1.length < 140737488355328
      ·rw [if_pos c11] at H
       have LMc11 := Aside0.mk c11
       clear c11
       obtain ⟨y153, hy153⟩ : ∃ y_ : List Int, y_ = (x6_1 ++ [108]) := ⟨_, rfl⟩
       replace H : (impl_ShadesOfArcs.l0 k1 l1 y153 a0 (wrap64 (x14_1 + 1))) = some (r1, r2) := by first | (rw [hy153]; with_reducible exact H) | (have H2_ := (Option.bind_some _ _).symm.trans H; rw [hy153]; with_reducible exact H2_) | (have H2_ := (Option.bind_some _ _).symm.trans H; with_reducible exact H2_) | with_reducible exact H | (rw [hy153]; exact H) | exact H
       have Ny153 := Aside0.mk hy153
       clear hy153
       have H' := Aside0.mk H
       clear H
       go_wp2_with (first | ((with_reducible refine gate_callee (f := 32) rfl ?_); refine goesL_ (some 19) rfl rfl Try.func32 (by kernel_rfl) rfl #[.slice A1 l1.length c1, .int .i64 0, .int .i64 x14_1] rfl ar_ ?_; (with_reducible refine (impl_parted.calls k1 _ _ l1 0 x14_1 t152 _ ?side1 ?side2 A9.out).mono ?_); (case side1 => repeat (first | exact (Kd.C_below HR1.out HB.out) | (with_reducible refine Kd.C_alloc ?_ _) | (with_reducible refine Kd.C_drewN ?_ _) | (with_reducible refine Kd.C_drew ?_))); (case side2 => exact HC1.out); rintro e w12 ⟨rfl, hb⟩; refine ⟨_, rfl, ?_⟩; have n0_ := Aside0.mk (Kd.R_below (ra_ HO_6.out) hb); have n1_ := Aside0.mk (below_step hb_ hb); clear HO_6; clear HB; have HO_6 := n0_; have HB := n1_; clear n0_ n1_; (try clear hb); (try clear hb2); (try clear hk); (try clear hi)) | ((with_reducible refine gate_builtin (b := .append) (xs := #[.tmp 22, .tmp 23]) rfl ?_); at_builtin; refine Kd.R_append (Kd.int .u8) (w0 := w) w.heap.size rfl (.tmp 22) (.tmp 23) 22 5 (.int .u8 0) 1 rfl Try.underlying22 info5 rfl (by decide) (by omega) u6 x6_1 108 [.int .u8 108] (fun _ => True) (fun _ => False) rfl rfl ?aP (fun _ hk => hk.elim) ?aF ?aO ?aB ?aS ?aL ?_; (case aP => exact rfl); (case aB => exact hb_); (case aF => exact (fun _ _ => trivial)); (case aO => exact (ra_ HO_6.out)); (case aS => exact (below_size hb_)); (case aL => have := LMc11.out; omega); intro v154 w13 ho hb hg hat; rw [← Ny153.out] at ho; have n0_ := Aside0.mk (hb); have n1_ := Aside0.mk (ho); clear HB; clear HO_6; have HB := n0_; have HO155 := n1_; clear n0_ n1_; clear ho hb hg hat))
       go_roundg k1
       case measure => have := HK1.out; omega
       case rel => exact ⟨(y153), (wrap64 (x14_1 + 1)), (by first | rfl | (simp; done) | (simp [*]; done)), H', ⟨by have := HK1.out; omega⟩, ⟨by (with_reducible repeat (first | apply rA | apply rN | apply rD)); exact HO155.out⟩, ⟨hb_⟩⟩
      ·rw [if_neg c11] at H
       exact absurd H (by simp)
     ·rw [if_neg c10] at H
      have c10b0 : ((Int.tmod t152 2) == 0) = false := beq_eq_false_iff_ne.mpr c10
      have c10b1 : ((Int.tmod t152 2) != 0) = true := bne_iff_ne.mpr c10
      by_cases c14 : x6_1.length < 140737488355328
      ·rw [if_pos c14] at H
       have LMc14 := Aside0.mk c14
       clear c14
       obtain ⟨y156, hy156⟩ : ∃ y_ : List Int, y_ = (x6_1 ++ [100]) := ⟨_, rfl⟩
       replace H : (impl_ShadesOfArcs.l0 k1 l1 y156 a0 (wrap64 (x14_1 + 1))) = some (r1, r2) := by first | (rw [hy156]; with_reducible exact H) | (have H2_ := (Option.bind_some _ _).symm.trans H; rw [hy156]; with_reducible exact H2_) | (have H2_ := (Option.bind_some _ _).symm.trans H; with_reducible exact H2_) | with_reducible exact H | (rw [hy156]; exact H) | exact H
       have Ny156 := Aside0.mk hy156
       clear hy156
       have H' := Aside0.mk H
       clear H
       go_wp2_with (first | ((with_reducible refine gate_callee (f := 32) rfl ?_); refine goesL_ (some 19) rfl rfl Try.func32 (by kernel_rfl) rfl #[.slice A1 l1.length c1, .int .i64 0, .int .i64 x14_1] rfl ar_ ?_; (with_reducible refine (impl_parted.calls k1 _ _ l1 0 x14_1 t152 _ ?side1 ?side2 A9.out).mono ?_); (case side1 => repeat (first | exact (Kd.C_below HR1.out HB.out) | (with_reducible refine Kd.C_alloc ?_ _) | (with_reducible refine Kd.C_drewN ?_ _) | (with_reducible refine Kd.C_drew ?_))); (case side2 => exact HC1.out); rintro e w15 ⟨rfl, hb⟩; refine ⟨_, rfl, ?_⟩; have n0_ := Aside0.mk (Kd.R_below (ra_ HO_6.out) hb); have n1_ := Aside0.mk (below_step hb_ hb); clear HO_6; clear HB; have HO_6 := n0_; have HB := n1_; clear n0_ n1_; (try clear hb); (try clear hb2); (try clear hk); (try clear hi)) | ((with_reducible refine gate_builtin (b := .append) (xs := #[.tmp 25, .tmp 26]) rfl ?_); at_builtin; refine Kd.R_append (Kd.int .u8) (w0 := w) w.heap.size rfl (.tmp 25) (.tmp 26) 22 5 (.int .u8 0) 1 rfl Try.underlying22 info5 rfl (by decide) (by omega) u6 x6_1 100 [.int .u8 100] (fun _ => True) (fun _ => False) rfl rfl ?aP (fun _ hk => hk.elim) ?aF ?aO ?aB ?aS ?aL ?_; (case aP => exact rfl); (case aB => exact hb_); (case aF => exact (fun _ _ => trivial)); (case aO => exact (ra_ HO_6.out)); (case aS => exact (below_size hb_)); (case aL => have := LMc14.out; omega); intro v157 w16 ho hb hg hat; rw [← Ny156.out] at ho; have n0_ := Aside0.mk (hb); have n1_ := Aside0.mk (ho); clear HB; clear HO_6; have HB := n0_; have HO158 := n1_; clear n0_ n1_; clear ho hb hg hat))
       go_roundg k1
       case measure => have := HK1.out; omega
       case rel => exact ⟨(y156), (wrap64 (x14_1 + 1)), (by first | rfl | (simp; done) | (simp [*]; done)), H', ⟨by have := HK1.out; omega⟩, ⟨by (with_reducible repeat (first | apply rA | apply rN | apply rD)); exact HO158.out⟩, ⟨hb_⟩⟩
      ·rw [if_neg c14] at H
       exact absurd H (by simp)
    ·rw [if_neg c8] at H
     have c8b0 : decide (x14_1 < a0) = false := decide_eq_false c8
     clear c8
     simp only [Option.some.injEq, Prod.mk.injEq] at H
     obtain ⟨rfl, rfl⟩ := H
     have hcv17 := own_string (P := Try.prog) Try.underlying22 Try.underlying5 Try.underlying9 (Kd.own_of_R HO_6.out)
     go_wp2
     go_ret2
     exact ⟨by first | rfl | (simp [errW_none, errW_some] <;> rfl) | (simp [*, errW_none, errW_some] <;> rfl), hb_⟩
 ·replace c4 := Bool.eq_false_iff.mpr c4
  subst c4
  have H1 : (some ((⟨#[]⟩ : ByteArray), false)) = some (r1, r2) := by rw [if_neg (show ¬ (false = true) by decide)] at H; exact H
  clear H
  have H := H1
  clear H1
  simp only [Option.some.injEq, Prod.mk.injEq] at H
  obtain ⟨rfl, rfl⟩ := H
  go_enter Try.func12, Try.ntmps12
  go_wp2_with (first | ((with_reducible refine gate_callee (f := 36) rfl ?_); refine goesL_ (some 10) rfl rfl Try.func36 (by kernel_rfl) rfl #[.int .i64 a0, .slice A1 l1.length c1] rfl ar_ ?_; (with_reducible refine (impl_isSet.calls k a0 _ _ l1 false _ ?side1 ?side2 A3.out).mono ?_); (case side1 => repeat (first | exact HR1.out | (with_reducible refine Kd.C_alloc ?_ _) | (with_reducible refine Kd.C_drewN ?_ _) | (with_reducible refine Kd.C_drew ?_))); (case side2 => exact HC1.out); rintro e w18 ⟨rfl, hb⟩; refine ⟨_, rfl, ?_⟩; have n0_ := Aside0.mk (below_step hb_ hb); clear HB; have HB := n0_; clear n0_; (try clear hb); (try clear hb2); (try clear hk); (try clear hi)))
  go_ret2
  exact ⟨by first | rfl | (simp [errW_none, errW_some] <;> rfl) | (simp [*, errW_none, errW_some] <;> rfl), hb_⟩
def spec_ShadesOfArcs.l0 : Nat → Int → List (S60) → ByteArray → Int → Option (ByteArray × Bool)
 | 0, _, _, _, _ => none
 | k + 1, x0, x1, x6, x7 => if x7 < x0 then ((spec_reParted.f k x1 0 x7).bind fun t256 => (if (Int.tmod t256 2) = 0 then (if x6.size + 1 ≤ 9223372036854775807 then (spec_ShadesOfArcs.l0 k x0 x1 (x6 ++ (⟨#[108]⟩ : ByteArray)) (wrap64 (x7 + 1))) else (none)) else (if x6.size + 1 ≤ 9223372036854775807 then (spec_ShadesOfArcs.l0 k x0 x1 (x6 ++ (⟨#[100]⟩ : ByteArray)) (wrap64 (x7 + 1))) else (none)))) else (some (x6, true))
def spec_ShadesOfArcs.f (k : Nat) (a0 : Int) (l1 : List (S60)) : Option (ByteArray × Bool) := (spec_cdGood.f k a0 l1).bind fun t255 => (if t255 = true then (spec_ShadesOfArcs.l0 k a0 l1 (⟨#[]⟩ : ByteArray) 0) else (some ((⟨#[]⟩ : ByteArray), false)))
theorem spec_ShadesOfArcs.mono_l : ∀ k, (∀ y0 y1 y2 y3, LeO (spec_ShadesOfArcs.l0 k y0 y1 y2 y3) (spec_ShadesOfArcs.l0 (k + 1) y0 y1 y2 y3))
 | 0 => fun _ _ _ _ r h => by simp [spec_ShadesOfArcs.l0] at h
 | k + 1 => by
  have ih0 := spec_ShadesOfArcs.mono_l k
  ·intro y0 y1 y2 y3
   unfold spec_ShadesOfArcs.l0
   repeat' first
   | (with_reducible exact ih0 _ _ _ _)
   | (with_reducible exact spec_cdGood.mono _ _ _)
   | (with_reducible exact spec_reParted.mono _ _ _ _)
   | (with_reducible exact LeO.refl _)
   | (with_reducible exact LeO.none _)
   | (with_reducible refine LeO.ite ?_ ?_)
   | (with_reducible refine LeO.bind ?_ (fun _ => ?_))
   | exact ih0 _ _ _ _
   | exact spec_cdGood.mono _ _ _
   | exact spec_reParted.mono _ _ _ _
   | exact LeO.none _
   | refine LeO.ite ?_ ?_
   | refine LeO.bind ?_ (fun _ => ?_)
theorem spec_ShadesOfArcs.mono : ∀ a0 a1 k, LeO (spec_ShadesOfArcs.f k a0 a1) (spec_ShadesOfArcs.f (k + 1) a0 a1) := by
 intro a0 a1 k
 have ih0 := spec_ShadesOfArcs.mono_l k
 unfold spec_ShadesOfArcs.f
 repeat' first
   | (with_reducible exact ih0 _ _ _ _)
   | (with_reducible exact spec_cdGood.mono _ _ _)
   | (with_reducible exact spec_reParted.mono _ _ _ _)
   | (with_reducible exact LeO.refl _)
   | (with_reducible exact LeO.none _)
   | (with_reducible refine LeO.ite ?_ ?_)
   | (with_reducible refine LeO.bind ?_ (fun _ => ?_))
   | exact ih0 _ _ _ _
   | exact spec_cdGood.mono _ _ _
   | exact spec_reParted.mono _ _ _ _
   | exact LeO.none _
   | refine LeO.ite ?_ ?_
   | refine LeO.bind ?_ (fun _ => ?_)
set_option maxHeartbeats 8000000 in
set_option maxRecDepth 100000 in
theorem spec_ShadesOfArcs.calls (k : Nat) (a0 : Int) (A1 : Option Addr) (c1 : Nat) (l1 : List (S60)) (r1 : ByteArray) (r2 : Bool) (w : World) (hr1 : Kd.C k60 w A1 l1.length l1) (hc1 : l1.length ≤ c1) (h : spec_ShadesOfArcs.f k a0 l1 = some (r1, r2)) :
  Calls Try.prog 13 #[.int .i64 a0, .slice A1 l1.length c1] w fun e w' => e = .returned (.tuple #[.string r1, .bool r2]) ∧ Below w.heap.size w w' := by
 have HR1 := Aside0.mk hr1
 have HC1 := Aside0.mk hc1
 clear hr1 hc1
 have HB := Aside0.mk (Below.refl w.heap.size w)
 have H : ((spec_cdGood.f k a0 l1).bind fun t255 => (if t255 = true then (spec_ShadesOfArcs.l0 k a0 l1 (⟨#[]⟩ : ByteArray) 0) else (some ((⟨#[]⟩ : ByteArray), false)))) = some (r1, r2) := h
 clear h
 replace H := bI H
 obtain ⟨t255, A30, H⟩ := H
 replace H : (if t255 = true then (spec_ShadesOfArcs.l0 k a0 l1 (⟨#[]⟩ : ByteArray) 0) else (some ((⟨#[]⟩ : ByteArray), false))) = some (r1, r2) := H
 have A3 := Aside0.mk A30
 clear A30
 by_cases c4 : t255 = true
 ·subst c4
  have H1 : (spec_ShadesOfArcs.l0 k a0 l1 (⟨#[]⟩ : ByteArray) 0) = some (r1, r2) := by rw [if_pos rfl] at H; exact H
  clear H
  have H := H1
  clear H1
  have H' := Aside0.mk H
  clear H
  go_enter Try.func13, Try.ntmps13
  go_wp2_with (first | ((with_reducible refine gate_callee (f := 33) rfl ?_); refine goesL_ (some 10) rfl rfl Try.func33 (by kernel_rfl) rfl #[.int .i64 a0, .slice A1 l1.length c1] rfl ar_ ?_; (with_reducible refine (spec_cdGood.calls k a0 _ _ l1 true _ ?side1 ?side2 A3.out).mono ?_); (case side1 => repeat (first | exact HR1.out | (with_reducible refine Kd.C_alloc ?_ _) | (with_reducible refine Kd.C_drewN ?_ _) | (with_reducible refine Kd.C_drew ?_))); (case side2 => exact HC1.out); rintro e w5 ⟨rfl, hb⟩; refine ⟨_, rfl, ?_⟩; have n0_ := Aside0.mk (below_step hb_ hb); clear HB; have HB := n0_; clear n0_; (try clear hb); (try clear hb2); (try clear hk); (try clear hi)))
  go_loopg [6, 7] k (fun kq v6 v7 w' => ∃ (x6_1 : ByteArray) (x7_1 : Int), v6 = .string x6_1 ∧ v7 = .int .i64 x7_1 ∧ Aside0 (spec_ShadesOfArcs.l0 kq a0 l1 x6_1 x7_1 = some (r1, r2)) ∧ Aside0 (kq ≤ k) ∧ Aside0 (Below w.heap.size w w'))
  case atStart => exact ⟨((⟨#[]⟩ : ByteArray)), (0), (by first | rfl | (simp; done) | (simp [*]; done)), (by first | rfl | (simp; done) | (simp [*]; done)), H', ⟨Nat.le_refl _⟩, ⟨hb_⟩⟩
  case round =>
   clear H'
   try clear c1
   try clear p2
   try clear c3
   try clear c4
   obtain ⟨x6_1, x7_1, rfl, rfl, HA, HK1, HB⟩ := hrel
   cases gk with
   | zero => exact absurd HA.out (by simp [spec_ShadesOfArcs.l0])
   | succ k1 =>
    have H := HA.out
    clear HA
    simp only [spec_ShadesOfArcs.l0] at H
    by_cases c6 : x7_1 < a0
    ·rw [if_pos c6] at H
     have c6b0 : decide (x7_1 < a0) = true := decide_eq_true c6
     clear c6
     replace H := bI H
     obtain ⟨t256, A70, H⟩ := H
     replace H : (if (Int.tmod t256 2) = 0 then (if x6_1.size + 1 ≤ 9223372036854775807 then (spec_ShadesOfArcs.l0 k1 a0 l1 (x6_1 ++ (⟨#[108]⟩ : ByteArray)) (wrap64 (x7_1 + 1))) else (none)) else (if x6_1.size + 1 ≤ 9223372036854775807 then (spec_ShadesOfArcs.l0 k1 a0 l1 (x6_1 ++ (⟨#[100]⟩ : ByteArray)) (wrap64 (x7_1 + 1))) else (none))) = some (r1, r2) := H
     have A7 := Aside0.mk A70
     clear A70
     by_cases c8 : (Int.tmod t256 2) = 0
     ·rw [if_pos c8] at H
      have c8b0 : ((Int.tmod t256 2) == 0) = true := beq_iff_eq.mpr c8
      have c8b1 : ((Int.tmod t256 2) != 0) = false := bne_eq_false_iff_eq.mpr c8
      clear c8
      by_cases c9 : x6_1.size + 1 ≤ 9223372036854775807
      ·rw [if_pos c9] at H
       have c9b0 := eq_true c9
       have c9b1 : decide (x6_1.size + 1 ≤ 9223372036854775807) = true := decide_eq_true c9
       try have c9b2 : (9223372036854775807 < x6_1.size + 1) = False := eq_false (Nat.not_lt.2 c9)
       have H' := Aside0.mk H
       clear H
       go_wp2_with (first | ((with_reducible refine gate_callee (f := 35) rfl ?_); refine goesL_ (some 19) rfl rfl Try.func35 (by kernel_rfl) rfl #[.slice A1 l1.length c1, .int .i64 0, .int .i64 x7_1] rfl ar_ ?_; (with_reducible refine (spec_reParted.calls k1 _ _ l1 0 x7_1 t256 _ ?side1 ?side2 A7.out).mono ?_); (case side1 => repeat (first | exact (Kd.C_below HR1.out HB.out) | (with_reducible refine Kd.C_alloc ?_ _) | (with_reducible refine Kd.C_drewN ?_ _) | (with_reducible refine Kd.C_drew ?_))); (case side2 => exact HC1.out); rintro e w10 ⟨rfl, hb⟩; refine ⟨_, rfl, ?_⟩; have n0_ := Aside0.mk (below_step hb_ hb); clear HB; have HB := n0_; clear n0_; (try clear hb); (try clear hb2); (try clear hk); (try clear hi)))
       go_roundg k1
       case measure => have := HK1.out; omega
       case rel => exact ⟨(x6_1 ++ (⟨#[108]⟩ : ByteArray)), (wrap64 (x7_1 + 1)), (by first | rfl | (simp; done) | (simp [*]; done)), (by first | rfl | (simp; done) | (simp [*]; done)), H', ⟨by have := HK1.out; omega⟩, ⟨hb_⟩⟩
      ·rw [if_neg c9] at H
       exact absurd H (by simp)
     ·rw [if_neg c8] at H
      have c8b0 : ((Int.tmod t256 2) == 0) = false := beq_eq_false_iff_ne.mpr c8
      have c8b1 : ((Int.tmod t256 2) != 0) = true := bne_iff_ne.mpr c8
      by_cases c11 : x6_1.size + 1 ≤ 9223372036854775807
      ·rw [if_pos c11] at H
       have c11b0 := eq_true c11
       have c11b1 : decide (x6_1.size + 1 ≤ 9223372036854775807) = true := decide_eq_true c11
       try have c11b2 : (9223372036854775807 < x6_1.size + 1) = False := eq_false (Nat.not_lt.2 c11)
       have H' := Aside0.mk H
       clear H
       go_wp2_with (first | ((with_reducible refine gate_callee (f := 35) rfl ?_); refine goesL_ (some 19) rfl rfl Try.func35 (by kernel_rfl) rfl #[.slice A1 l1.length c1, .int .i64 0, .int .i64 x7_1] rfl ar_ ?_; (with_reducible refine (spec_reParted.calls k1 _ _ l1 0 x7_1 t256 _ ?side1 ?side2 A7.out).mono ?_); (case side1 => repeat (first | exact (Kd.C_below HR1.out HB.out) | (with_reducible refine Kd.C_alloc ?_ _) | (with_reducible refine Kd.C_drewN ?_ _) | (with_reducible refine Kd.C_drew ?_))); (case side2 => exact HC1.out); rintro e w12 ⟨rfl, hb⟩; refine ⟨_, rfl, ?_⟩; have n0_ := Aside0.mk (below_step hb_ hb); clear HB; have HB := n0_; clear n0_; (try clear hb); (try clear hb2); (try clear hk); (try clear hi)))
       go_roundg k1
       case measure => have := HK1.out; omega
       case rel => exact ⟨(x6_1 ++ (⟨#[100]⟩ : ByteArray)), (wrap64 (x7_1 + 1)), (by first | rfl | (simp; done) | (simp [*]; done)), (by first | rfl | (simp; done) | (simp [*]; done)), H', ⟨by have := HK1.out; omega⟩, ⟨hb_⟩⟩
      ·rw [if_neg c11] at H
       exact absurd H (by simp)
    ·rw [if_neg c6] at H
     have c6b0 : decide (x7_1 < a0) = false := decide_eq_false c6
     clear c6
     simp only [Option.some.injEq, Prod.mk.injEq] at H
     obtain ⟨rfl, rfl⟩ := H
     go_wp2
     go_ret2
     exact ⟨by first | rfl | (simp [errW_none, errW_some] <;> rfl) | (simp [*, errW_none, errW_some] <;> rfl), hb_⟩
 ·replace c4 := Bool.eq_false_iff.mpr c4
  subst c4
  have H1 : (some ((⟨#[]⟩ : ByteArray), false)) = some (r1, r2) := by rw [if_neg (show ¬ (false = true) by decide)] at H; exact H
  clear H
  have H := H1
  clear H1
  simp only [Option.some.injEq, Prod.mk.injEq] at H
  obtain ⟨rfl, rfl⟩ := H
  go_enter Try.func13, Try.ntmps13
  go_wp2_with (first | ((with_reducible refine gate_callee (f := 33) rfl ?_); refine goesL_ (some 10) rfl rfl Try.func33 (by kernel_rfl) rfl #[.int .i64 a0, .slice A1 l1.length c1] rfl ar_ ?_; (with_reducible refine (spec_cdGood.calls k a0 _ _ l1 false _ ?side1 ?side2 A3.out).mono ?_); (case side1 => repeat (first | exact HR1.out | (with_reducible refine Kd.C_alloc ?_ _) | (with_reducible refine Kd.C_drewN ?_ _) | (with_reducible refine Kd.C_drew ?_))); (case side2 => exact HC1.out); rintro e w13 ⟨rfl, hb⟩; refine ⟨_, rfl, ?_⟩; have n0_ := Aside0.mk (below_step hb_ hb); clear HB; have HB := n0_; clear n0_; (try clear hb); (try clear hb2); (try clear hk); (try clear hi)))
  go_ret2
  exact ⟨by first | rfl | (simp [errW_none, errW_some] <;> rfl) | (simp [*, errW_none, errW_some] <;> rfl), hb_⟩
def impl_RegionsOfStar.f (k : Nat) (a0_0 : Int) (a0_1 : Int) : Option (Int × Bool) := (impl_IsStar.f a0_0 a0_1).bind fun t198 => (if t198 = true then ((impl_Star_chords.f k a0_0 a0_1).bind fun t199 => ((impl_crossings.f k t199).bind fun t202 => (some (wrap64 ((wrap64 (1 + (t199.length : Int))) + t202), true)))) else (some (0, false)))
theorem impl_RegionsOfStar.mono : ∀ a0 a1 k, LeO (impl_RegionsOfStar.f k a0 a1) (impl_RegionsOfStar.f (k + 1) a0 a1) := by
 intro a0 a1 k
 unfold impl_RegionsOfStar.f
 repeat' first
   | (with_reducible exact impl_Star_chords.mono _ _ _)
   | (with_reducible exact impl_crossings.mono _ _)
   | (with_reducible exact LeO.refl _)
   | (with_reducible exact LeO.none _)
   | (with_reducible refine LeO.ite ?_ ?_)
   | (with_reducible refine LeO.bind ?_ (fun _ => ?_))
   | exact impl_Star_chords.mono _ _ _
   | exact impl_crossings.mono _ _
   | exact LeO.none _
   | refine LeO.ite ?_ ?_
   | refine LeO.bind ?_ (fun _ => ?_)
set_option maxHeartbeats 8000000 in
set_option maxRecDepth 100000 in
theorem impl_RegionsOfStar.calls (k : Nat) (a0_0 : Int) (a0_1 : Int) (r1 : Int) (r2 : Bool) (w : World) (h : impl_RegionsOfStar.f k a0_0 a0_1 = some (r1, r2)) :
  Calls Try.prog 20 #[.agg #[.int .i64 a0_0, .int .i64 a0_1]] w fun e w' => e = .returned (.tuple #[.int .i64 r1, .bool r2]) ∧ Below w.heap.size w w' := by
 have hu37 := Try.underlying37
 have HB := Aside0.mk (Below.refl w.heap.size w)
 have H : ((impl_IsStar.f a0_0 a0_1).bind fun t198 => (if t198 = true then ((impl_Star_chords.f k a0_0 a0_1).bind fun t199 => ((impl_crossings.f k t199).bind fun t202 => (some (wrap64 ((wrap64 (1 + (t199.length : Int))) + t202), true)))) else (some (0, false)))) = some (r1, r2) := h
 clear h
 replace H := bI H
 obtain ⟨t198, A20, H⟩ := H
 replace H : (if t198 = true then ((impl_Star_chords.f k a0_0 a0_1).bind fun t199 => ((impl_crossings.f k t199).bind fun t202 => (some (wrap64 ((wrap64 (1 + (t199.length : Int))) + t202), true)))) else (some (0, false))) = some (r1, r2) := H
 have A2 := Aside0.mk A20
 clear A20
 by_cases c3 : t198 = true
 ·subst c3
  have H1 : ((impl_Star_chords.f k a0_0 a0_1).bind fun t199 => ((impl_crossings.f k t199).bind fun t202 => (some (wrap64 ((wrap64 (1 + (t199.length : Int))) + t202), true)))) = some (r1, r2) := by rw [if_pos rfl] at H; exact H
  clear H
  have H := H1
  clear H1
  replace H := bI H
  obtain ⟨t199, A40, H⟩ := H
  replace H : ((impl_crossings.f k t199).bind fun t202 => (some (wrap64 ((wrap64 (1 + (t199.length : Int))) + t202), true))) = some (r1, r2) := H
  have A4 := Aside0.mk A40
  clear A40
  replace H := bI H
  obtain ⟨t202, A50, H⟩ := H
  replace H : (some (wrap64 ((wrap64 (1 + (t199.length : Int))) + t202), true)) = some (r1, r2) := H
  have A5 := Aside0.mk A50
  clear A50
  simp only [Option.some.injEq, Prod.mk.injEq] at H
  obtain ⟨rfl, rfl⟩ := H
  go_enter Try.func20, Try.ntmps20
  go_wp2_with (first | ((with_reducible refine gate_dst (N := 1) rfl ?_); refine box_event ?hg (N := 1) ?hd (cs := #[.int .i64 a0_0, .int .i64 a0_1]) (t := 37) ?hr ?_; (case hd => rfl); (case hg => rfl); (case hr => first | (go_simp; done) | (go_simp; rfl)); intro gb197 hg w6 hbox hb; have n0_ := Aside0.mk (below_step hb_ hb); have n1_ := Aside0.mk (hbox); have n2_ := Aside0.mk ((by rw [hg]; exact (below_size hb_) : w.heap.size ≤ gb197)); have n3_ := Aside0.mk ((by rw [hg]; exact (below_size hb_) : w.heap.size ≤ gb197)); clear HB; have HB := n0_; have BK197 := n1_; have GW197 := n2_; have GE197 := n3_; clear n0_ n1_ n2_ n3_; clear hb hbox hg; have hcz7_0 : w6.cell? ⟨gb197, 0, none⟩ = some (.int .i64 a0_0) := bc_ BK197 0; have hcz7_1 : w6.cell? ⟨gb197, 1, none⟩ = some (.int .i64 a0_1) := bc_ BK197 1; have hfz7_0 := blk_frozen BK197.out 0; have hfz7_1 := blk_frozen BK197.out 1) | ((with_reducible refine gate_callee (f := 45) rfl ?_); refine goesL_ (some 6) rfl rfl Try.func45 (by kernel_rfl) rfl #[.agg #[.int .i64 a0_0, .int .i64 a0_1]] rfl ar_ ?_; (with_reducible refine (impl_IsStar.calls a0_0 a0_1 true _ A2.out).mono ?_); rintro e w8 ⟨rfl, hb⟩; refine ⟨_, rfl, ?_⟩; have n0_ := Aside0.mk (blk_below (g := gb197) (o := .cells #[.int .i64 a0_0, .int .i64 a0_1] 37 (0, 0)) (kx_ BK197.out) hb); have n1_ := Aside0.mk (below_step (hs_ GE197.out) hb); clear BK197; clear HB; have BK197 := n0_; have HB := n1_; clear n0_ n1_; (try clear hb); (try clear hb2); (try clear hk); (try clear hi); have hcz9_0 : w8.cell? ⟨gb197, 0, none⟩ = some (.int .i64 a0_0) := bc_ BK197 0; have hcz9_1 : w8.cell? ⟨gb197, 1, none⟩ = some (.int .i64 a0_1) := bc_ BK197 1; have hfz9_0 := blk_frozen BK197.out 0; have hfz9_1 := blk_frozen BK197.out 1) | ((with_reducible refine gate_callee (f := 46) rfl ?_); refine goesL_ (some 9) rfl rfl Try.func46 (by kernel_rfl) rfl #[.agg #[.int .i64 a0_0, .int .i64 a0_1]] rfl ar_ ?_; (with_reducible refine (impl_Star_chords.calls k a0_0 a0_1 t199 _ A4.out).mono ?_); rintro e w10 ⟨v200, rfl, ho0, hb⟩; refine ⟨_, rfl, ?_⟩; have n0_ := Aside0.mk (Kd.R_lower ho0 (below_size (hs_ GE197.out))); have n1_ := Aside0.mk (blk_below (g := gb197) (o := .cells #[.int .i64 a0_0, .int .i64 a0_1] 37 (0, 0)) (kx_ BK197.out) hb); have n2_ := Aside0.mk (below_step (hs_ GE197.out) hb); clear BK197; clear HB; have HO201 := n0_; have BK197 := n1_; have HB := n2_; clear n0_ n1_ n2_; (try clear hb); (try clear hb2); (try clear hk); (try clear hi); (try clear ho0); obtain ⟨Ao11, co11, eo11⟩ := Kd.R_slice HO201.out; subst eo11) | ((with_reducible refine gate_callee (f := 37) rfl ?_); refine goesL_ (some 14) rfl rfl Try.func37 (by kernel_rfl) rfl #[.slice Ao11 t199.length co11] rfl ar_ ?_; (with_reducible refine (impl_crossings.calls k _ _ t199 t202 _ ?side1 ?side2 A5.out).mono ?_); (case side1 => repeat (first | exact (Kd.R_reads' HO201.out).2.2 | (with_reducible refine Kd.C_alloc ?_ _) | (with_reducible refine Kd.C_drewN ?_ _) | (with_reducible refine Kd.C_drew ?_))); (case side2 => exact (Kd.R_reads' HO201.out).2.1); rintro e w12 ⟨rfl, hb⟩; refine ⟨_, rfl, ?_⟩; have n0_ := Aside0.mk (Kd.R_below (ra_ HO201.out) hb); have n1_ := Aside0.mk (blk_below (g := gb197) (o := .cells #[.int .i64 a0_0, .int .i64 a0_1] 37 (0, 0)) (kx_ BK197.out) hb); have n2_ := Aside0.mk (below_step (hs_ GE197.out) hb); clear HO201; clear BK197; clear HB; have HO201 := n0_; have BK197 := n1_; have HB := n2_; clear n0_ n1_ n2_; (try clear hb); (try clear hb2); (try clear hk); (try clear hi)))
  go_ret2
  exact ⟨by first | rfl | (simp [errW_none, errW_some] <;> rfl) | (simp [*, errW_none, errW_some] <;> rfl), hs_ GE197.out⟩
 ·replace c3 := Bool.eq_false_iff.mpr c3
  subst c3
  have H1 : (some (0, false)) = some (r1, r2) := by rw [if_neg (show ¬ (false = true) by decide)] at H; exact H
  clear H
  have H := H1
  clear H1
  simp only [Option.some.injEq, Prod.mk.injEq] at H
  obtain ⟨rfl, rfl⟩ := H
  go_enter Try.func20, Try.ntmps20
  go_wp2_with (first | ((with_reducible refine gate_dst (N := 1) rfl ?_); refine box_event ?hg (N := 1) ?hd (cs := #[.int .i64 a0_0, .int .i64 a0_1]) (t := 37) ?hr ?_; (case hd => rfl); (case hg => rfl); (case hr => first | (go_simp; done) | (go_simp; rfl)); intro gb197 hg w13 hbox hb; have n0_ := Aside0.mk (below_step hb_ hb); have n1_ := Aside0.mk (hbox); have n2_ := Aside0.mk ((by rw [hg]; exact (below_size hb_) : w.heap.size ≤ gb197)); have n3_ := Aside0.mk ((by rw [hg]; exact (below_size hb_) : w.heap.size ≤ gb197)); clear HB; have HB := n0_; have BK197 := n1_; have GW197 := n2_; have GE197 := n3_; clear n0_ n1_ n2_ n3_; clear hb hbox hg; have hcz14_0 : w13.cell? ⟨gb197, 0, none⟩ = some (.int .i64 a0_0) := bc_ BK197 0; have hcz14_1 : w13.cell? ⟨gb197, 1, none⟩ = some (.int .i64 a0_1) := bc_ BK197 1; have hfz14_0 := blk_frozen BK197.out 0; have hfz14_1 := blk_frozen BK197.out 1) | ((with_reducible refine gate_callee (f := 45) rfl ?_); refine goesL_ (some 6) rfl rfl Try.func45 (by kernel_rfl) rfl #[.agg #[.int .i64 a0_0, .int .i64 a0_1]] rfl ar_ ?_; (with_reducible refine (impl_IsStar.calls a0_0 a0_1 false _ A2.out).mono ?_); rintro e w15 ⟨rfl, hb⟩; refine ⟨_, rfl, ?_⟩; have n0_ := Aside0.mk (blk_below (g := gb197) (o := .cells #[.int .i64 a0_0, .int .i64 a0_1] 37 (0, 0)) (kx_ BK197.out) hb); have n1_ := Aside0.mk (below_step (hs_ GE197.out) hb); clear BK197; clear HB; have BK197 := n0_; have HB := n1_; clear n0_ n1_; (try clear hb); (try clear hb2); (try clear hk); (try clear hi)))
  go_ret2
  exact ⟨by first | rfl | (simp [errW_none, errW_some] <;> rfl) | (simp [*, errW_none, errW_some] <;> rfl), hs_ GE197.out⟩
def spec_RegionsOfStar.f (k : Nat) (a0_0 : Int) (a0_1 : Int) : Option (Int × Bool) := (spec_srGood.f a0_0 a0_1).bind fun t332 => (if t332 = true then ((spec_srChords.f k a0_0 a0_1).bind fun t333 => ((spec_srCount.f k t333).bind fun t336 => (some (wrap64 ((wrap64 (1 + (t333.length : Int))) + t336), true)))) else (some (0, false)))
theorem spec_RegionsOfStar.mono : ∀ a0 a1 k, LeO (spec_RegionsOfStar.f k a0 a1) (spec_RegionsOfStar.f (k + 1) a0 a1) := by
 intro a0 a1 k
 unfold spec_RegionsOfStar.f
 repeat' first
   | (with_reducible exact spec_srChords.mono _ _ _)
   | (with_reducible exact spec_srCount.mono _ _)
   | (with_reducible exact LeO.refl _)
   | (with_reducible exact LeO.none _)
   | (with_reducible refine LeO.ite ?_ ?_)
   | (with_reducible refine LeO.bind ?_ (fun _ => ?_))
   | exact spec_srChords.mono _ _ _
   | exact spec_srCount.mono _ _
   | exact LeO.none _
   | refine LeO.ite ?_ ?_
   | refine LeO.bind ?_ (fun _ => ?_)
set_option maxHeartbeats 8000000 in
set_option maxRecDepth 100000 in
theorem spec_RegionsOfStar.calls (k : Nat) (a0_0 : Int) (a0_1 : Int) (r1 : Int) (r2 : Bool) (w : World) (h : spec_RegionsOfStar.f k a0_0 a0_1 = some (r1, r2)) :
  Calls Try.prog 21 #[.agg #[.int .i64 a0_0, .int .i64 a0_1]] w fun e w' => e = .returned (.tuple #[.int .i64 r1, .bool r2]) ∧ Below w.heap.size w w' := by
 have hu37 := Try.underlying37
 have HB := Aside0.mk (Below.refl w.heap.size w)
 have H : ((spec_srGood.f a0_0 a0_1).bind fun t332 => (if t332 = true then ((spec_srChords.f k a0_0 a0_1).bind fun t333 => ((spec_srCount.f k t333).bind fun t336 => (some (wrap64 ((wrap64 (1 + (t333.length : Int))) + t336), true)))) else (some (0, false)))) = some (r1, r2) := h
 clear h
 replace H := bI H
 obtain ⟨t332, A20, H⟩ := H
 replace H : (if t332 = true then ((spec_srChords.f k a0_0 a0_1).bind fun t333 => ((spec_srCount.f k t333).bind fun t336 => (some (wrap64 ((wrap64 (1 + (t333.length : Int))) + t336), true)))) else (some (0, false))) = some (r1, r2) := H
 have A2 := Aside0.mk A20
 clear A20
 by_cases c3 : t332 = true
 ·subst c3
  have H1 : ((spec_srChords.f k a0_0 a0_1).bind fun t333 => ((spec_srCount.f k t333).bind fun t336 => (some (wrap64 ((wrap64 (1 + (t333.length : Int))) + t336), true)))) = some (r1, r2) := by rw [if_pos rfl] at H; exact H
  clear H
  have H := H1
  clear H1
  replace H := bI H
  obtain ⟨t333, A40, H⟩ := H
  replace H : ((spec_srCount.f k t333).bind fun t336 => (some (wrap64 ((wrap64 (1 + (t333.length : Int))) + t336), true))) = some (r1, r2) := H
  have A4 := Aside0.mk A40
  clear A40
  replace H := bI H
  obtain ⟨t336, A50, H⟩ := H
  replace H : (some (wrap64 ((wrap64 (1 + (t333.length : Int))) + t336), true)) = some (r1, r2) := H
  have A5 := Aside0.mk A50
  clear A50
  simp only [Option.some.injEq, Prod.mk.injEq] at H
  obtain ⟨rfl, rfl⟩ := H
  go_enter Try.func21, Try.ntmps21
  go_wp2_with (first | ((with_reducible refine gate_dst (N := 1) rfl ?_); refine box_event ?hg (N := 1) ?hd (cs := #[.int .i64 a0_0, .int .i64 a0_1]) (t := 37) ?hr ?_; (case hd => rfl); (case hg => rfl); (case hr => first | (go_simp; done) | (go_simp; rfl)); intro gb331 hg w6 hbox hb; have n0_ := Aside0.mk (below_step hb_ hb); have n1_ := Aside0.mk (hbox); have n2_ := Aside0.mk ((by rw [hg]; exact (below_size hb_) : w.heap.size ≤ gb331)); have n3_ := Aside0.mk ((by rw [hg]; exact (below_size hb_) : w.heap.size ≤ gb331)); clear HB; have HB := n0_; have BK331 := n1_; have GW331 := n2_; have GE331 := n3_; clear n0_ n1_ n2_ n3_; clear hb hbox hg; have hcz7_0 : w6.cell? ⟨gb331, 0, none⟩ = some (.int .i64 a0_0) := bc_ BK331 0; have hcz7_1 : w6.cell? ⟨gb331, 1, none⟩ = some (.int .i64 a0_1) := bc_ BK331 1; have hfz7_0 := blk_frozen BK331.out 0; have hfz7_1 := blk_frozen BK331.out 1) | ((with_reducible refine gate_callee (f := 47) rfl ?_); refine goesL_ (some 6) rfl rfl Try.func47 (by kernel_rfl) rfl #[.agg #[.int .i64 a0_0, .int .i64 a0_1]] rfl ar_ ?_; (with_reducible refine (spec_srGood.calls a0_0 a0_1 true _ A2.out).mono ?_); rintro e w8 ⟨rfl, hb⟩; refine ⟨_, rfl, ?_⟩; have n0_ := Aside0.mk (blk_below (g := gb331) (o := .cells #[.int .i64 a0_0, .int .i64 a0_1] 37 (0, 0)) (kx_ BK331.out) hb); have n1_ := Aside0.mk (below_step (hs_ GE331.out) hb); clear BK331; clear HB; have BK331 := n0_; have HB := n1_; clear n0_ n1_; (try clear hb); (try clear hb2); (try clear hk); (try clear hi); have hcz9_0 : w8.cell? ⟨gb331, 0, none⟩ = some (.int .i64 a0_0) := bc_ BK331 0; have hcz9_1 : w8.cell? ⟨gb331, 1, none⟩ = some (.int .i64 a0_1) := bc_ BK331 1; have hfz9_0 := blk_frozen BK331.out 0; have hfz9_1 := blk_frozen BK331.out 1) | ((with_reducible refine gate_callee (f := 48) rfl ?_); refine goesL_ (some 9) rfl rfl Try.func48 (by kernel_rfl) rfl #[.agg #[.int .i64 a0_0, .int .i64 a0_1]] rfl ar_ ?_; (with_reducible refine (spec_srChords.calls k a0_0 a0_1 t333 _ A4.out).mono ?_); rintro e w10 ⟨v334, rfl, ho0, hb⟩; refine ⟨_, rfl, ?_⟩; have n0_ := Aside0.mk (Kd.R_lower ho0 (below_size (hs_ GE331.out))); have n1_ := Aside0.mk (blk_below (g := gb331) (o := .cells #[.int .i64 a0_0, .int .i64 a0_1] 37 (0, 0)) (kx_ BK331.out) hb); have n2_ := Aside0.mk (below_step (hs_ GE331.out) hb); clear BK331; clear HB; have HO335 := n0_; have BK331 := n1_; have HB := n2_; clear n0_ n1_ n2_; (try clear hb); (try clear hb2); (try clear hk); (try clear hi); (try clear ho0); obtain ⟨Ao11, co11, eo11⟩ := Kd.R_slice HO335.out; subst eo11) | ((with_reducible refine gate_callee (f := 49) rfl ?_); refine goesL_ (some 14) rfl rfl Try.func49 (by kernel_rfl) rfl #[.slice Ao11 t333.length co11] rfl ar_ ?_; (with_reducible refine (spec_srCount.calls k _ _ t333 t336 _ ?side1 ?side2 A5.out).mono ?_); (case side1 => repeat (first | exact (Kd.R_reads' HO335.out).2.2 | (with_reducible refine Kd.C_alloc ?_ _) | (with_reducible refine Kd.C_drewN ?_ _) | (with_reducible refine Kd.C_drew ?_))); (case side2 => exact (Kd.R_reads' HO335.out).2.1); rintro e w12 ⟨rfl, hb⟩; refine ⟨_, rfl, ?_⟩; have n0_ := Aside0.mk (Kd.R_below (ra_ HO335.out) hb); have n1_ := Aside0.mk (blk_below (g := gb331) (o := .cells #[.int .i64 a0_0, .int .i64 a0_1] 37 (0, 0)) (kx_ BK331.out) hb); have n2_ := Aside0.mk (below_step (hs_ GE331.out) hb); clear HO335; clear BK331; clear HB; have HO335 := n0_; have BK331 := n1_; have HB := n2_; clear n0_ n1_ n2_; (try clear hb); (try clear hb2); (try clear hk); (try clear hi)))
  go_ret2
  exact ⟨by first | rfl | (simp [errW_none, errW_some] <;> rfl) | (simp [*, errW_none, errW_some] <;> rfl), hs_ GE331.out⟩
 ·replace c3 := Bool.eq_false_iff.mpr c3
  subst c3
  have H1 : (some (0, false)) = some (r1, r2) := by rw [if_neg (show ¬ (false = true) by decide)] at H; exact H
  clear H
  have H := H1
  clear H1
  simp only [Option.some.injEq, Prod.mk.injEq] at H
  obtain ⟨rfl, rfl⟩ := H
  go_enter Try.func21, Try.ntmps21
  go_wp2_with (first | ((with_reducible refine gate_dst (N := 1) rfl ?_); refine box_event ?hg (N := 1) ?hd (cs := #[.int .i64 a0_0, .int .i64 a0_1]) (t := 37) ?hr ?_; (case hd => rfl); (case hg => rfl); (case hr => first | (go_simp; done) | (go_simp; rfl)); intro gb331 hg w13 hbox hb; have n0_ := Aside0.mk (below_step hb_ hb); have n1_ := Aside0.mk (hbox); have n2_ := Aside0.mk ((by rw [hg]; exact (below_size hb_) : w.heap.size ≤ gb331)); have n3_ := Aside0.mk ((by rw [hg]; exact (below_size hb_) : w.heap.size ≤ gb331)); clear HB; have HB := n0_; have BK331 := n1_; have GW331 := n2_; have GE331 := n3_; clear n0_ n1_ n2_ n3_; clear hb hbox hg; have hcz14_0 : w13.cell? ⟨gb331, 0, none⟩ = some (.int .i64 a0_0) := bc_ BK331 0; have hcz14_1 : w13.cell? ⟨gb331, 1, none⟩ = some (.int .i64 a0_1) := bc_ BK331 1; have hfz14_0 := blk_frozen BK331.out 0; have hfz14_1 := blk_frozen BK331.out 1) | ((with_reducible refine gate_callee (f := 47) rfl ?_); refine goesL_ (some 6) rfl rfl Try.func47 (by kernel_rfl) rfl #[.agg #[.int .i64 a0_0, .int .i64 a0_1]] rfl ar_ ?_; (with_reducible refine (spec_srGood.calls a0_0 a0_1 false _ A2.out).mono ?_); rintro e w15 ⟨rfl, hb⟩; refine ⟨_, rfl, ?_⟩; have n0_ := Aside0.mk (blk_below (g := gb331) (o := .cells #[.int .i64 a0_0, .int .i64 a0_1] 37 (0, 0)) (kx_ BK331.out) hb); have n1_ := Aside0.mk (below_step (hs_ GE331.out) hb); clear BK331; clear HB; have BK331 := n0_; have HB := n1_; clear n0_ n1_; (try clear hb); (try clear hb2); (try clear hk); (try clear hi)))
  go_ret2
  exact ⟨by first | rfl | (simp [errW_none, errW_some] <;> rfl) | (simp [*, errW_none, errW_some] <;> rfl), hs_ GE331.out⟩
def impl_MostRegions.f (a0 : Int) : Option (Int × Bool) := (impl_within.f a0 3 20).bind fun t203 => (if t203 = true then (some (wrap64 ((wrap64 (1 + (wrap64 (Int.tdiv (wrap64 (a0 * (wrap64 (a0 - 1)))) 2)))) + (wrap64 (Int.tdiv (wrap64 ((wrap64 ((wrap64 (a0 * (wrap64 (a0 - 1)))) * (wrap64 (a0 - 2)))) * (wrap64 (a0 - 3)))) 24))), true)) else (some (0, false)))
set_option maxHeartbeats 8000000 in
set_option maxRecDepth 100000 in
theorem impl_MostRegions.calls (a0 : Int) (r1 : Int) (r2 : Bool) (w : World) (h : impl_MostRegions.f a0 = some (r1, r2)) :
  Calls Try.prog 23 #[.int .i64 a0] w fun e w' => e = .returned (.tuple #[.int .i64 r1, .bool r2]) ∧ Drawn0 w w' := by
 have H : ((impl_within.f a0 3 20).bind fun t203 => (if t203 = true then (some (wrap64 ((wrap64 (1 + (wrap64 (Int.tdiv (wrap64 (a0 * (wrap64 (a0 - 1)))) 2)))) + (wrap64 (Int.tdiv (wrap64 ((wrap64 ((wrap64 (a0 * (wrap64 (a0 - 1)))) * (wrap64 (a0 - 2)))) * (wrap64 (a0 - 3)))) 24))), true)) else (some (0, false)))) = some (r1, r2) := h
 clear h
 replace H := bI H
 obtain ⟨t203, A20, H⟩ := H
 replace H : (if t203 = true then (some (wrap64 ((wrap64 (1 + (wrap64 (Int.tdiv (wrap64 (a0 * (wrap64 (a0 - 1)))) 2)))) + (wrap64 (Int.tdiv (wrap64 ((wrap64 ((wrap64 (a0 * (wrap64 (a0 - 1)))) * (wrap64 (a0 - 2)))) * (wrap64 (a0 - 3)))) 24))), true)) else (some (0, false))) = some (r1, r2) := H
 have A2 := Aside0.mk A20
 clear A20
 by_cases c3 : t203 = true
 ·subst c3
  have H1 : (some (wrap64 ((wrap64 (1 + (wrap64 (Int.tdiv (wrap64 (a0 * (wrap64 (a0 - 1)))) 2)))) + (wrap64 (Int.tdiv (wrap64 ((wrap64 ((wrap64 (a0 * (wrap64 (a0 - 1)))) * (wrap64 (a0 - 2)))) * (wrap64 (a0 - 3)))) 24))), true)) = some (r1, r2) := by rw [if_pos rfl] at H; exact H
  clear H
  have H := H1
  clear H1
  simp only [Option.some.injEq, Prod.mk.injEq] at H
  obtain ⟨rfl, rfl⟩ := H
  go_enter Try.func23, Try.ntmps23
  go_wp2_with (first | ((with_reducible refine gate_callee (f := 40) rfl ?_); refine goesL_ (some 6) rfl rfl Try.func40 (by kernel_rfl) rfl #[.int .i64 a0, .int .i64 3, .int .i64 20] rfl ar_ ?_; (with_reducible refine (impl_within.calls a0 3 20 true _ A2.out).mono ?_); rintro e w' ⟨rfl, ⟨nd, rfl⟩⟩; refine ⟨_, rfl, ?_⟩))
  go_ret2
  exact ⟨by first | rfl | (simp; done) | (simp [*]; done), by repeat (first | exact Drawn0.refl _ | apply Drawn0.step)⟩
 ·replace c3 := Bool.eq_false_iff.mpr c3
  subst c3
  have H1 : (some (0, false)) = some (r1, r2) := by rw [if_neg (show ¬ (false = true) by decide)] at H; exact H
  clear H
  have H := H1
  clear H1
  simp only [Option.some.injEq, Prod.mk.injEq] at H
  obtain ⟨rfl, rfl⟩ := H
  go_enter Try.func23, Try.ntmps23
  go_wp2_with (first | ((with_reducible refine gate_callee (f := 40) rfl ?_); refine goesL_ (some 6) rfl rfl Try.func40 (by kernel_rfl) rfl #[.int .i64 a0, .int .i64 3, .int .i64 20] rfl ar_ ?_; (with_reducible refine (impl_within.calls a0 3 20 false _ A2.out).mono ?_); rintro e w' ⟨rfl, ⟨nd, rfl⟩⟩; refine ⟨_, rfl, ?_⟩))
  go_ret2
  exact ⟨by first | rfl | (simp; done) | (simp [*]; done), by repeat (first | exact Drawn0.refl _ | apply Drawn0.step)⟩
def spec_MostRegions.f (a0 : Int) : Option (Int × Bool) := (spec_l1In.f a0 3 20).bind fun t337 => (if t337 = true then (some (wrap64 ((wrap64 (1 + (wrap64 (Int.tdiv (wrap64 (a0 * (wrap64 (a0 - 1)))) 2)))) + (wrap64 (Int.tdiv (wrap64 ((wrap64 ((wrap64 (a0 * (wrap64 (a0 - 1)))) * (wrap64 (a0 - 2)))) * (wrap64 (a0 - 3)))) 24))), true)) else (some (0, false)))
set_option maxHeartbeats 8000000 in
set_option maxRecDepth 100000 in
theorem spec_MostRegions.calls (a0 : Int) (r1 : Int) (r2 : Bool) (w : World) (h : spec_MostRegions.f a0 = some (r1, r2)) :
  Calls Try.prog 24 #[.int .i64 a0] w fun e w' => e = .returned (.tuple #[.int .i64 r1, .bool r2]) ∧ Drawn0 w w' := by
 have H : ((spec_l1In.f a0 3 20).bind fun t337 => (if t337 = true then (some (wrap64 ((wrap64 (1 + (wrap64 (Int.tdiv (wrap64 (a0 * (wrap64 (a0 - 1)))) 2)))) + (wrap64 (Int.tdiv (wrap64 ((wrap64 ((wrap64 (a0 * (wrap64 (a0 - 1)))) * (wrap64 (a0 - 2)))) * (wrap64 (a0 - 3)))) 24))), true)) else (some (0, false)))) = some (r1, r2) := h
 clear h
 replace H := bI H
 obtain ⟨t337, A20, H⟩ := H
 replace H : (if t337 = true then (some (wrap64 ((wrap64 (1 + (wrap64 (Int.tdiv (wrap64 (a0 * (wrap64 (a0 - 1)))) 2)))) + (wrap64 (Int.tdiv (wrap64 ((wrap64 ((wrap64 (a0 * (wrap64 (a0 - 1)))) * (wrap64 (a0 - 2)))) * (wrap64 (a0 - 3)))) 24))), true)) else (some (0, false))) = some (r1, r2) := H
 have A2 := Aside0.mk A20
 clear A20
 by_cases c3 : t337 = true
 ·subst c3
  have H1 : (some (wrap64 ((wrap64 (1 + (wrap64 (Int.tdiv (wrap64 (a0 * (wrap64 (a0 - 1)))) 2)))) + (wrap64 (Int.tdiv (wrap64 ((wrap64 ((wrap64 (a0 * (wrap64 (a0 - 1)))) * (wrap64 (a0 - 2)))) * (wrap64 (a0 - 3)))) 24))), true)) = some (r1, r2) := by rw [if_pos rfl] at H; exact H
  clear H
  have H := H1
  clear H1
  simp only [Option.some.injEq, Prod.mk.injEq] at H
  obtain ⟨rfl, rfl⟩ := H
  go_enter Try.func24, Try.ntmps24
  go_wp2_with (first | ((with_reducible refine gate_callee (f := 34) rfl ?_); refine goesL_ (some 7) rfl rfl Try.func34 (by kernel_rfl) rfl #[.int .i64 a0, .int .i64 3, .int .i64 20] rfl ar_ ?_; (with_reducible refine (spec_l1In.calls a0 3 20 true _ A2.out).mono ?_); rintro e w' ⟨rfl, ⟨nd, rfl⟩⟩; refine ⟨_, rfl, ?_⟩))
  go_ret2
  exact ⟨by first | rfl | (simp; done) | (simp [*]; done), by repeat (first | exact Drawn0.refl _ | apply Drawn0.step)⟩
 ·replace c3 := Bool.eq_false_iff.mpr c3
  subst c3
  have H1 : (some (0, false)) = some (r1, r2) := by rw [if_neg (show ¬ (false = true) by decide)] at H; exact H
  clear H
  have H := H1
  clear H1
  simp only [Option.some.injEq, Prod.mk.injEq] at H
  obtain ⟨rfl, rfl⟩ := H
  go_enter Try.func24, Try.ntmps24
  go_wp2_with (first | ((with_reducible refine gate_callee (f := 34) rfl ?_); refine goesL_ (some 7) rfl rfl Try.func34 (by kernel_rfl) rfl #[.int .i64 a0, .int .i64 3, .int .i64 20] rfl ar_ ?_; (with_reducible refine (spec_l1In.calls a0 3 20 false _ A2.out).mono ?_); rintro e w' ⟨rfl, ⟨nd, rfl⟩⟩; refine ⟨_, rfl, ?_⟩))
  go_ret2
  exact ⟨by first | rfl | (simp; done) | (simp [*]; done), by repeat (first | exact Drawn0.refl _ | apply Drawn0.step)⟩
def impl_CountPairsCrossing.f (k : Nat) (a0 : Int) (l1 : List (S60)) : Option (Int × Bool) := (impl_isSet.f k a0 l1).bind fun t159 => (if t159 = true then ((impl_crossings.f k l1).bind fun t160 => (some (t160, true))) else (some (0, false)))
theorem impl_CountPairsCrossing.mono : ∀ a0 a1 k, LeO (impl_CountPairsCrossing.f k a0 a1) (impl_CountPairsCrossing.f (k + 1) a0 a1) := by
 intro a0 a1 k
 unfold impl_CountPairsCrossing.f
 repeat' first
   | (with_reducible exact impl_crossings.mono _ _)
   | (with_reducible exact impl_isSet.mono _ _ _)
   | (with_reducible exact LeO.refl _)
   | (with_reducible exact LeO.none _)
   | (with_reducible refine LeO.ite ?_ ?_)
   | (with_reducible refine LeO.bind ?_ (fun _ => ?_))
   | exact impl_crossings.mono _ _
   | exact impl_isSet.mono _ _ _
   | exact LeO.none _
   | refine LeO.ite ?_ ?_
   | refine LeO.bind ?_ (fun _ => ?_)
set_option maxHeartbeats 8000000 in
set_option maxRecDepth 100000 in
theorem impl_CountPairsCrossing.calls (k : Nat) (a0 : Int) (A1 : Option Addr) (c1 : Nat) (l1 : List (S60)) (r1 : Int) (r2 : Bool) (w : World) (hr1 : Kd.C k60 w A1 l1.length l1) (hc1 : l1.length ≤ c1) (h : impl_CountPairsCrossing.f k a0 l1 = some (r1, r2)) :
  Calls Try.prog 15 #[.int .i64 a0, .slice A1 l1.length c1] w fun e w' => e = .returned (.tuple #[.int .i64 r1, .bool r2]) ∧ Below w.heap.size w w' := by
 have HR1 := Aside0.mk hr1
 have HC1 := Aside0.mk hc1
 clear hr1 hc1
 have HB := Aside0.mk (Below.refl w.heap.size w)
 have H : ((impl_isSet.f k a0 l1).bind fun t159 => (if t159 = true then ((impl_crossings.f k l1).bind fun t160 => (some (t160, true))) else (some (0, false)))) = some (r1, r2) := h
 clear h
 replace H := bI H
 obtain ⟨t159, A30, H⟩ := H
 replace H : (if t159 = true then ((impl_crossings.f k l1).bind fun t160 => (some (t160, true))) else (some (0, false))) = some (r1, r2) := H
 have A3 := Aside0.mk A30
 clear A30
 by_cases c4 : t159 = true
 ·subst c4
  have H1 : ((impl_crossings.f k l1).bind fun t160 => (some (t160, true))) = some (r1, r2) := by rw [if_pos rfl] at H; exact H
  clear H
  have H := H1
  clear H1
  replace H := bI H
  obtain ⟨t160, A50, H⟩ := H
  replace H : (some (t160, true)) = some (r1, r2) := H
  have A5 := Aside0.mk A50
  clear A50
  simp only [Option.some.injEq, Prod.mk.injEq] at H
  obtain ⟨rfl, rfl⟩ := H
  go_enter Try.func15, Try.ntmps15
  go_wp2_with (first | ((with_reducible refine gate_callee (f := 36) rfl ?_); refine goesL_ (some 8) rfl rfl Try.func36 (by kernel_rfl) rfl #[.int .i64 a0, .slice A1 l1.length c1] rfl ar_ ?_; (with_reducible refine (impl_isSet.calls k a0 _ _ l1 true _ ?side1 ?side2 A3.out).mono ?_); (case side1 => repeat (first | exact HR1.out | (with_reducible refine Kd.C_alloc ?_ _) | (with_reducible refine Kd.C_drewN ?_ _) | (with_reducible refine Kd.C_drew ?_))); (case side2 => exact HC1.out); rintro e w6 ⟨rfl, hb⟩; refine ⟨_, rfl, ?_⟩; have n0_ := Aside0.mk (below_step hb_ hb); clear HB; have HB := n0_; clear n0_; (try clear hb); (try clear hb2); (try clear hk); (try clear hi)) | ((with_reducible refine gate_callee (f := 37) rfl ?_); refine goesL_ (some 11) rfl rfl Try.func37 (by kernel_rfl) rfl #[.slice A1 l1.length c1] rfl ar_ ?_; (with_reducible refine (impl_crossings.calls k _ _ l1 t160 _ ?side1 ?side2 A5.out).mono ?_); (case side1 => repeat (first | exact (Kd.C_below HR1.out HB.out) | (with_reducible refine Kd.C_alloc ?_ _) | (with_reducible refine Kd.C_drewN ?_ _) | (with_reducible refine Kd.C_drew ?_))); (case side2 => exact HC1.out); rintro e w7 ⟨rfl, hb⟩; refine ⟨_, rfl, ?_⟩; have n0_ := Aside0.mk (below_step hb_ hb); clear HB; have HB := n0_; clear n0_; (try clear hb); (try clear hb2); (try clear hk); (try clear hi)))
  go_ret2
  exact ⟨by first | rfl | (simp [errW_none, errW_some] <;> rfl) | (simp [*, errW_none, errW_some] <;> rfl), hb_⟩
 ·replace c4 := Bool.eq_false_iff.mpr c4
  subst c4
  have H1 : (some (0, false)) = some (r1, r2) := by rw [if_neg (show ¬ (false = true) by decide)] at H; exact H
  clear H
  have H := H1
  clear H1
  simp only [Option.some.injEq, Prod.mk.injEq] at H
  obtain ⟨rfl, rfl⟩ := H
  go_enter Try.func15, Try.ntmps15
  go_wp2_with (first | ((with_reducible refine gate_callee (f := 36) rfl ?_); refine goesL_ (some 8) rfl rfl Try.func36 (by kernel_rfl) rfl #[.int .i64 a0, .slice A1 l1.length c1] rfl ar_ ?_; (with_reducible refine (impl_isSet.calls k a0 _ _ l1 false _ ?side1 ?side2 A3.out).mono ?_); (case side1 => repeat (first | exact HR1.out | (with_reducible refine Kd.C_alloc ?_ _) | (with_reducible refine Kd.C_drewN ?_ _) | (with_reducible refine Kd.C_drew ?_))); (case side2 => exact HC1.out); rintro e w8 ⟨rfl, hb⟩; refine ⟨_, rfl, ?_⟩; have n0_ := Aside0.mk (below_step hb_ hb); clear HB; have HB := n0_; clear n0_; (try clear hb); (try clear hb2); (try clear hk); (try clear hi)))
  go_ret2
  exact ⟨by first | rfl | (simp [errW_none, errW_some] <;> rfl) | (simp [*, errW_none, errW_some] <;> rfl), hb_⟩
def impl_ChordsOf.f (k : Nat) (a0_0 : Int) (a0_1 : Int) : Option ((List (S60)) × Bool) := (impl_IsStar.f a0_0 a0_1).bind fun t205 => (if t205 = true then ((impl_Star_chords.f k a0_0 a0_1).bind fun t206 => (some (t206, true))) else (some (([] : List (S60)), false)))
theorem impl_ChordsOf.mono : ∀ a0 a1 k, LeO (impl_ChordsOf.f k a0 a1) (impl_ChordsOf.f (k + 1) a0 a1) := by
 intro a0 a1 k
 unfold impl_ChordsOf.f
 repeat' first
   | (with_reducible exact impl_Star_chords.mono _ _ _)
   | (with_reducible exact LeO.refl _)
   | (with_reducible exact LeO.none _)
   | (with_reducible refine LeO.ite ?_ ?_)
   | (with_reducible refine LeO.bind ?_ (fun _ => ?_))
   | exact impl_Star_chords.mono _ _ _
   | exact LeO.none _
   | refine LeO.ite ?_ ?_
   | refine LeO.bind ?_ (fun _ => ?_)
set_option maxHeartbeats 8000000 in
set_option maxRecDepth 100000 in
theorem impl_ChordsOf.calls (k : Nat) (a0_0 : Int) (a0_1 : Int) (r1 : List (S60)) (r2 : Bool) (w : World) (h : impl_ChordsOf.f k a0_0 a0_1 = some (r1, r2)) :
  Calls Try.prog 25 #[.agg #[.int .i64 a0_0, .int .i64 a0_1]] w fun e w' => ∃ v0_ : Value, e = .returned (.tuple #[v0_, .bool r2]) ∧ Kd.R k60 60 w' w.heap.size (fun _ => True) v0_ r1 ∧ Below w.heap.size w w' := by
 have hu37 := Try.underlying37
 have HB := Aside0.mk (Below.refl w.heap.size w)
 have H : ((impl_IsStar.f a0_0 a0_1).bind fun t205 => (if t205 = true then ((impl_Star_chords.f k a0_0 a0_1).bind fun t206 => (some (t206, true))) else (some (([] : List (S60)), false)))) = some (r1, r2) := h
 clear h
 replace H := bI H
 obtain ⟨t205, A20, H⟩ := H
 replace H : (if t205 = true then ((impl_Star_chords.f k a0_0 a0_1).bind fun t206 => (some (t206, true))) else (some (([] : List (S60)), false))) = some (r1, r2) := H
 have A2 := Aside0.mk A20
 clear A20
 by_cases c3 : t205 = true
 ·subst c3
  have H1 : ((impl_Star_chords.f k a0_0 a0_1).bind fun t206 => (some (t206, true))) = some (r1, r2) := by rw [if_pos rfl] at H; exact H
  clear H
  have H := H1
  clear H1
  replace H := bI H
  obtain ⟨t206, A40, H⟩ := H
  replace H : (some (t206, true)) = some (r1, r2) := H
  have A4 := Aside0.mk A40
  clear A40
  simp only [Option.some.injEq, Prod.mk.injEq] at H
  obtain ⟨rfl, rfl⟩ := H
  go_enter Try.func25, Try.ntmps25
  go_wp2_with (first | ((with_reducible refine gate_dst (N := 1) rfl ?_); refine box_event ?hg (N := 1) ?hd (cs := #[.int .i64 a0_0, .int .i64 a0_1]) (t := 37) ?hr ?_; (case hd => rfl); (case hg => rfl); (case hr => first | (go_simp; done) | (go_simp; rfl)); intro gb204 hg w5 hbox hb; have n0_ := Aside0.mk (below_step hb_ hb); have n1_ := Aside0.mk (hbox); have n2_ := Aside0.mk ((by rw [hg]; exact (below_size hb_) : w.heap.size ≤ gb204)); have n3_ := Aside0.mk ((by rw [hg]; exact (below_size hb_) : w.heap.size ≤ gb204)); clear HB; have HB := n0_; have BK204 := n1_; have GW204 := n2_; have GE204 := n3_; clear n0_ n1_ n2_ n3_; clear hb hbox hg; have hcz6_0 : w5.cell? ⟨gb204, 0, none⟩ = some (.int .i64 a0_0) := bc_ BK204 0; have hcz6_1 : w5.cell? ⟨gb204, 1, none⟩ = some (.int .i64 a0_1) := bc_ BK204 1; have hfz6_0 := blk_frozen BK204.out 0; have hfz6_1 := blk_frozen BK204.out 1) | ((with_reducible refine gate_callee (f := 45) rfl ?_); refine goesL_ (some 5) rfl rfl Try.func45 (by kernel_rfl) rfl #[.agg #[.int .i64 a0_0, .int .i64 a0_1]] rfl ar_ ?_; (with_reducible refine (impl_IsStar.calls a0_0 a0_1 true _ A2.out).mono ?_); rintro e w7 ⟨rfl, hb⟩; refine ⟨_, rfl, ?_⟩; have n0_ := Aside0.mk (blk_below (g := gb204) (o := .cells #[.int .i64 a0_0, .int .i64 a0_1] 37 (0, 0)) (kx_ BK204.out) hb); have n1_ := Aside0.mk (below_step (hs_ GE204.out) hb); clear BK204; clear HB; have BK204 := n0_; have HB := n1_; clear n0_ n1_; (try clear hb); (try clear hb2); (try clear hk); (try clear hi); have hcz8_0 : w7.cell? ⟨gb204, 0, none⟩ = some (.int .i64 a0_0) := bc_ BK204 0; have hcz8_1 : w7.cell? ⟨gb204, 1, none⟩ = some (.int .i64 a0_1) := bc_ BK204 1; have hfz8_0 := blk_frozen BK204.out 0; have hfz8_1 := blk_frozen BK204.out 1) | ((with_reducible refine gate_callee (f := 46) rfl ?_); refine goesL_ (some 8) rfl rfl Try.func46 (by kernel_rfl) rfl #[.agg #[.int .i64 a0_0, .int .i64 a0_1]] rfl ar_ ?_; (with_reducible refine (impl_Star_chords.calls k a0_0 a0_1 t206 _ A4.out).mono ?_); rintro e w9 ⟨v207, rfl, ho0, hb⟩; refine ⟨_, rfl, ?_⟩; have n0_ := Aside0.mk (Kd.R_lower ho0 (below_size (hs_ GE204.out))); have n1_ := Aside0.mk (blk_below (g := gb204) (o := .cells #[.int .i64 a0_0, .int .i64 a0_1] 37 (0, 0)) (kx_ BK204.out) hb); have n2_ := Aside0.mk (below_step (hs_ GE204.out) hb); clear BK204; clear HB; have HO208 := n0_; have BK204 := n1_; have HB := n2_; clear n0_ n1_ n2_; (try clear hb); (try clear hb2); (try clear hk); (try clear hi); (try clear ho0)))
  go_ret2
  exact ⟨_, by first | rfl | (simp [errW_none, errW_some] <;> rfl) | (simp [*, errW_none, errW_some] <;> rfl), by (with_reducible repeat (first | apply rA | apply rN | apply rD)); exact HO208.out, hs_ GE204.out⟩
 ·replace c3 := Bool.eq_false_iff.mpr c3
  subst c3
  have H1 : (some (([] : List (S60)), false)) = some (r1, r2) := by rw [if_neg (show ¬ (false = true) by decide)] at H; exact H
  clear H
  have H := H1
  clear H1
  simp only [Option.some.injEq, Prod.mk.injEq] at H
  obtain ⟨rfl, rfl⟩ := H
  go_enter Try.func25, Try.ntmps25
  go_wp2_with (first | ((with_reducible refine gate_dst (N := 1) rfl ?_); refine box_event ?hg (N := 1) ?hd (cs := #[.int .i64 a0_0, .int .i64 a0_1]) (t := 37) ?hr ?_; (case hd => rfl); (case hg => rfl); (case hr => first | (go_simp; done) | (go_simp; rfl)); intro gb204 hg w10 hbox hb; have n0_ := Aside0.mk (below_step hb_ hb); have n1_ := Aside0.mk (hbox); have n2_ := Aside0.mk ((by rw [hg]; exact (below_size hb_) : w.heap.size ≤ gb204)); have n3_ := Aside0.mk ((by rw [hg]; exact (below_size hb_) : w.heap.size ≤ gb204)); clear HB; have HB := n0_; have BK204 := n1_; have GW204 := n2_; have GE204 := n3_; clear n0_ n1_ n2_ n3_; clear hb hbox hg; have hcz11_0 : w10.cell? ⟨gb204, 0, none⟩ = some (.int .i64 a0_0) := bc_ BK204 0; have hcz11_1 : w10.cell? ⟨gb204, 1, none⟩ = some (.int .i64 a0_1) := bc_ BK204 1; have hfz11_0 := blk_frozen BK204.out 0; have hfz11_1 := blk_frozen BK204.out 1) | ((with_reducible refine gate_callee (f := 45) rfl ?_); refine goesL_ (some 5) rfl rfl Try.func45 (by kernel_rfl) rfl #[.agg #[.int .i64 a0_0, .int .i64 a0_1]] rfl ar_ ?_; (with_reducible refine (impl_IsStar.calls a0_0 a0_1 false _ A2.out).mono ?_); rintro e w12 ⟨rfl, hb⟩; refine ⟨_, rfl, ?_⟩; have n0_ := Aside0.mk (blk_below (g := gb204) (o := .cells #[.int .i64 a0_0, .int .i64 a0_1] 37 (0, 0)) (kx_ BK204.out) hb); have n1_ := Aside0.mk (below_step (hs_ GE204.out) hb); clear BK204; clear HB; have BK204 := n0_; have HB := n1_; clear n0_ n1_; (try clear hb); (try clear hb2); (try clear hk); (try clear hi)))
  go_ret2
  exact ⟨_, by first | rfl | (simp [errW_none, errW_some] <;> rfl) | (simp [*, errW_none, errW_some] <;> rfl), by first | exact Kd.R_nil _ _ _ _ _ | exact Kd.N_nil _ _ _ _ _ | exact Kd.V_nil _ _ _ _ _ | exact Kd.Q_nil _ _ _ _ _ | exact Kd.S_nil _ _ _ _ _, hs_ GE204.out⟩
def impl_CountCrossings.f (k : Nat) (a0_0 : Int) (a0_1 : Int) : Option (Int × Bool) := (impl_IsStar.f a0_0 a0_1).bind fun t210 => (if t210 = true then ((impl_Star_chords.f k a0_0 a0_1).bind fun t211 => ((impl_crossings.f k t211).bind fun t214 => (some (t214, true)))) else (some (0, false)))
theorem impl_CountCrossings.mono : ∀ a0 a1 k, LeO (impl_CountCrossings.f k a0 a1) (impl_CountCrossings.f (k + 1) a0 a1) := by
 intro a0 a1 k
 unfold impl_CountCrossings.f
 repeat' first
   | (with_reducible exact impl_Star_chords.mono _ _ _)
   | (with_reducible exact impl_crossings.mono _ _)
   | (with_reducible exact LeO.refl _)
   | (with_reducible exact LeO.none _)
   | (with_reducible refine LeO.ite ?_ ?_)
   | (with_reducible refine LeO.bind ?_ (fun _ => ?_))
   | exact impl_Star_chords.mono _ _ _
   | exact impl_crossings.mono _ _
   | exact LeO.none _
   | refine LeO.ite ?_ ?_
   | refine LeO.bind ?_ (fun _ => ?_)
set_option maxHeartbeats 8000000 in
set_option maxRecDepth 100000 in
theorem impl_CountCrossings.calls (k : Nat) (a0_0 : Int) (a0_1 : Int) (r1 : Int) (r2 : Bool) (w : World) (h : impl_CountCrossings.f k a0_0 a0_1 = some (r1, r2)) :
  Calls Try.prog 26 #[.agg #[.int .i64 a0_0, .int .i64 a0_1]] w fun e w' => e = .returned (.tuple #[.int .i64 r1, .bool r2]) ∧ Below w.heap.size w w' := by
 have hu37 := Try.underlying37
 have HB := Aside0.mk (Below.refl w.heap.size w)
 have H : ((impl_IsStar.f a0_0 a0_1).bind fun t210 => (if t210 = true then ((impl_Star_chords.f k a0_0 a0_1).bind fun t211 => ((impl_crossings.f k t211).bind fun t214 => (some (t214, true)))) else (some (0, false)))) = some (r1, r2) := h
 clear h
 replace H := bI H
 obtain ⟨t210, A20, H⟩ := H
 replace H : (if t210 = true then ((impl_Star_chords.f k a0_0 a0_1).bind fun t211 => ((impl_crossings.f k t211).bind fun t214 => (some (t214, true)))) else (some (0, false))) = some (r1, r2) := H
 have A2 := Aside0.mk A20
 clear A20
 by_cases c3 : t210 = true
 ·subst c3
  have H1 : ((impl_Star_chords.f k a0_0 a0_1).bind fun t211 => ((impl_crossings.f k t211).bind fun t214 => (some (t214, true)))) = some (r1, r2) := by rw [if_pos rfl] at H; exact H
  clear H
  have H := H1
  clear H1
  replace H := bI H
  obtain ⟨t211, A40, H⟩ := H
  replace H : ((impl_crossings.f k t211).bind fun t214 => (some (t214, true))) = some (r1, r2) := H
  have A4 := Aside0.mk A40
  clear A40
  replace H := bI H
  obtain ⟨t214, A50, H⟩ := H
  replace H : (some (t214, true)) = some (r1, r2) := H
  have A5 := Aside0.mk A50
  clear A50
  simp only [Option.some.injEq, Prod.mk.injEq] at H
  obtain ⟨rfl, rfl⟩ := H
  go_enter Try.func26, Try.ntmps26
  go_wp2_with (first | ((with_reducible refine gate_dst (N := 1) rfl ?_); refine box_event ?hg (N := 1) ?hd (cs := #[.int .i64 a0_0, .int .i64 a0_1]) (t := 37) ?hr ?_; (case hd => rfl); (case hg => rfl); (case hr => first | (go_simp; done) | (go_simp; rfl)); intro gb209 hg w6 hbox hb; have n0_ := Aside0.mk (below_step hb_ hb); have n1_ := Aside0.mk (hbox); have n2_ := Aside0.mk ((by rw [hg]; exact (below_size hb_) : w.heap.size ≤ gb209)); have n3_ := Aside0.mk ((by rw [hg]; exact (below_size hb_) : w.heap.size ≤ gb209)); clear HB; have HB := n0_; have BK209 := n1_; have GW209 := n2_; have GE209 := n3_; clear n0_ n1_ n2_ n3_; clear hb hbox hg; have hcz7_0 : w6.cell? ⟨gb209, 0, none⟩ = some (.int .i64 a0_0) := bc_ BK209 0; have hcz7_1 : w6.cell? ⟨gb209, 1, none⟩ = some (.int .i64 a0_1) := bc_ BK209 1; have hfz7_0 := blk_frozen BK209.out 0; have hfz7_1 := blk_frozen BK209.out 1) | ((with_reducible refine gate_callee (f := 45) rfl ?_); refine goesL_ (some 5) rfl rfl Try.func45 (by kernel_rfl) rfl #[.agg #[.int .i64 a0_0, .int .i64 a0_1]] rfl ar_ ?_; (with_reducible refine (impl_IsStar.calls a0_0 a0_1 true _ A2.out).mono ?_); rintro e w8 ⟨rfl, hb⟩; refine ⟨_, rfl, ?_⟩; have n0_ := Aside0.mk (blk_below (g := gb209) (o := .cells #[.int .i64 a0_0, .int .i64 a0_1] 37 (0, 0)) (kx_ BK209.out) hb); have n1_ := Aside0.mk (below_step (hs_ GE209.out) hb); clear BK209; clear HB; have BK209 := n0_; have HB := n1_; clear n0_ n1_; (try clear hb); (try clear hb2); (try clear hk); (try clear hi); have hcz9_0 : w8.cell? ⟨gb209, 0, none⟩ = some (.int .i64 a0_0) := bc_ BK209 0; have hcz9_1 : w8.cell? ⟨gb209, 1, none⟩ = some (.int .i64 a0_1) := bc_ BK209 1; have hfz9_0 := blk_frozen BK209.out 0; have hfz9_1 := blk_frozen BK209.out 1) | ((with_reducible refine gate_callee (f := 46) rfl ?_); refine goesL_ (some 8) rfl rfl Try.func46 (by kernel_rfl) rfl #[.agg #[.int .i64 a0_0, .int .i64 a0_1]] rfl ar_ ?_; (with_reducible refine (impl_Star_chords.calls k a0_0 a0_1 t211 _ A4.out).mono ?_); rintro e w10 ⟨v212, rfl, ho0, hb⟩; refine ⟨_, rfl, ?_⟩; have n0_ := Aside0.mk (Kd.R_lower ho0 (below_size (hs_ GE209.out))); have n1_ := Aside0.mk (blk_below (g := gb209) (o := .cells #[.int .i64 a0_0, .int .i64 a0_1] 37 (0, 0)) (kx_ BK209.out) hb); have n2_ := Aside0.mk (below_step (hs_ GE209.out) hb); clear BK209; clear HB; have HO213 := n0_; have BK209 := n1_; have HB := n2_; clear n0_ n1_ n2_; (try clear hb); (try clear hb2); (try clear hk); (try clear hi); (try clear ho0); obtain ⟨Ao11, co11, eo11⟩ := Kd.R_slice HO213.out; subst eo11) | ((with_reducible refine gate_callee (f := 37) rfl ?_); refine goesL_ (some 9) rfl rfl Try.func37 (by kernel_rfl) rfl #[.slice Ao11 t211.length co11] rfl ar_ ?_; (with_reducible refine (impl_crossings.calls k _ _ t211 t214 _ ?side1 ?side2 A5.out).mono ?_); (case side1 => repeat (first | exact (Kd.R_reads' HO213.out).2.2 | (with_reducible refine Kd.C_alloc ?_ _) | (with_reducible refine Kd.C_drewN ?_ _) | (with_reducible refine Kd.C_drew ?_))); (case side2 => exact (Kd.R_reads' HO213.out).2.1); rintro e w12 ⟨rfl, hb⟩; refine ⟨_, rfl, ?_⟩; have n0_ := Aside0.mk (Kd.R_below (ra_ HO213.out) hb); have n1_ := Aside0.mk (blk_below (g := gb209) (o := .cells #[.int .i64 a0_0, .int .i64 a0_1] 37 (0, 0)) (kx_ BK209.out) hb); have n2_ := Aside0.mk (below_step (hs_ GE209.out) hb); clear HO213; clear BK209; clear HB; have HO213 := n0_; have BK209 := n1_; have HB := n2_; clear n0_ n1_ n2_; (try clear hb); (try clear hb2); (try clear hk); (try clear hi)))
  go_ret2
  exact ⟨by first | rfl | (simp [errW_none, errW_some] <;> rfl) | (simp [*, errW_none, errW_some] <;> rfl), hs_ GE209.out⟩
 ·replace c3 := Bool.eq_false_iff.mpr c3
  subst c3
  have H1 : (some (0, false)) = some (r1, r2) := by rw [if_neg (show ¬ (false = true) by decide)] at H; exact H
  clear H
  have H := H1
  clear H1
  simp only [Option.some.injEq, Prod.mk.injEq] at H
  obtain ⟨rfl, rfl⟩ := H
  go_enter Try.func26, Try.ntmps26
  go_wp2_with (first | ((with_reducible refine gate_dst (N := 1) rfl ?_); refine box_event ?hg (N := 1) ?hd (cs := #[.int .i64 a0_0, .int .i64 a0_1]) (t := 37) ?hr ?_; (case hd => rfl); (case hg => rfl); (case hr => first | (go_simp; done) | (go_simp; rfl)); intro gb209 hg w13 hbox hb; have n0_ := Aside0.mk (below_step hb_ hb); have n1_ := Aside0.mk (hbox); have n2_ := Aside0.mk ((by rw [hg]; exact (below_size hb_) : w.heap.size ≤ gb209)); have n3_ := Aside0.mk ((by rw [hg]; exact (below_size hb_) : w.heap.size ≤ gb209)); clear HB; have HB := n0_; have BK209 := n1_; have GW209 := n2_; have GE209 := n3_; clear n0_ n1_ n2_ n3_; clear hb hbox hg; have hcz14_0 : w13.cell? ⟨gb209, 0, none⟩ = some (.int .i64 a0_0) := bc_ BK209 0; have hcz14_1 : w13.cell? ⟨gb209, 1, none⟩ = some (.int .i64 a0_1) := bc_ BK209 1; have hfz14_0 := blk_frozen BK209.out 0; have hfz14_1 := blk_frozen BK209.out 1) | ((with_reducible refine gate_callee (f := 45) rfl ?_); refine goesL_ (some 5) rfl rfl Try.func45 (by kernel_rfl) rfl #[.agg #[.int .i64 a0_0, .int .i64 a0_1]] rfl ar_ ?_; (with_reducible refine (impl_IsStar.calls a0_0 a0_1 false _ A2.out).mono ?_); rintro e w15 ⟨rfl, hb⟩; refine ⟨_, rfl, ?_⟩; have n0_ := Aside0.mk (blk_below (g := gb209) (o := .cells #[.int .i64 a0_0, .int .i64 a0_1] 37 (0, 0)) (kx_ BK209.out) hb); have n1_ := Aside0.mk (below_step (hs_ GE209.out) hb); clear BK209; clear HB; have BK209 := n0_; have HB := n1_; clear n0_ n1_; (try clear hb); (try clear hb2); (try clear hk); (try clear hi)))
  go_ret2
  exact ⟨by first | rfl | (simp [errW_none, errW_some] <;> rfl) | (simp [*, errW_none, errW_some] <;> rfl), hs_ GE209.out⟩
end Go.Proofs.Ytdjbdpgdhpobfaa.Pr
/- Regions, pieces and shades of chords: the program's and the reference's are one. -/
namespace Go.Proofs.Ytdjbdpgdhpobfaa.M
open Go.RowKit Go.Proofs.Ytdjbdpgdhpobfaa.Pr Go.Proofs.YtdjbdpgdhpobfaaW.PrintWords Go.Proofs.YtdjbdpgdhpobfaaW.PrintLast
def arcsB (p : Int) (l : List Ch) (i j : Int) : Int × Bool :=
  if goodB p l = true ∧ (0 ≤ i ∧ i ≤ p - 1) ∧ (0 ≤ j ∧ j ≤ p - 1) then ((ptN i j l : Int), true) else (0, false)
theorem arcs_spec (p : Int) (l : List Ch) (i j : Int) (hl : l.length ≤ 1048576) : Ev (fun k => spec_ArcsParted.f k p l i j) (arcsB p l i j) := by
  unfold spec_ArcsParted.f
  refine Ev.bindk (cdGood_ev p l (by omega)) ?_
  by_cases hg : goodB p l = true
  · obtain ⟨hp, h40, hv⟩ := good_ok hg
    rw [w64 (by omega) (by omega)]
    refine Ev.pos hg (Ev.bindc (l1In_eq _ _ _) ?_)
    by_cases hi : 0 ≤ i ∧ i ≤ p - 1
    · refine Ev.pos (by simpa [inB] using hi) (Ev.bindc (l1In_eq _ _ _) ?_)
      by_cases hj : 0 ≤ j ∧ j ≤ p - 1
      · refine Ev.pos (by simpa [inB] using hj) (Ev.bindk (reParted_ev l i j h40 (fun c hc => by have := hv c hc; omega)) (Ev.val ?_))
        rw [arcsB, if_pos ⟨hg, hi, hj⟩]
      · refine Ev.neg (by simpa [inB] using hj) (Ev.val ?_)
        rw [arcsB, if_neg (fun h => hj h.2.2)]
    · refine Ev.neg (by simpa [inB] using hi) (Ev.val ?_)
      rw [arcsB, if_neg (fun h => hi h.2.1)]
  · refine Ev.neg hg (Ev.val ?_)
    rw [arcsB, if_neg (fun h => hg h.1)]
theorem arcs_impl (p : Int) (l : List Ch) (i j : Int) (hl : l.length ≤ 1048576) : Ev (fun k => impl_ArcsParted.f k p l i j) (arcsB p l i j) := by
  unfold impl_ArcsParted.f
  have ha : Ev (fun k => impl_isArc.f k p l [i, j]) (goodB p l && !([i, j].any fun n => outR n (wrap64 (p - 1)))) := by
    unfold impl_isArc.f
    exact Ev.bindk (isSet_ev p l (by omega)) (Ev.now _)
  refine Ev.bindk ha ?_
  by_cases hg : goodB p l = true
  · obtain ⟨hp, h40, hv⟩ := good_ok hg
    rw [w64 (by omega) (by omega)]
    by_cases h : (0 ≤ i ∧ i ≤ p - 1) ∧ (0 ≤ j ∧ j ≤ p - 1)
    · refine Ev.pos (by rw [hg]; simp [outR]; omega) (Ev.bindk (parted_ev l i j h40 (fun c hc => by have := hv c hc; omega)) (Ev.val ?_))
      rw [arcsB, if_pos ⟨hg, h⟩]
    · refine Ev.neg (by rw [hg]; simp [outR]; omega) (Ev.val ?_)
      rw [arcsB, if_neg (fun x => h x.2)]
  · refine Ev.neg (by simp [hg]) (Ev.val ?_)
    rw [arcsB, if_neg (fun h => hg h.1)]
def regionsB (p : Int) (l : List Ch) : Int × Bool := if goodB p l = true then (1 + l.length + (pairsN l : Int), true) else (0, false)
theorem regions_spec (p : Int) (l : List Ch) (hl : l.length ≤ 1048576) : Ev (fun k => spec_RegionsOf.f k p l) (regionsB p l) := by
  unfold spec_RegionsOf.f
  refine Ev.bindk (cdGood_ev p l (by omega)) ?_
  by_cases hg : goodB p l = true
  · obtain ⟨hp, h40, hv⟩ := good_ok hg
    have hn := pairsN_le l
    have : l.length * l.length ≤ 40 * 40 := Nat.mul_le_mul h40 h40
    refine Ev.pos hg (Ev.bindk (cdPairs_ev l h40 (fun c hc => (hv c hc).2.1)) (Ev.val ?_))
    rw [pairsOf_length, w64 (x := 1 + (l.length : Int)) (by omega) (by omega), w64 (by omega) (by omega), regionsB, if_pos hg]
  · refine Ev.neg hg (Ev.val ?_)
    rw [regionsB, if_neg hg]
theorem regions_impl (p : Int) (l : List Ch) (hl : l.length ≤ 1048576) : Ev (fun k => impl_RegionsOf.f k p l) (regionsB p l) := by
  unfold impl_RegionsOf.f
  refine Ev.bindk (isSet_ev p l (by omega)) ?_
  by_cases hg : goodB p l = true
  · obtain ⟨hp, h40, hv⟩ := good_ok hg
    have hn := pairsN_le l
    have : l.length * l.length ≤ 40 * 40 := Nat.mul_le_mul h40 h40
    refine Ev.pos hg (Ev.bindk (crossings_ev l h40) (Ev.val ?_))
    rw [w64 (x := 1 + (l.length : Int)) (by omega) (by omega), w64 (by omega) (by omega), regionsB, if_pos hg]
  · refine Ev.neg hg (Ev.val ?_)
    rw [regionsB, if_neg hg]
def piecesB (p : Int) (l : List Ch) (i : Int) : Int × Bool :=
  if goodB p l = true ∧ 0 ≤ i ∧ i < l.length then (1 + (cnt (l.getD i.toNat z60) l : Int), true) else (0, false)
theorem pieces_spec (p : Int) (l : List Ch) (i : Int) (hl : l.length ≤ 1048576) : Ev (fun k => spec_PiecesOfChord.f k p l i) (piecesB p l i) := by
  unfold spec_PiecesOfChord.f
  refine Ev.bindk (cdGood_ev p l (by omega)) ?_
  by_cases hg : goodB p l = true
  · obtain ⟨hp, h40, hv⟩ := good_ok hg
    rw [w64 (by omega) (by omega)]
    refine Ev.pos hg (Ev.bindc (l1In_eq _ _ _) ?_)
    by_cases hi : 0 ≤ i ∧ i < l.length
    · obtain ⟨n, rfl⟩ := Int.eq_ofNat_of_zero_le hi.1
      have hn : n < l.length := by omega
      refine Ev.pos (by simp [inB]; omega) (Ev.bindk (rePieces_ev l n hn h40 (fun c hc => (hv c hc).2.1)) (Ev.val ?_))
      rw [piecesB, if_pos ⟨hg, hi⟩, Int.toNat_natCast, List.getD_eq_getElem?_getD, List.getElem?_eq_getElem hn]
      rfl
    · refine Ev.neg (by simp [inB]; omega) (Ev.val ?_)
      rw [piecesB, if_neg (fun h => hi h.2)]
  · refine Ev.neg hg (Ev.val ?_)
    rw [piecesB, if_neg (fun h => hg h.1)]
theorem pieces_impl (p : Int) (l : List Ch) (i : Int) (hl : l.length ≤ 1048576) : Ev (fun k => impl_PiecesOfChord.f k p l i) (piecesB p l i) := by
  unfold impl_PiecesOfChord.f
  refine Ev.bindk (isSet_ev p l (by omega)) ?_
  by_cases hg : goodB p l = true
  · obtain ⟨hp, h40, hv⟩ := good_ok hg
    rw [w64 (by omega) (by omega)]
    refine Ev.pos hg (Ev.bindc (within_eq _ _ _) ?_)
    by_cases hi : 0 ≤ i ∧ i < l.length
    · obtain ⟨n, rfl⟩ := Int.eq_ofNat_of_zero_le hi.1
      have hn : n < l.length := by omega
      have hc := cnt_le l[n] l
      refine Ev.pos (by simp [inB]; omega) (Ev.pos hi.1 (Ev.pos hi.2 ?_))
      rw [rd_ch l n hn]
      refine Ev.bindk (crossed_ev l l[n] (by omega)) (Ev.val ?_)
      rw [w64 (by omega) (by omega), piecesB, if_pos ⟨hg, hi⟩, Int.toNat_natCast, List.getD_eq_getElem?_getD, List.getElem?_eq_getElem hn]
      rfl
    · refine Ev.neg (by simp [inB]; omega) (Ev.val ?_)
      rw [piecesB, if_neg (fun h => hi h.2)]
  · refine Ev.neg hg (Ev.val ?_)
    rw [piecesB, if_neg (fun h => hg h.1)]
theorem crB_selfN (c : Ch) : ¬ crB c c = true := by
  unfold crB
  simp only [decide_eq_true_eq]
  omega
theorem withN_front (c : Ch) (l : List Ch) : ∀ r : List Ch, withN (c :: l) r = withN l r + cnt c r
  | [] => rfl
  | d :: r => by
    have ih := withN_front c l r
    unfold withN at *
    simp only [List.map_cons, List.sum_cons, ih]
    by_cases h : crB c d = true
    · rw [cnt_pos _ h, cnt_pos (c := d) (d := c) _ (by rw [crB_comm]; exact h)]; omega
    · rw [cnt_neg _ h, cnt_neg (c := d) (d := c) _ (by rw [crB_comm]; exact h)]; omega
theorem withN_self : ∀ l : List Ch, withN l l = 2 * pairsN l
  | [] => rfl
  | c :: r => by
    have ih := withN_self r
    rw [pairsN]
    have : withN (c :: r) (c :: r) = cnt c (c :: r) + withN (c :: r) r := by simp [withN]
    rw [this, withN_front, cnt_neg _ (crB_selfN c), ih]
    omega
def sumP (l : List Ch) (r : List Ch) : Int := r.length + (withN l r : Int)
theorem sumP_cons (l : List Ch) (c : Ch) (r : List Ch) : sumP l (c :: r) = (1 + (cnt c l : Int)) + sumP l r := by
  unfold sumP withN
  simp only [List.map_cons, List.sum_cons, List.length_cons]
  omega
def piecesAll (p : Int) (l : List Ch) : Int × Bool := if goodB p l = true then ((l.length : Int) + 2 * (pairsN l : Int), true) else (0, false)
theorem all_spec (p : Int) (l : List Ch) (hl : l.length ≤ 1048576) : Ev (fun k => spec_CountPieces.f k p l) (piecesAll p l) := by
  unfold spec_CountPieces.f
  refine Ev.bindk (cdGood_ev p l (by omega)) ?_
  by_cases hg : goodB p l = true
  · obtain ⟨hp, h40, hv⟩ := good_ok hg
    refine Ev.pos hg ?_
    have e := Ev.scan0 (fun k i (acc : Int) => spec_CountPieces.l0 k l acc (l.length : Int) i) l (fun rest acc => (acc + sumP l rest, true)) (fun i acc => 0 ≤ acc ∧ acc ≤ i * 41)
      (fun acc hp => by
        refine Ev.step (fun k => by rw [spec_CountPieces.l0]) ?_
        exact Ev.neg (by omega) (Ev.val (by simp [sumP, withN])))
      (fun i h acc hp => by
        have hc := cnt_le l[i] l
        refine .inl ⟨acc + (1 + (cnt l[i] l : Int)), ⟨by omega, by omega⟩, by rw [sumP_cons]; simp only [Prod.mk.injEq, and_true]; omega, fun r hr2 => ?_⟩
        refine Ev.step (fun k => by rw [spec_CountPieces.l0]) ?_
        refine Ev.pos (by omega) (Ev.bindk (rePieces_ev l i h h40 (fun c hc => (hv c hc).2.1)) ?_)
        rw [w64 (x := (i : Int) + 1) (by omega) (by omega), w64 (by omega) (by omega)]
        exact hr2)
      0 ⟨by omega, by omega⟩
    rw [piecesAll, if_pos hg]
    have e2 : sumP l l = (l.length : Int) + 2 * (pairsN l : Int) := by
      unfold sumP
      rw [withN_self]
      omega
    rw [e2, Int.zero_add] at e
    exact e
  · refine Ev.neg hg (Ev.val ?_)
    rw [piecesAll, if_neg hg]
theorem all_impl (p : Int) (l : List Ch) (hl : l.length ≤ 1048576) : Ev (fun k => impl_CountPieces.f k p l) (piecesAll p l) := by
  unfold impl_CountPieces.f
  refine Ev.bindk (isSet_ev p l (by omega)) ?_
  by_cases hg : goodB p l = true
  · obtain ⟨hp, h40, hv⟩ := good_ok hg
    have hn := pairsN_le l
    have : l.length * l.length ≤ 40 * 40 := Nat.mul_le_mul h40 h40
    refine Ev.pos hg (Ev.bindk (crossings_ev l h40) (Ev.val ?_))
    rw [w64 (x := 2 * (pairsN l : Int)) (by omega) (by omega), w64 (by omega) (by omega), piecesAll, if_pos hg]
  · refine Ev.neg hg (Ev.val ?_)
    rw [piecesAll, if_neg hg]
def shade (l : List Ch) (i : Int) : Int := if ptN 0 i l % 2 = 0 then 108 else 100
def shades (l : List Ch) (i : Int) : Nat → List Int
  | 0 => []
  | d + 1 => shade l i :: shades l (i + 1) d
def shadesB (p : Int) (l : List Ch) : ByteArray × Bool := if goodB p l = true then (strOfNums (shades l 0 p.toNat), true) else (⟨#[]⟩, false)
theorem str_snoc (xs : List Int) (c : Int) : strOfNums (xs ++ [c]) = strOfNums xs ++ strOfNums [c] := by
  unfold strOfNums
  simp [ByteArray.ext_iff]
theorem str_size (xs : List Int) : (strOfNums xs).size = xs.length := by
  unfold strOfNums
  simp [ByteArray.size]
theorem tmod_even (n : Nat) : Int.tmod (n : Int) 2 = 0 ↔ n % 2 = 0 := by
  rw [Int.tmod_eq_emod_of_nonneg (by omega)]
  omega
theorem shades_spec (p : Int) (l : List Ch) (hl : l.length ≤ 1048576) : Ev (fun k => spec_ShadesOfArcs.f k p l) (shadesB p l) := by
  unfold spec_ShadesOfArcs.f
  refine Ev.bindk (cdGood_ev p l (by omega)) ?_
  by_cases hg : goodB p l = true
  · obtain ⟨hp, h40, hv⟩ := good_ok hg
    refine Ev.pos hg ?_
    have e := Ev.upto (fun k i (acc : List Int) => spec_ShadesOfArcs.l0 k p l (strOfNums acc) i) p (fun i acc => (strOfNums (acc ++ shades l i (p - i).toNat), true)) (fun i acc => 0 ≤ i ∧ i ≤ p ∧ (acc.length : Int) = i)
      (fun i acc hi hpi => by
        refine Ev.step (fun k => by rw [spec_ShadesOfArcs.l0]) ?_
        refine Ev.neg (by omega) (Ev.val ?_)
        rw [show (p - i).toNat = 0 by omega]
        simp [shades])
      (fun i acc hi hpi => by
        obtain ⟨q, hq⟩ : ∃ q, (p - i).toNat = q + 1 := ⟨(p - i).toNat - 1, by omega⟩
        have hq2 : (p - (i + 1)).toNat = q := by omega
        have hsz := str_size acc
        refine .inl ⟨acc ++ [shade l i], ⟨by omega, by omega, by simp; omega⟩, by rw [hq, hq2, shades, List.append_assoc]; rfl, fun r hr => ?_⟩
        refine Ev.step (fun k => by rw [spec_ShadesOfArcs.l0]) ?_
        refine Ev.pos hi (Ev.bindk (reParted_ev l 0 i h40 (fun c hc => by have := hv c hc; omega)) ?_)
        rw [str_snoc] at hr
        rw [w64 (x := i + 1) (by omega) (by omega)]
        by_cases he : ptN 0 i l % 2 = 0
        · refine Ev.pos ((tmod_even _).2 he) (Ev.pos (by omega) ?_)
          rw [show shade l i = 108 by rw [shade, if_pos he]] at hr
          exact hr
        · refine Ev.neg (fun h => he ((tmod_even _).1 h)) (Ev.pos (by omega) ?_)
          rw [show shade l i = 100 by rw [shade, if_neg he]] at hr
          exact hr)
      p.toNat 0 [] (by omega) ⟨by omega, by omega, rfl⟩
    rw [shadesB, if_pos hg]
    rw [show p - 0 = p by omega] at e
    exact e
  · refine Ev.neg hg (Ev.val ?_)
    rw [shadesB, if_neg hg]
theorem shades_impl (p : Int) (l : List Ch) (hl : l.length ≤ 1048576) : Ev (fun k => impl_ShadesOfArcs.f k p l) (shadesB p l) := by
  unfold impl_ShadesOfArcs.f
  refine Ev.bindk (isSet_ev p l (by omega)) ?_
  by_cases hg : goodB p l = true
  · obtain ⟨hp, h40, hv⟩ := good_ok hg
    refine Ev.pos hg ?_
    have e := Ev.upto (fun k i (acc : List Int) => impl_ShadesOfArcs.l0 k l acc p i) p (fun i acc => (strOfNums (acc ++ shades l i (p - i).toNat), true)) (fun i acc => 0 ≤ i ∧ i ≤ p ∧ (acc.length : Int) = i)
      (fun i acc hi hpi => by
        refine Ev.step (fun k => by rw [impl_ShadesOfArcs.l0]) ?_
        refine Ev.neg (by omega) (Ev.val ?_)
        rw [show (p - i).toNat = 0 by omega]
        simp [shades])
      (fun i acc hi hpi => by
        obtain ⟨q, hq⟩ : ∃ q, (p - i).toNat = q + 1 := ⟨(p - i).toNat - 1, by omega⟩
        have hq2 : (p - (i + 1)).toNat = q := by omega
        refine .inl ⟨acc ++ [shade l i], ⟨by omega, by omega, by simp; omega⟩, by rw [hq, hq2, shades, List.append_assoc]; rfl, fun r hr => ?_⟩
        refine Ev.step (fun k => by rw [impl_ShadesOfArcs.l0]) ?_
        refine Ev.pos hi (Ev.bindk (parted_ev l 0 i h40 (fun c hc => by have := hv c hc; omega)) ?_)
        rw [w64 (x := i + 1) (by omega) (by omega)]
        by_cases he : ptN 0 i l % 2 = 0
        · refine Ev.pos ((tmod_even _).2 he) (Ev.pos (by omega) ?_)
          rw [show shade l i = 108 by rw [shade, if_pos he]] at hr
          exact hr
        · refine Ev.neg (fun h => he ((tmod_even _).1 h)) (Ev.pos (by omega) ?_)
          rw [show shade l i = 100 by rw [shade, if_neg he]] at hr
          exact hr)
      p.toNat 0 [] (by omega) ⟨by omega, by omega, rfl⟩
    rw [shadesB, if_pos hg]
    rw [show p - 0 = p by omega] at e
    exact e
  · refine Ev.neg hg (Ev.val ?_)
    rw [shadesB, if_neg hg]
def starR (n s : Int) : Int × Bool := if okStar n s = true then (wrap64 (wrap64 (1 + ((setC (chsFrom n s n.toNat 0)).length : Int)) + (pairsN (setC (chsFrom n s n.toNat 0)) : Int)), true) else (0, false)
theorem star_chs {n s : Int} (hg : okStar n s = true) : (3 ≤ n ∧ n ≤ 60) ∧ (1 ≤ s ∧ s < n) ∧ (setC (chsFrom n s n.toNat 0)).length ≤ 60 ∧ ∀ c ∈ setC (chsFrom n s n.toNat 0), 0 ≤ c.f0 ∧ c.f0 < c.f1 ∧ c.f1 < n := by
  have h := hg
  simp only [okStar, inB, Bool.and_eq_true, decide_eq_true_eq] at h
  obtain ⟨⟨h1, h2⟩, h3, h4⟩ := h
  have hl := setC_length (chsFrom n s n.toNat 0)
  rw [chsFrom_length] at hl
  exact ⟨⟨h1, h2⟩, ⟨h3, by omega⟩, by omega, chords_ok n s ⟨by omega, by omega⟩ ⟨by omega, by omega⟩⟩
theorem starR_spec (n s : Int) : Ev (fun k => spec_RegionsOfStar.f k n s) (starR n s) := by
  unfold spec_RegionsOfStar.f starR
  by_cases hg : okStar n s = true
  · obtain ⟨h1, h2, h3, h4⟩ := star_chs hg
    rw [if_pos hg]
    exact Ev.bindc (srGood_eq n s) (Ev.pos hg (Ev.bindk (srChords_ev n s ⟨by omega, by omega⟩ ⟨by omega, by omega⟩) (Ev.bindk (srCount_ev _ (by omega) (fun c hc => (h4 c hc).2.1)) (Ev.now _))))
  · rw [if_neg hg]
    exact Ev.bindc (srGood_eq n s) (Ev.neg hg (Ev.now _))
theorem starR_impl (n s : Int) : Ev (fun k => impl_RegionsOfStar.f k n s) (starR n s) := by
  unfold impl_RegionsOfStar.f starR
  by_cases hg : okStar n s = true
  · obtain ⟨h1, h2, h3, h4⟩ := star_chs hg
    rw [if_pos hg]
    exact Ev.bindc (isStar_eq n s) (Ev.pos hg (Ev.bindk (chords_ev n s ⟨by omega, by omega⟩ ⟨by omega, by omega⟩) (Ev.bindk (crossings_evB _ (by omega)) (Ev.now _))))
  · rw [if_neg hg]
    exact Ev.bindc (isStar_eq n s) (Ev.neg hg (Ev.now _))
def mostE (p : Int) : Int := wrap64 ((wrap64 (1 + (wrap64 (Int.tdiv (wrap64 (p * (wrap64 (p - 1)))) 2)))) + (wrap64 (Int.tdiv (wrap64 ((wrap64 ((wrap64 (p * (wrap64 (p - 1)))) * (wrap64 (p - 2)))) * (wrap64 (p - 3)))) 24)))
def mostR (p : Int) : Int × Bool := if inB p 3 20 = true then (mostE p, true) else (0, false)
theorem mostR_impl (p : Int) : impl_MostRegions.f p = some (mostR p) := by
  unfold impl_MostRegions.f mostR
  rw [within_eq, Option.bind_some]
  by_cases h : inB p 3 20 = true
  · rw [if_pos h, if_pos h]; rfl
  · rw [if_neg h, if_neg h]
theorem mostR_spec (p : Int) : spec_MostRegions.f p = some (mostR p) := by
  unfold spec_MostRegions.f mostR
  rw [l1In_eq, Option.bind_some]
  by_cases h : inB p 3 20 = true
  · rw [if_pos h, if_pos h]; rfl
  · rw [if_neg h, if_neg h]
theorem mostE_less_all : (List.range 17).all (fun i => decide (mostE (4 + (i : Int) - 1) < mostE (4 + (i : Int)))) = true := by decide +kernel
theorem mostE_less (p : Int) (h : 4 ≤ p ∧ p ≤ 20) : mostE (p - 1) < mostE p := by
  have e := of_decide_eq_true (List.all_eq_true.1 mostE_less_all (p - 4).toNat (List.mem_range.2 (by omega)))
  rw [show (4 : Int) + (((p - 4).toNat : Nat) : Int) = p by omega] at e
  exact e
def starCk (m t : Nat) : Bool := decide (wrap64 (wrap64 (1 + ((setC (chsFrom (3 + (m : Int)) (1 + (t : Int)) (3 + m) 0)).length : Int)) + (pairsN (setC (chsFrom (3 + (m : Int)) (1 + (t : Int)) (3 + m) 0)) : Int)) ≤ mostE (3 + (m : Int)))
theorem starCk_all : (List.range 18).all (fun m => (List.range (m + 2)).all fun t => starCk m t) = true := by decide +kernel
theorem star_most {n s : Int} (hg : okStar n s = true) (hn : n ≤ 20) : (starR n s).1 ≤ mostE n := by
  obtain ⟨h1, h2, h3, h4⟩ := star_chs hg
  have e := List.all_eq_true.1 (List.all_eq_true.1 starCk_all (n - 3).toNat (List.mem_range.2 (by omega))) (s - 1).toNat (List.mem_range.2 (by omega))
  unfold starCk at e
  rw [decide_eq_true_eq, show (3 : Int) + (((n - 3).toNat : Nat) : Int) = n by omega, show (1 : Int) + (((s - 1).toNat : Nat) : Int) = s by omega, show 3 + (n - 3).toNat = n.toNat by omega] at e
  rw [starR, if_pos hg]
  exact e
theorem bt_str (xs : List Int) (hx : ∀ x ∈ xs, 0 ≤ x ∧ x < 256) (i : Nat) (hi : i < xs.length) : bt (strOfNums xs) (i : Int) = xs[i] := by
  unfold bt strOfNums
  have := hx _ (List.getElem_mem hi)
  rw [Int.toNat_natCast, dif_pos (by simp [ByteArray.size]; exact hi)]
  show (((xs.map _).toArray[i]'_ : UInt8).toNat : Int) = _
  simp
  omega
theorem shades_get (l : List Ch) : ∀ (d : Nat) (a : Int) (i : Nat) (h : i < (shades l a d).length), (shades l a d)[i] = shade l (a + i)
  | d + 1, a, 0, h => by simp [shades]
  | d + 1, a, i + 1, h => by
    simp only [shades, List.getElem_cons_succ]
    rw [shades_get l d (a + 1) i (by simpa [shades] using h)]
    congr 1
    omega
theorem shades_length (l : List Ch) : ∀ (d : Nat) (a : Int), (shades l a d).length = d
  | 0, a => rfl
  | d + 1, a => by rw [shades, List.length_cons, shades_length l d]
theorem shades_by (l : List Ch) (d : Nat) (a : Int) : ∀ x ∈ shades l a d, 0 ≤ x ∧ x < 256 := by
  intro x hx
  obtain ⟨i, hi, rfl⟩ := List.getElem_of_mem hx
  rw [shades_get]
  unfold shade
  split <;> omega
theorem shade_bt (p : Int) (l : List Ch) (i : Int) (h0 : 0 ≤ i) (h1 : i < p) : bt (strOfNums (shades l 0 p.toNat)) i = shade l i := by
  have hl := shades_length l p.toNat 0
  have e := bt_str (shades l 0 p.toNat) (shades_by l _ _) i.toNat (by omega)
  rw [Int.toNat_of_nonneg h0] at e
  rw [e, shades_get, Int.toNat_of_nonneg h0, Int.zero_add]
end Go.Proofs.Ytdjbdpgdhpobfaa.M
namespace Go.Proofs.Ytdjbdpgdhpobfaa.Pr
open Go.RowKit Go.Proofs.YtdjbdpgdhpobfaaW.PrintWords Go.Proofs.YtdjbdpgdhpobfaaW.PrintLast Go.Proofs.YtdjbdpgdhpobfaaW.PrintMore
attribute [local go_sem] max2_int min2_int max_two min_two max_three min_three max_four min_four
/-- A state of type 47 at block g of W; what its slices lead to came in by w0. -/
def IsS47 (w0 W : World) (g : Nat) (f0 : List Int) (f1 : Int) (f2 : Int) : Prop := ∃ A0 c0, W.heap[g]? = some (.cells #[.slice A0 f0.length c0, .int .i64 f1, .int .u64 f2] 47 (0, 0)) ∧ w0.heap.size ≤ g ∧ Kd.C (Kd.int .u8) w0 A0 f0.length f0
theorem IsS47.grown {w0 W : World} {g : Nat} {f0 : List Int} {f1 : Int} {f2 : Int} {W1 : World} {row : Option Nat} (h : IsS47 w0 W g f0 f1 f2) (hw : W.grownBy W1 row) (hne : some g ≠ row) : IsS47 w0 W1 g f0 f1 f2 := by
 obtain ⟨A0, c0, hb, hg, hr0⟩ := h
 exact ⟨A0, c0, blk_grown hb hw hne, hg, hr0⟩
theorem IsS47.own_neN {w0 W : World} {g : Nat} {f0 : List Int} {f1 : Int} {f2 : Int} {α : Type} {d : Kd α} {e : Nat} {base : Nat} {ok : Nat → Prop} {v : Value} {xs : List α} (h : IsS47 w0 W g f0 f1 f2) (ho : Kd.N d e W base ok v xs) (ht : e ≠ 47) : some g ≠ v.ownBlock := by
 obtain ⟨A0, c0, hb, hg, hr0⟩ := h
 exact Kd.N_ne ho hb ht
theorem IsS47.fresh {w0 W : World} {g : Nat} {f0 : List Int} {f1 : Int} {f2 : Int} (h : IsS47 w0 W g f0 f1 f2) : ∀ k, W.heap.size ≤ k → k ≠ g := by
 obtain ⟨A0, c0, hb, hg, hr0⟩ := h
 exact Kd.freshB hb
theorem IsS47.kept {w0 W : World} {g : Nat} {f0 : List Int} {f1 : Int} {f2 : Int} {W1 : World} {S : Nat → Prop} (h : IsS47 w0 W g f0 f1 f2) (hk : Kept W W1 S) (hne : ¬ S g) : IsS47 w0 W1 g f0 f1 f2 := by
 obtain ⟨A0, c0, hb, hg, hr0⟩ := h
 exact ⟨A0, c0, blk_kept hb hk hne, hg, hr0⟩
theorem IsS47.below {w0 W : World} {g : Nat} {f0 : List Int} {f1 : Int} {f2 : Int} {W1 : World} (h : IsS47 w0 W g f0 f1 f2) (hw : Below W.heap.size W W1) : IsS47 w0 W1 g f0 f1 f2 := h.grown (grown_of_below hw none) (by simp)
theorem IsS47.alloc {w0 W : World} {g : Nat} {f0 : List Int} {f1 : Int} {f2 : Int} (h : IsS47 w0 W g f0 f1 f2) (o : Obj) : IsS47 w0 (W.alloc o) g f0 f1 f2 := h.below (below_alloc (Below.refl _ _) o)
theorem IsS47.drewN {w0 W : World} {g : Nat} {f0 : List Int} {f1 : Int} {f2 : Int} (h : IsS47 w0 W g f0 f1 f2) (m : Nat) : IsS47 w0 (W.drewN m) g f0 f1 f2 := h
theorem IsS47.drew {w0 W : World} {g : Nat} {f0 : List Int} {f1 : Int} {f2 : Int} (h : IsS47 w0 W g f0 f1 f2) : IsS47 w0 W.drew g f0 f1 f2 := h
theorem IsS47.at_ {w0 W : World} {g : Nat} {f0 : List Int} {f1 : Int} {f2 : Int} {w' : World} {m : Nat} (hq : W.drewN m = w') (h : IsS47 w0 W g f0 f1 f2) : IsS47 w0 w' g f0 f1 f2 := by subst hq; exact IsS47.drewN h m
theorem IsS47.apart {w0 W : World} {g : Nat} {f0 : List Int} {f1 : Int} {f2 : Int} {α : Type} {d : Kd α} {e : Nat} {base : Nat} {ok : Nat → Prop} {v : Value} {xs : List α} (h : IsS47 w0 W g f0 f1 f2) (ho : d.R e W base ok v xs) (ht : ∀ q, q ∈ e :: d.E → q ≠ 47) : d.R e W base (fun k => ok k ∧ k ≠ g) v xs := by
 obtain ⟨A0, c0, hb, hg, hr0⟩ := h
 exact Kd.R_types ho hb ht
theorem IsS47.own_ne {w0 W : World} {g : Nat} {f0 : List Int} {f1 : Int} {f2 : Int} {α : Type} {d : Kd α} {e : Nat} {base : Nat} {ok : Nat → Prop} {v : Value} {xs : List α} (h : IsS47 w0 W g f0 f1 f2) (ho : d.R e W base ok v xs) (ht : e ≠ 47) : some g ≠ v.ownBlock := by
 obtain ⟨A0, c0, hb, hg, hr0⟩ := h
 exact Kd.R_ne ho hb ht
theorem IsS47.apartQ {w0 W : World} {g : Nat} {f0 : List Int} {f1 : Int} {f2 : Int} {α : Type} {d : Kd α} {e : Nat} {base : Nat} {ok : Nat → Prop} {v : Value} {xs : List α} (h : IsS47 w0 W g f0 f1 f2) (ho : d.Q e W base ok v xs) (ht : ∀ q, q ∈ e :: d.E → q ≠ 47) : d.Q e W base (fun k => ok k ∧ k ≠ g) v xs := by
 obtain ⟨A0, c0, hb, hg, hr0⟩ := h
 exact Kd.Q_types ho hb ht
theorem IsS47.own_neQ {w0 W : World} {g : Nat} {f0 : List Int} {f1 : Int} {f2 : Int} {α : Type} {d : Kd α} {e : Nat} {base : Nat} {ok : Nat → Prop} {v : Value} {xs : List α} (h : IsS47 w0 W g f0 f1 f2) (ho : d.Q e W base ok v xs) (ht : e ≠ 47) : some g ≠ v.ownBlock := by
 obtain ⟨A0, c0, hb, hg, hr0⟩ := h
 exact Kd.Q_ne ho hb ht
theorem IsS47.apartS {w0 W : World} {g : Nat} {f0 : List Int} {f1 : Int} {f2 : Int} {α : Type} {d : Kd α} {e : Nat} {base : Nat} {ok : Nat → Prop} {v : Value} {xs : List α} (h : IsS47 w0 W g f0 f1 f2) (ho : d.S e W base ok v xs) (ht : ∀ q, q ∈ e :: d.E → q ≠ 47) : d.S e W base (fun k => ok k ∧ k ≠ g) v xs := by
 obtain ⟨A0, c0, hb, hg, hr0⟩ := h
 exact Kd.S_types ho hb ht
theorem IsS47.own_neS {w0 W : World} {g : Nat} {f0 : List Int} {f1 : Int} {f2 : Int} {α : Type} {d : Kd α} {e : Nat} {base : Nat} {ok : Nat → Prop} {v : Value} {xs : List α} (h : IsS47 w0 W g f0 f1 f2) (ho : d.S e W base ok v xs) (ht : e ≠ 47) : some g ≠ v.ownBlock := by
 obtain ⟨A0, c0, hb, hg, hr0⟩ := h
 exact Kd.S_ne ho hb ht
theorem IsS47.lt {w0 W : World} {g : Nat} {f0 : List Int} {f1 : Int} {f2 : Int} (h : IsS47 w0 W g f0 f1 f2) : g < W.heap.size := by
 obtain ⟨A0, c0, hb, hg, hr0⟩ := h
 exact blk_lt hb
theorem IsS47.ge {w0 W : World} {g : Nat} {f0 : List Int} {f1 : Int} {f2 : Int} (h : IsS47 w0 W g f0 f1 f2) : w0.heap.size ≤ g := by
 obtain ⟨A0, c0, hb, hg, hr0⟩ := h
 exact hg
theorem IsS47.ne_blk {w0 W : World} {g : Nat} {f0 : List Int} {f1 : Int} {f2 : Int} {a : Nat} {cs : Array Value} {t : TypeId} {fr : Nat × Nat} (h : IsS47 w0 W g f0 f1 f2) (hb2 : W.heap[a]? = some (.cells cs t fr)) (ht : t ≠ 47) : g ≠ a := by
 obtain ⟨A0, c0, hb, hg, hr0⟩ := h
 rintro rfl
 rw [hb] at hb2
 injection hb2 with hb2
 injection hb2 with _ ht2
 exact ht ht2.symm
theorem IsS47.far {w0 W : World} {g : Nat} {f0 : List Int} {f1 : Int} {f2 : Int} {p : Addr} (h : IsS47 w0 W g f0 f1 f2) (hne : g ≠ p.block) (u : Value) : IsS47 w0 (W.setCell p u) g f0 f1 f2 := by
 obtain ⟨A0, c0, hb, hg, hr0⟩ := h
 exact ⟨A0, c0, blk_far hb hne u, hg, hr0⟩
theorem cellS47_0 {W : World} {g : Nat} {A0 : Option Addr} {c0 : Nat} {f0 : List Int} {f1 : Int} {f2 : Int} (h : W.heap[g]? = some (.cells #[.slice A0 f0.length c0, .int .i64 f1, .int .u64 f2] 47 (0, 0))) : W.cell? ⟨g, 0, none⟩ = some (.slice A0 f0.length c0) := (blk_cell h 0).trans rfl
theorem cellS47_1 {W : World} {g : Nat} {A0 : Option Addr} {c0 : Nat} {f0 : List Int} {f1 : Int} {f2 : Int} (h : W.heap[g]? = some (.cells #[.slice A0 f0.length c0, .int .i64 f1, .int .u64 f2] 47 (0, 0))) : W.cell? ⟨g, 1, none⟩ = some (.int .i64 f1) := (blk_cell h 1).trans rfl
theorem IsS47.set_1 {w0 W : World} {g : Nat} {f0 : List Int} {f1 : Int} {f2 : Int} (h : IsS47 w0 W g f0 f1 f2) (x : Int) : IsS47 w0 (W.setCell ⟨g, 1, none⟩ (.int .i64 x)) g f0 x f2 := by
 obtain ⟨A0, c0, hb, hg, hr0⟩ := h
 exact ⟨A0, c0, by simpa using blk_set hb 1 (.int .i64 x), hg, hr0⟩
theorem cellS47_2 {W : World} {g : Nat} {A0 : Option Addr} {c0 : Nat} {f0 : List Int} {f1 : Int} {f2 : Int} (h : W.heap[g]? = some (.cells #[.slice A0 f0.length c0, .int .i64 f1, .int .u64 f2] 47 (0, 0))) : W.cell? ⟨g, 2, none⟩ = some (.int .u64 f2) := (blk_cell h 2).trans rfl
theorem IsS47.set_2 {w0 W : World} {g : Nat} {f0 : List Int} {f1 : Int} {f2 : Int} (h : IsS47 w0 W g f0 f1 f2) (x : Int) : IsS47 w0 (W.setCell ⟨g, 2, none⟩ (.int .u64 x)) g f0 f1 x := by
 obtain ⟨A0, c0, hb, hg, hr0⟩ := h
 exact ⟨A0, c0, by simpa using blk_set hb 2 (.int .u64 x), hg, hr0⟩
theorem IsS47.new (w0 W : World) (A0 : Option Addr) (c0 : Nat) (f0 : List Int) (f1 : Int) (f2 : Int) (hB : Below w0.heap.size w0 W) (hr0 : Kd.C (Kd.int .u8) w0 A0 f0.length f0) : IsS47 w0 (W.alloc (.cells #[.slice A0 f0.length c0, .int .i64 f1, .int .u64 f2] 47)) W.heap.size f0 f1 f2 := ⟨A0, c0, by simpa using heap_alloc_new W _, hB.size, hr0⟩
def spec_l1Cur_next.f (s0_0 : List Int) (s0_1 : Int) (s0_2 : Int) : Option (Int × Int × Int) := if s0_1 < (s0_0.length : Int) then (if 0 ≤ s0_1 then (if (wrap64 (s0_1 + 1)) ≤ (s0_0.length : Int) then (some (wrap64 (rd s0_0 s0_1), wrap64 (s0_1 + 1), IntKind.u64.wrap ((IntKind.u64.wrap ((IntKind.u64.wrap (s0_2 * 6364136223846793005)) + (IntKind.u64.wrap (wrap64 (rd s0_0 s0_1))))) + 1442695040888963407))) else (some (wrap64 (Go.bits .and .u64 ((IntKind.u64.wrap ((IntKind.u64.wrap ((IntKind.u64.wrap (s0_2 * 6364136223846793005)) + (IntKind.u64.wrap (wrap64 (rd s0_0 s0_1))))) + 1442695040888963407)) / 1099511627776) 255), wrap64 (s0_1 + 1), IntKind.u64.wrap ((IntKind.u64.wrap ((IntKind.u64.wrap (s0_2 * 6364136223846793005)) + (IntKind.u64.wrap (wrap64 (rd s0_0 s0_1))))) + 1442695040888963407)))) else (none)) else (if (wrap64 (s0_1 + 1)) ≤ (s0_0.length : Int) then (some (0, wrap64 (s0_1 + 1), IntKind.u64.wrap ((IntKind.u64.wrap ((IntKind.u64.wrap (s0_2 * 6364136223846793005)) + 0)) + 1442695040888963407))) else (some (wrap64 (Go.bits .and .u64 ((IntKind.u64.wrap ((IntKind.u64.wrap ((IntKind.u64.wrap (s0_2 * 6364136223846793005)) + 0)) + 1442695040888963407)) / 1099511627776) 255), wrap64 (s0_1 + 1), IntKind.u64.wrap ((IntKind.u64.wrap ((IntKind.u64.wrap (s0_2 * 6364136223846793005)) + 0)) + 1442695040888963407))))
set_option maxHeartbeats 8000000 in
set_option maxRecDepth 100000 in
theorem spec_l1Cur_next.calls (g : Nat) (s0_0 : List Int) (s0_1 : Int) (s0_2 : Int) (r1 : Int) (r2 : Int) (r3 : Int) (w0 w : World) (hI : IsS47 w0 w g s0_0 s0_1 s0_2) (hB : Below w0.heap.size w0 w) (h : spec_l1Cur_next.f s0_0 s0_1 s0_2 = some (r1, r2, r3)) :
  Calls Try.prog 57 #[.pointer (some ⟨g, 0, none⟩)] w fun e w' => e = .returned (.int .i64 r1) ∧ IsS47 w0 w' g s0_0 r2 r3 ∧ Below w0.heap.size w0 w' ∧ KeepBut w w' g none := by
 have HI0 := Aside0.mk hI
 have HK := Aside0.mk (KeepBut.refl w g none)
 have HL := Aside0.mk hB.size
 clear hI
 have HW0 := Aside0.mk hB.size
 have HB := Aside0.mk hB
 clear hB
 have H : (if s0_1 < (s0_0.length : Int) then (if 0 ≤ s0_1 then (if (wrap64 (s0_1 + 1)) ≤ (s0_0.length : Int) then (some (wrap64 (rd s0_0 s0_1), wrap64 (s0_1 + 1), IntKind.u64.wrap ((IntKind.u64.wrap ((IntKind.u64.wrap (s0_2 * 6364136223846793005)) + (IntKind.u64.wrap (wrap64 (rd s0_0 s0_1))))) + 1442695040888963407))) else (some (wrap64 (Go.bits .and .u64 ((IntKind.u64.wrap ((IntKind.u64.wrap ((IntKind.u64.wrap (s0_2 * 6364136223846793005)) + (IntKind.u64.wrap (wrap64 (rd s0_0 s0_1))))) + 1442695040888963407)) / 1099511627776) 255), wrap64 (s0_1 + 1), IntKind.u64.wrap ((IntKind.u64.wrap ((IntKind.u64.wrap (s0_2 * 6364136223846793005)) + (IntKind.u64.wrap (wrap64 (rd s0_0 s0_1))))) + 1442695040888963407)))) else (none)) else (if (wrap64 (s0_1 + 1)) ≤ (s0_0.length : Int) then (some (0, wrap64 (s0_1 + 1), IntKind.u64.wrap ((IntKind.u64.wrap ((IntKind.u64.wrap (s0_2 * 6364136223846793005)) + 0)) + 1442695040888963407))) else (some (wrap64 (Go.bits .and .u64 ((IntKind.u64.wrap ((IntKind.u64.wrap ((IntKind.u64.wrap (s0_2 * 6364136223846793005)) + 0)) + 1442695040888963407)) / 1099511627776) 255), wrap64 (s0_1 + 1), IntKind.u64.wrap ((IntKind.u64.wrap ((IntKind.u64.wrap (s0_2 * 6364136223846793005)) + 0)) + 1442695040888963407))))) = some (r1, r2, r3) := h
 clear h
 by_cases c2 : s0_1 < (s0_0.length : Int)
 ·rw [if_pos c2] at H
  have c2b0 : decide (s0_1 < (s0_0.length : Int)) = true := decide_eq_true c2
  clear c2
  by_cases c3 : 0 ≤ s0_1
  ·rw [if_pos c3] at H
   have c3b0 : decide (0 ≤ s0_1) = true := decide_eq_true c3
   clear c3
   by_cases c4 : (wrap64 (s0_1 + 1)) ≤ (s0_0.length : Int)
   ·rw [if_pos c4] at H
    have c4b0 : decide ((wrap64 (s0_1 + 1)) ≤ (s0_0.length : Int)) = true := decide_eq_true c4
    clear c4
    simp only [Option.some.injEq, Prod.mk.injEq] at H
    obtain ⟨rfl, rfl, rfl⟩ := H
    obtain ⟨ASz5_0, cSz5_0, HGz5, hgz5, HSz5_0⟩ := HI0.out
    have hcz5_0 := cellS47_0 HGz5
    have hcz5_1 := cellS47_1 HGz5
    have hcz5_2 := cellS47_2 HGz5
    have hfz5_1 := blk_frozen HGz5 1
    have hfz5_2 := blk_frozen HGz5 2
    clear HGz5 hgz5
    have p338 : 0 ≤ (s0_1 : Int) := of_decide_eq_true (by assumption)
    have q338 : s0_1 < (s0_0.length : Int) := of_decide_eq_true (by assumption)
    obtain ⟨ad338, e338, hx338_0⟩ := Kd.at_int HSz5_0 s0_1 p338 q338
    cases e338
    replace hx338_0 := pw_cell_below HB.out hx338_0
    replace p338 := eq_true p338
    replace q338 := eq_true q338
    try simp only [Int.add_zero]
    go_enter Try.func57, Try.ntmps57
    go_wp2
    repeat (go_quiet (fail); try go_wp2)
    go_ret
    exact ⟨by first | rfl | (simp [errW_none, errW_some] <;> rfl) | (simp [*, errW_none, errW_some] <;> rfl), by repeat (first | (with_reducible first | exact HI0.out | apply IsS47.alloc | apply IsS47.drewN | apply IsS47.drew | apply IsS47.set_1 | apply IsS47.set_2) | exact HI0.out), by repeat (first | (with_reducible first | exact HB.out | apply bA | apply bN | apply bD | refine below_set ?_ (IsS47.ge HI0.out)) | exact HB.out), by repeat (first | (with_reducible first | exact HK.out | apply KeepBut.set_ | apply keep_drewN | apply keep_drew | apply keep_alloc) | exact HK.out)⟩
   ·rw [if_neg c4] at H
    have c4b0 : decide ((wrap64 (s0_1 + 1)) ≤ (s0_0.length : Int)) = false := decide_eq_false c4
    clear c4
    simp only [Option.some.injEq, Prod.mk.injEq] at H
    obtain ⟨rfl, rfl, rfl⟩ := H
    obtain ⟨ASz6_0, cSz6_0, HGz6, hgz6, HSz6_0⟩ := HI0.out
    have hcz6_0 := cellS47_0 HGz6
    have hcz6_1 := cellS47_1 HGz6
    have hcz6_2 := cellS47_2 HGz6
    have hfz6_1 := blk_frozen HGz6 1
    have hfz6_2 := blk_frozen HGz6 2
    clear HGz6 hgz6
    have p338 : 0 ≤ (s0_1 : Int) := of_decide_eq_true (by assumption)
    have q338 : s0_1 < (s0_0.length : Int) := of_decide_eq_true (by assumption)
    obtain ⟨ad338, e338, hx338_0⟩ := Kd.at_int HSz6_0 s0_1 p338 q338
    cases e338
    replace hx338_0 := pw_cell_below HB.out hx338_0
    replace p338 := eq_true p338
    replace q338 := eq_true q338
    try simp only [Int.add_zero]
    go_enter Try.func57, Try.ntmps57
    go_wp2
    repeat (go_quiet (fail); try go_wp2)
    go_ret
    exact ⟨by first | rfl | (simp [errW_none, errW_some] <;> rfl) | (simp [*, errW_none, errW_some] <;> rfl), by repeat (first | (with_reducible first | exact HI0.out | apply IsS47.alloc | apply IsS47.drewN | apply IsS47.drew | apply IsS47.set_1 | apply IsS47.set_2) | exact HI0.out), by repeat (first | (with_reducible first | exact HB.out | apply bA | apply bN | apply bD | refine below_set ?_ (IsS47.ge HI0.out)) | exact HB.out), by repeat (first | (with_reducible first | exact HK.out | apply KeepBut.set_ | apply keep_drewN | apply keep_drew | apply keep_alloc) | exact HK.out)⟩
  ·rw [if_neg c3] at H
   exact absurd H (by simp)
 ·rw [if_neg c2] at H
  have c2b0 : decide (s0_1 < (s0_0.length : Int)) = false := decide_eq_false c2
  clear c2
  by_cases c7 : (wrap64 (s0_1 + 1)) ≤ (s0_0.length : Int)
  ·rw [if_pos c7] at H
   have c7b0 : decide ((wrap64 (s0_1 + 1)) ≤ (s0_0.length : Int)) = true := decide_eq_true c7
   clear c7
   simp only [Option.some.injEq, Prod.mk.injEq] at H
   obtain ⟨rfl, rfl, rfl⟩ := H
   obtain ⟨ASz8_0, cSz8_0, HGz8, hgz8, HSz8_0⟩ := HI0.out
   have hcz8_0 := cellS47_0 HGz8
   have hcz8_1 := cellS47_1 HGz8
   have hcz8_2 := cellS47_2 HGz8
   have hfz8_1 := blk_frozen HGz8 1
   have hfz8_2 := blk_frozen HGz8 2
   clear HGz8 hgz8
   try simp only [Int.add_zero]
   go_enter Try.func57, Try.ntmps57
   go_wp2
   repeat (go_quiet (fail); try go_wp2)
   go_ret
   exact ⟨by first | rfl | (simp [errW_none, errW_some] <;> rfl) | (simp [*, errW_none, errW_some] <;> rfl), by repeat (first | (with_reducible first | exact HI0.out | apply IsS47.alloc | apply IsS47.drewN | apply IsS47.drew | apply IsS47.set_1 | apply IsS47.set_2) | exact HI0.out), by repeat (first | (with_reducible first | exact HB.out | apply bA | apply bN | apply bD | refine below_set ?_ (IsS47.ge HI0.out)) | exact HB.out), by repeat (first | (with_reducible first | exact HK.out | apply KeepBut.set_ | apply keep_drewN | apply keep_drew | apply keep_alloc) | exact HK.out)⟩
  ·rw [if_neg c7] at H
   have c7b0 : decide ((wrap64 (s0_1 + 1)) ≤ (s0_0.length : Int)) = false := decide_eq_false c7
   clear c7
   simp only [Option.some.injEq, Prod.mk.injEq] at H
   obtain ⟨rfl, rfl, rfl⟩ := H
   obtain ⟨ASz9_0, cSz9_0, HGz9, hgz9, HSz9_0⟩ := HI0.out
   have hcz9_0 := cellS47_0 HGz9
   have hcz9_1 := cellS47_1 HGz9
   have hcz9_2 := cellS47_2 HGz9
   have hfz9_1 := blk_frozen HGz9 1
   have hfz9_2 := blk_frozen HGz9 2
   clear HGz9 hgz9
   try simp only [Int.add_zero]
   go_enter Try.func57, Try.ntmps57
   go_wp2
   repeat (go_quiet (fail); try go_wp2)
   go_ret
   exact ⟨by first | rfl | (simp [errW_none, errW_some] <;> rfl) | (simp [*, errW_none, errW_some] <;> rfl), by repeat (first | (with_reducible first | exact HI0.out | apply IsS47.alloc | apply IsS47.drewN | apply IsS47.drew | apply IsS47.set_1 | apply IsS47.set_2) | exact HI0.out), by repeat (first | (with_reducible first | exact HB.out | apply bA | apply bN | apply bD | refine below_set ?_ (IsS47.ge HI0.out)) | exact HB.out), by repeat (first | (with_reducible first | exact HK.out | apply KeepBut.set_ | apply keep_drewN | apply keep_drew | apply keep_alloc) | exact HK.out)⟩
def spec_l1Cur_pick.f (s0_0 : List Int) (s0_1 : Int) (s0_2 : Int) (a1 : Int) : Option (Int × Int × Int) := if a1 ≤ 1 then (some (0, s0_1, s0_2)) else ((spec_l1Cur_next.f s0_0 s0_1 s0_2).bind fun bt339 => (if a1 > 200 then ((spec_l1Cur_next.f s0_0 bt339.2.1 bt339.2.2).bind fun bt342 => (if a1 = 0 then (none) else (some (Int.tmod (wrap64 ((wrap64 (bt339.1 * 256)) + bt342.1)) a1, bt342.2.1, bt342.2.2)))) else (if a1 = 0 then (none) else (some (Int.tmod bt339.1 a1, bt339.2.1, bt339.2.2)))))
set_option maxHeartbeats 8000000 in
set_option maxRecDepth 100000 in
theorem spec_l1Cur_pick.calls (g : Nat) (s0_0 : List Int) (s0_1 : Int) (s0_2 : Int) (a1 : Int) (r1 : Int) (r2 : Int) (r3 : Int) (w0 w : World) (hI : IsS47 w0 w g s0_0 s0_1 s0_2) (hB : Below w0.heap.size w0 w) (h : spec_l1Cur_pick.f s0_0 s0_1 s0_2 a1 = some (r1, r2, r3)) :
  Calls Try.prog 30 #[.pointer (some ⟨g, 0, none⟩), .int .i64 a1] w fun e w' => e = .returned (.int .i64 r1) ∧ IsS47 w0 w' g s0_0 r2 r3 ∧ Below w0.heap.size w0 w' ∧ KeepBut w w' g none := by
 have HI0 := Aside0.mk hI
 have HK := Aside0.mk (KeepBut.refl w g none)
 have HL := Aside0.mk hB.size
 clear hI
 have HW0 := Aside0.mk hB.size
 have HB := Aside0.mk hB
 clear hB
 have H : (if a1 ≤ 1 then (some (0, s0_1, s0_2)) else ((spec_l1Cur_next.f s0_0 s0_1 s0_2).bind fun bt339 => (if a1 > 200 then ((spec_l1Cur_next.f s0_0 bt339.2.1 bt339.2.2).bind fun bt342 => (if a1 = 0 then (none) else (some (Int.tmod (wrap64 ((wrap64 (bt339.1 * 256)) + bt342.1)) a1, bt342.2.1, bt342.2.2)))) else (if a1 = 0 then (none) else (some (Int.tmod bt339.1 a1, bt339.2.1, bt339.2.2)))))) = some (r1, r2, r3) := h
 clear h
 by_cases c3 : a1 ≤ 1
 ·rw [if_pos c3] at H
  have c3b0 : decide (a1 ≤ 1) = true := decide_eq_true c3
  clear c3
  simp only [Option.some.injEq, Prod.mk.injEq] at H
  obtain ⟨rfl, rfl, rfl⟩ := H
  go_enter Try.func30, Try.ntmps30
  go_wp2
  go_ret
  exact ⟨by first | rfl | (simp [errW_none, errW_some] <;> rfl) | (simp [*, errW_none, errW_some] <;> rfl), by repeat (first | (with_reducible first | exact HI0.out | apply IsS47.alloc | apply IsS47.drewN | apply IsS47.drew | apply IsS47.set_1 | apply IsS47.set_2) | exact HI0.out), by repeat (first | (with_reducible first | exact HB.out | apply bA | apply bN | apply bD | refine below_set ?_ (IsS47.ge HI0.out)) | exact HB.out), by repeat (first | (with_reducible first | exact HK.out | apply KeepBut.set_ | apply keep_drewN | apply keep_drew | apply keep_alloc) | exact HK.out)⟩
 ·rw [if_neg c3] at H
  have c3b0 : decide (a1 ≤ 1) = false := decide_eq_false c3
  clear c3
  replace H := bI H
  obtain ⟨⟨t339, t340, t341⟩, A40, H⟩ := H
  replace H : (if a1 > 200 then ((spec_l1Cur_next.f s0_0 t340 t341).bind fun bt342 => (if a1 = 0 then (none) else (some (Int.tmod (wrap64 ((wrap64 (t339 * 256)) + bt342.1)) a1, bt342.2.1, bt342.2.2)))) else (if a1 = 0 then (none) else (some (Int.tmod t339 a1, t340, t341)))) = some (r1, r2, r3) := H
  have A4 := Aside0.mk A40
  clear A40
  by_cases c5 : a1 > 200
  ·rw [if_pos c5] at H
   have c5b0 : decide (200 < a1) = true := decide_eq_true c5
   clear c5
   replace H := bI H
   obtain ⟨⟨t342, t343, t344⟩, A60, H⟩ := H
   replace H : (if a1 = 0 then (none) else (some (Int.tmod (wrap64 ((wrap64 (t339 * 256)) + t342)) a1, t343, t344))) = some (r1, r2, r3) := H
   have A6 := Aside0.mk A60
   clear A60
   by_cases c7 : a1 = 0
   ·rw [if_pos c7] at H
    exact absurd H (by simp)
   ·rw [if_neg c7] at H
    have c7b0 : (a1 == 0) = false := beq_eq_false_iff_ne.mpr c7
    have c7b1 : (a1 != 0) = true := bne_iff_ne.mpr c7
    simp only [Option.some.injEq, Prod.mk.injEq] at H
    obtain ⟨rfl, rfl, rfl⟩ := H
    go_enter Try.func30, Try.ntmps30
    go_wp2_with (first | ((with_reducible refine gate_callee (f := 57) rfl ?_); refine goesL_ (some 9) rfl rfl Try.func57 (by kernel_rfl) rfl #[.pointer (some ⟨g, 0, none⟩)] rfl ar_ ?_; (with_reducible refine (spec_l1Cur_next.calls g s0_0 s0_1 s0_2 t339 t340 t341 w0 _ ?side1 ?side2 A4.out).mono ?_); (case side1 => repeat (first | (with_reducible first | exact HI0.out | apply IsS47.alloc | apply IsS47.drewN | apply IsS47.drew | apply IsS47.set_1 | apply IsS47.set_2) | exact HI0.out)); (case side2 => repeat (first | (with_reducible first | exact HB.out | apply bA | apply bN | apply bD | refine below_set ?_ (IsS47.ge HI0.out)) | exact HB.out)); rintro e w8 ⟨rfl, hi, hb, hk⟩; refine ⟨_, rfl, ?_⟩; have n0_ := Aside0.mk (KeepBut.trans (by repeat (first | (with_reducible first | exact HK.out | apply KeepBut.set_ | apply keep_drewN | apply keep_drew | apply keep_alloc) | exact HK.out)) hk (.inl rfl)); have n1_ := Aside0.mk (hb); have n2_ := Aside0.mk (hi); clear HK; clear HB; clear HI0; have HK := n0_; have HB := n1_; have HI0 := n2_; clear n0_ n1_ n2_; (try clear hb); (try clear hb2); (try clear hk); (try clear hi)) | ((with_reducible refine gate_callee (f := 57) rfl ?_); refine goesL_ (some 15) rfl rfl Try.func57 (by kernel_rfl) rfl #[.pointer (some ⟨g, 0, none⟩)] rfl ar_ ?_; (with_reducible refine (spec_l1Cur_next.calls g s0_0 t340 t341 t342 t343 t344 w0 _ ?side1 ?side2 A6.out).mono ?_); (case side1 => repeat (first | (with_reducible first | exact HI0.out | apply IsS47.alloc | apply IsS47.drewN | apply IsS47.drew | apply IsS47.set_1 | apply IsS47.set_2) | exact HI0.out)); (case side2 => repeat (first | (with_reducible first | exact HB.out | apply bA | apply bN | apply bD | refine below_set ?_ (IsS47.ge HI0.out)) | exact HB.out)); rintro e w9 ⟨rfl, hi, hb, hk⟩; refine ⟨_, rfl, ?_⟩; have n0_ := Aside0.mk (KeepBut.trans (by repeat (first | (with_reducible first | exact HK.out | apply KeepBut.set_ | apply keep_drewN | apply keep_drew | apply keep_alloc) | exact HK.out)) hk (.inl rfl)); have n1_ := Aside0.mk (hb); have n2_ := Aside0.mk (hi); clear HK; clear HB; clear HI0; have HK := n0_; have HB := n1_; have HI0 := n2_; clear n0_ n1_ n2_; (try clear hb); (try clear hb2); (try clear hk); (try clear hi)))
    go_ret
    exact ⟨by first | rfl | (simp [errW_none, errW_some] <;> rfl) | (simp [*, errW_none, errW_some] <;> rfl), by repeat (first | (with_reducible first | exact HI0.out | apply IsS47.alloc | apply IsS47.drewN | apply IsS47.drew | apply IsS47.set_1 | apply IsS47.set_2) | exact HI0.out), by repeat (first | (with_reducible first | exact HB.out | apply bA | apply bN | apply bD | refine below_set ?_ (IsS47.ge HI0.out)) | exact HB.out), by repeat (first | (with_reducible first | exact HK.out | apply KeepBut.set_ | apply keep_drewN | apply keep_drew | apply keep_alloc) | exact HK.out)⟩
  ·rw [if_neg c5] at H
   have c5b0 : decide (200 < a1) = false := decide_eq_false c5
   clear c5
   by_cases c10 : a1 = 0
   ·rw [if_pos c10] at H
    exact absurd H (by simp)
   ·rw [if_neg c10] at H
    have c10b0 : (a1 == 0) = false := beq_eq_false_iff_ne.mpr c10
    have c10b1 : (a1 != 0) = true := bne_iff_ne.mpr c10
    simp only [Option.some.injEq, Prod.mk.injEq] at H
    obtain ⟨rfl, rfl, rfl⟩ := H
    go_enter Try.func30, Try.ntmps30
    go_wp2_with (first | ((with_reducible refine gate_callee (f := 57) rfl ?_); refine goesL_ (some 9) rfl rfl Try.func57 (by kernel_rfl) rfl #[.pointer (some ⟨g, 0, none⟩)] rfl ar_ ?_; (with_reducible refine (spec_l1Cur_next.calls g s0_0 s0_1 s0_2 t339 t340 t341 w0 _ ?side1 ?side2 A4.out).mono ?_); (case side1 => repeat (first | (with_reducible first | exact HI0.out | apply IsS47.alloc | apply IsS47.drewN | apply IsS47.drew | apply IsS47.set_1 | apply IsS47.set_2) | exact HI0.out)); (case side2 => repeat (first | (with_reducible first | exact HB.out | apply bA | apply bN | apply bD | refine below_set ?_ (IsS47.ge HI0.out)) | exact HB.out)); rintro e w11 ⟨rfl, hi, hb, hk⟩; refine ⟨_, rfl, ?_⟩; have n0_ := Aside0.mk (KeepBut.trans (by repeat (first | (with_reducible first | exact HK.out | apply KeepBut.set_ | apply keep_drewN | apply keep_drew | apply keep_alloc) | exact HK.out)) hk (.inl rfl)); have n1_ := Aside0.mk (hb); have n2_ := Aside0.mk (hi); clear HK; clear HB; clear HI0; have HK := n0_; have HB := n1_; have HI0 := n2_; clear n0_ n1_ n2_; (try clear hb); (try clear hb2); (try clear hk); (try clear hi)))
    go_ret
    exact ⟨by first | rfl | (simp [errW_none, errW_some] <;> rfl) | (simp [*, errW_none, errW_some] <;> rfl), by repeat (first | (with_reducible first | exact HI0.out | apply IsS47.alloc | apply IsS47.drewN | apply IsS47.drew | apply IsS47.set_1 | apply IsS47.set_2) | exact HI0.out), by repeat (first | (with_reducible first | exact HB.out | apply bA | apply bN | apply bD | refine below_set ?_ (IsS47.ge HI0.out)) | exact HB.out), by repeat (first | (with_reducible first | exact HK.out | apply KeepBut.set_ | apply keep_drewN | apply keep_drew | apply keep_alloc) | exact HK.out)⟩
def spec_l1Cur_sureChords.l0 : Nat → Int → List (S60) → Int → List Int → Int → Int → Option (Int × (List (S60)) × Int × Int)
 | 0, _, _, _, _, _, _ => none
 | k + 1, x6, x7, x8, x1000, x1001, x1002 => if x8 > 0 then ((spec_l1Cur_pick.f x1000 x1001 x1002 x6).bind fun bt351 => ((spec_l1Cur_pick.f x1000 bt351.2.1 bt351.2.2 (wrap64 (x6 - 1))).bind fun bt354 => (if x6 = 0 then (none) else ((spec_srChord.f bt351.1 (Int.tmod (wrap64 ((wrap64 (bt351.1 + 1)) + bt354.1)) x6)).bind fun bt357 => ((spec_srPut.f k x7 bt357.1 bt357.2).bind fun t359 => (spec_l1Cur_sureChords.l0 k x6 t359 (wrap64 (x8 - 1)) x1000 bt354.2.1 bt354.2.2)))))) else (some (x6, x7, x1001, x1002))
def spec_l1Cur_sureChords.f (k : Nat) (s0_0 : List Int) (s0_1 : Int) (s0_2 : Int) (a1 : Int) : Option (Int × (List (S60)) × Int × Int) := (spec_l1Cur_pick.f s0_0 s0_1 s0_2 10).bind fun bt345 => ((spec_l1Cur_pick.f s0_0 bt345.2.1 bt345.2.2 (wrap64 (a1 + 1))).bind fun bt348 => (spec_l1Cur_sureChords.l0 k (wrap64 (3 + bt345.1)) ([] : List (S60)) bt348.1 s0_0 bt348.2.1 bt348.2.2))
theorem spec_l1Cur_sureChords.mono_l : ∀ k, (∀ y0 y1 y2 y3 y4 y5, LeO (spec_l1Cur_sureChords.l0 k y0 y1 y2 y3 y4 y5) (spec_l1Cur_sureChords.l0 (k + 1) y0 y1 y2 y3 y4 y5))
 | 0 => fun _ _ _ _ _ _ r h => by simp [spec_l1Cur_sureChords.l0] at h
 | k + 1 => by
  have ih0 := spec_l1Cur_sureChords.mono_l k
  ·intro y0 y1 y2 y3 y4 y5
   unfold spec_l1Cur_sureChords.l0
   repeat' first
   | (with_reducible exact ih0 _ _ _ _ _ _)
   | (with_reducible exact spec_srPut.mono _ _ _ _)
   | (with_reducible exact LeO.refl _)
   | (with_reducible exact LeO.none _)
   | (with_reducible refine LeO.ite ?_ ?_)
   | (with_reducible refine LeO.bind ?_ (fun _ => ?_))
   | exact ih0 _ _ _ _ _ _
   | exact spec_srPut.mono _ _ _ _
   | exact LeO.none _
   | refine LeO.ite ?_ ?_
   | refine LeO.bind ?_ (fun _ => ?_)
theorem spec_l1Cur_sureChords.mono : ∀ a0 a1 a2 a3 k, LeO (spec_l1Cur_sureChords.f k a0 a1 a2 a3) (spec_l1Cur_sureChords.f (k + 1) a0 a1 a2 a3) := by
 intro a0 a1 a2 a3 k
 have ih0 := spec_l1Cur_sureChords.mono_l k
 unfold spec_l1Cur_sureChords.f
 repeat' first
   | (with_reducible exact ih0 _ _ _ _ _ _)
   | (with_reducible exact spec_srPut.mono _ _ _ _)
   | (with_reducible exact LeO.refl _)
   | (with_reducible exact LeO.none _)
   | (with_reducible refine LeO.ite ?_ ?_)
   | (with_reducible refine LeO.bind ?_ (fun _ => ?_))
   | exact ih0 _ _ _ _ _ _
   | exact spec_srPut.mono _ _ _ _
   | exact LeO.none _
   | refine LeO.ite ?_ ?_
   | refine LeO.bind ?_ (fun _ => ?_)
set_option maxHeartbeats 8000000 in
set_option maxRecDepth 100000 in
theorem spec_l1Cur_sureChords.calls (k : Nat) (g : Nat) (s0_0 : List Int) (s0_1 : Int) (s0_2 : Int) (a1 : Int) (r1 : Int) (r2 : List (S60)) (r3 : Int) (r4 : Int) (w0 w : World) (hI : IsS47 w0 w g s0_0 s0_1 s0_2) (hB : Below w0.heap.size w0 w) (h : spec_l1Cur_sureChords.f k s0_0 s0_1 s0_2 a1 = some (r1, r2, r3, r4)) :
  Calls Try.prog 50 #[.pointer (some ⟨g, 0, none⟩), .int .i64 a1] w fun e w' => ∃ v1_ : Value, e = .returned (.tuple #[.int .i64 r1, v1_]) ∧ Kd.R k60 60 w' w.heap.size (fun _ => True) v1_ r2 ∧ IsS47 w0 w' g s0_0 r3 r4 ∧ Below w0.heap.size w0 w' ∧ KeepBut w w' g none := by
 have HI0 := Aside0.mk hI
 have HK := Aside0.mk (KeepBut.refl w g none)
 have HL := Aside0.mk hB.size
 clear hI
 have HW0 := Aside0.mk hB.size
 have HB := Aside0.mk hB
 clear hB
 have H : ((spec_l1Cur_pick.f s0_0 s0_1 s0_2 10).bind fun bt345 => ((spec_l1Cur_pick.f s0_0 bt345.2.1 bt345.2.2 (wrap64 (a1 + 1))).bind fun bt348 => (spec_l1Cur_sureChords.l0 k (wrap64 (3 + bt345.1)) ([] : List (S60)) bt348.1 s0_0 bt348.2.1 bt348.2.2))) = some (r1, r2, r3, r4) := h
 clear h
 replace H := bI H
 obtain ⟨⟨t345, t346, t347⟩, A30, H⟩ := H
 replace H : ((spec_l1Cur_pick.f s0_0 t346 t347 (wrap64 (a1 + 1))).bind fun bt348 => (spec_l1Cur_sureChords.l0 k (wrap64 (3 + t345)) ([] : List (S60)) bt348.1 s0_0 bt348.2.1 bt348.2.2)) = some (r1, r2, r3, r4) := H
 have A3 := Aside0.mk A30
 clear A30
 replace H := bI H
 obtain ⟨⟨t348, t349, t350⟩, A40, H⟩ := H
 replace H : (spec_l1Cur_sureChords.l0 k (wrap64 (3 + t345)) ([] : List (S60)) t348 s0_0 t349 t350) = some (r1, r2, r3, r4) := H
 have A4 := Aside0.mk A40
 clear A40
 have H' := Aside0.mk H
 clear H
 go_enter Try.func50, Try.ntmps50
 go_wp2_with (first | ((with_reducible refine gate_callee (f := 30) rfl ?_); refine goesL_ (some 11) rfl rfl Try.func30 (by kernel_rfl) rfl #[.pointer (some ⟨g, 0, none⟩), .int .i64 10] rfl ar_ ?_; (with_reducible refine (spec_l1Cur_pick.calls g s0_0 s0_1 s0_2 10 t345 t346 t347 w0 _ ?side1 ?side2 A3.out).mono ?_); (case side1 => repeat (first | (with_reducible first | exact HI0.out | apply IsS47.alloc | apply IsS47.drewN | apply IsS47.drew | apply IsS47.set_1 | apply IsS47.set_2) | exact HI0.out)); (case side2 => repeat (first | (with_reducible first | exact HB.out | apply bA | apply bN | apply bD | refine below_set ?_ (IsS47.ge HI0.out)) | exact HB.out)); rintro e w5 ⟨rfl, hi, hb, hk⟩; refine ⟨_, rfl, ?_⟩; have n0_ := Aside0.mk (KeepBut.trans (by repeat (first | (with_reducible first | exact HK.out | apply KeepBut.set_ | apply keep_drewN | apply keep_drew | apply keep_alloc) | exact HK.out)) hk (.inl rfl)); have n1_ := Aside0.mk (hb); have n2_ := Aside0.mk (hi); clear HK; clear HB; clear HI0; have HK := n0_; have HB := n1_; have HI0 := n2_; clear n0_ n1_ n2_; (try clear hb); (try clear hb2); (try clear hk); (try clear hi)) | ((with_reducible refine gate_callee (f := 30) rfl ?_); refine goesL_ (some 16) rfl rfl Try.func30 (by kernel_rfl) rfl #[.pointer (some ⟨g, 0, none⟩), .int .i64 (wrap64 (a1 + 1))] rfl ar_ ?_; (with_reducible refine (spec_l1Cur_pick.calls g s0_0 t346 t347 (wrap64 (a1 + 1)) t348 t349 t350 w0 _ ?side1 ?side2 A4.out).mono ?_); (case side1 => repeat (first | (with_reducible first | exact HI0.out | apply IsS47.alloc | apply IsS47.drewN | apply IsS47.drew | apply IsS47.set_1 | apply IsS47.set_2) | exact HI0.out)); (case side2 => repeat (first | (with_reducible first | exact HB.out | apply bA | apply bN | apply bD | refine below_set ?_ (IsS47.ge HI0.out)) | exact HB.out)); rintro e w6 ⟨rfl, hi, hb, hk⟩; refine ⟨_, rfl, ?_⟩; have n0_ := Aside0.mk (KeepBut.trans (by repeat (first | (with_reducible first | exact HK.out | apply KeepBut.set_ | apply keep_drewN | apply keep_drew | apply keep_alloc) | exact HK.out)) hk (.inl rfl)); have n1_ := Aside0.mk (hb); have n2_ := Aside0.mk (hi); clear HK; clear HB; clear HI0; have HK := n0_; have HB := n1_; have HI0 := n2_; clear n0_ n1_ n2_; (try clear hb); (try clear hb2); (try clear hk); (try clear hi)))
 go_loopg [7, 8] k (fun kq v7 v8 w' => ∃ (x7_1 : List (S60)) (x8_1 : Int) (x1001_1 : Int) (x1002_1 : Int), v8 = .int .i64 x8_1 ∧ Aside0 (spec_l1Cur_sureChords.l0 kq (wrap64 (3 + t345)) x7_1 x8_1 s0_0 x1001_1 x1002_1 = some (r1, r2, r3, r4)) ∧ Aside0 (kq ≤ k) ∧ Aside0 (Kd.R k60 60 w' w.heap.size (fun _ => True) v7 x7_1) ∧ Aside0 (IsS47 w0 w' g s0_0 x1001_1 x1002_1) ∧ Aside0 (KeepBut w w' g none) ∧ Aside0 (Below w0.heap.size w0 w'))
 case atStart => exact ⟨(([] : List (S60))), (t348), (t349), (t350), (by first | rfl | (simp; done) | (simp [*]; done)), H', ⟨Nat.le_refl _⟩, ⟨by first | exact Kd.R_nil _ _ _ _ _ | exact Kd.N_nil _ _ _ _ _ | exact Kd.V_nil _ _ _ _ _ | exact Kd.Q_nil _ _ _ _ _ | exact Kd.S_nil _ _ _ _ _⟩, ⟨by repeat (first | (with_reducible first | exact HI0.out | apply IsS47.alloc | apply IsS47.drewN | apply IsS47.drew | apply IsS47.set_1 | apply IsS47.set_2) | exact HI0.out)⟩, ⟨by repeat (first | (with_reducible first | exact HK.out | apply KeepBut.set_ | apply keep_drewN | apply keep_drew | apply keep_alloc) | exact HK.out)⟩, ⟨by repeat (first | (with_reducible first | exact HB.out | apply bA | apply bN | apply bD | refine below_set ?_ (IsS47.ge HI0.out)) | exact HB.out)⟩⟩
 case round =>
  clear H'
  try clear p2
  try clear c3
  try clear c5
  try clear p6
  obtain ⟨x7_1, x8_1, x1001_1, x1002_1, rfl, HA, HK1, HO_7, HI0, HK, HB⟩ := hrel
  cases gk with
  | zero => exact absurd HA.out (by simp [spec_l1Cur_sureChords.l0])
  | succ k1 =>
   have H := HA.out
   clear HA
   simp only [spec_l1Cur_sureChords.l0] at H
   by_cases c7 : x8_1 > 0
   ·rw [if_pos c7] at H
    have c7b0 : decide (0 < x8_1) = true := decide_eq_true c7
    clear c7
    replace H := bI H
    obtain ⟨⟨t351, t352, t353⟩, A80, H⟩ := H
    replace H : ((spec_l1Cur_pick.f s0_0 t352 t353 (wrap64 ((wrap64 (3 + t345)) - 1))).bind fun bt354 => (if (wrap64 (3 + t345)) = 0 then (none) else ((spec_srChord.f t351 (Int.tmod (wrap64 ((wrap64 (t351 + 1)) + bt354.1)) (wrap64 (3 + t345)))).bind fun bt357 => ((spec_srPut.f k1 x7_1 bt357.1 bt357.2).bind fun t359 => (spec_l1Cur_sureChords.l0 k1 (wrap64 (3 + t345)) t359 (wrap64 (x8_1 - 1)) s0_0 bt354.2.1 bt354.2.2))))) = some (r1, r2, r3, r4) := H
    have A8 := Aside0.mk A80
    clear A80
    replace H := bI H
    obtain ⟨⟨t354, t355, t356⟩, A90, H⟩ := H
    replace H : (if (wrap64 (3 + t345)) = 0 then (none) else ((spec_srChord.f t351 (Int.tmod (wrap64 ((wrap64 (t351 + 1)) + t354)) (wrap64 (3 + t345)))).bind fun bt357 => ((spec_srPut.f k1 x7_1 bt357.1 bt357.2).bind fun t359 => (spec_l1Cur_sureChords.l0 k1 (wrap64 (3 + t345)) t359 (wrap64 (x8_1 - 1)) s0_0 t355 t356)))) = some (r1, r2, r3, r4) := H
    have A9 := Aside0.mk A90
    clear A90
    by_cases c10 : (wrap64 (3 + t345)) = 0
    ·rw [if_pos c10] at H
     exact absurd H (by simp)
    ·rw [if_neg c10] at H
     have c10b0 : ((wrap64 (3 + t345)) == 0) = false := beq_eq_false_iff_ne.mpr c10
     have c10b1 : ((wrap64 (3 + t345)) != 0) = true := bne_iff_ne.mpr c10
     replace H := bI H
     obtain ⟨⟨t357, t358⟩, A110, H⟩ := H
     replace H : ((spec_srPut.f k1 x7_1 t357 t358).bind fun t359 => (spec_l1Cur_sureChords.l0 k1 (wrap64 (3 + t345)) t359 (wrap64 (x8_1 - 1)) s0_0 t355 t356)) = some (r1, r2, r3, r4) := H
     have A11 := Aside0.mk A110
     clear A110
     replace H := bI H
     obtain ⟨t359, A120, H⟩ := H
     replace H : (spec_l1Cur_sureChords.l0 k1 (wrap64 (3 + t345)) t359 (wrap64 (x8_1 - 1)) s0_0 t355 t356) = some (r1, r2, r3, r4) := H
     have A12 := Aside0.mk A120
     clear A120
     have H' := Aside0.mk H
     clear H
     go_wp2_with (first | ((with_reducible refine gate_callee (f := 30) rfl ?_); refine goesL_ (some 23) rfl rfl Try.func30 (by kernel_rfl) rfl #[.pointer (some ⟨g, 0, none⟩), .int .i64 (wrap64 (3 + t345))] rfl ar_ ?_; (with_reducible refine (spec_l1Cur_pick.calls g s0_0 x1001_1 x1002_1 (wrap64 (3 + t345)) t351 t352 t353 w0 _ ?side1 ?side2 A8.out).mono ?_); (case side1 => repeat (first | (with_reducible first | exact HI0.out | apply IsS47.alloc | apply IsS47.drewN | apply IsS47.drew | apply IsS47.set_1 | apply IsS47.set_2) | exact HI0.out)); (case side2 => repeat (first | (with_reducible first | exact HB.out | apply bA | apply bN | apply bD | refine below_set ?_ (IsS47.ge HI0.out)) | exact HB.out)); rintro e w13 ⟨rfl, hi, hb, hk⟩; refine ⟨_, rfl, ?_⟩; have n0_ := Aside0.mk (Kd.R_mono (Kd.R_keep (IsS47.apart (show IsS47 w0 _ g s0_0 x1001_1 x1002_1 from by repeat (first | (with_reducible first | exact HI0.out | apply IsS47.alloc | apply IsS47.drewN | apply IsS47.drew | apply IsS47.set_1 | apply IsS47.set_2) | exact HI0.out)) (ra_ HO_7.out) (by decide)) hk (fun _ h => h.2)) (fun _ h => h.1)); have n1_ := Aside0.mk (KeepBut.trans (by repeat (first | (with_reducible first | exact HK.out | apply KeepBut.set_ | apply keep_drewN | apply keep_drew | apply keep_alloc) | exact HK.out)) hk (.inl rfl)); have n2_ := Aside0.mk (hb); have n3_ := Aside0.mk (hi); clear HO_7; clear HK; clear HB; clear HI0; have HO_7 := n0_; have HK := n1_; have HB := n2_; have HI0 := n3_; clear n0_ n1_ n2_ n3_; (try clear hb); (try clear hb2); (try clear hk); (try clear hi)) | ((with_reducible refine gate_callee (f := 30) rfl ?_); refine goesL_ (some 31) rfl rfl Try.func30 (by kernel_rfl) rfl #[.pointer (some ⟨g, 0, none⟩), .int .i64 (wrap64 ((wrap64 (3 + t345)) - 1))] rfl ar_ ?_; (with_reducible refine (spec_l1Cur_pick.calls g s0_0 t352 t353 (wrap64 ((wrap64 (3 + t345)) - 1)) t354 t355 t356 w0 _ ?side1 ?side2 A9.out).mono ?_); (case side1 => repeat (first | (with_reducible first | exact HI0.out | apply IsS47.alloc | apply IsS47.drewN | apply IsS47.drew | apply IsS47.set_1 | apply IsS47.set_2) | exact HI0.out)); (case side2 => repeat (first | (with_reducible first | exact HB.out | apply bA | apply bN | apply bD | refine below_set ?_ (IsS47.ge HI0.out)) | exact HB.out)); rintro e w14 ⟨rfl, hi, hb, hk⟩; refine ⟨_, rfl, ?_⟩; have n0_ := Aside0.mk (Kd.R_mono (Kd.R_keep (IsS47.apart (show IsS47 w0 _ g s0_0 t352 t353 from by repeat (first | (with_reducible first | exact HI0.out | apply IsS47.alloc | apply IsS47.drewN | apply IsS47.drew | apply IsS47.set_1 | apply IsS47.set_2) | exact HI0.out)) (ra_ HO_7.out) (by decide)) hk (fun _ h => h.2)) (fun _ h => h.1)); have n1_ := Aside0.mk (KeepBut.trans (by repeat (first | (with_reducible first | exact HK.out | apply KeepBut.set_ | apply keep_drewN | apply keep_drew | apply keep_alloc) | exact HK.out)) hk (.inl rfl)); have n2_ := Aside0.mk (hb); have n3_ := Aside0.mk (hi); clear HO_7; clear HK; clear HB; clear HI0; have HO_7 := n0_; have HK := n1_; have HB := n2_; have HI0 := n3_; clear n0_ n1_ n2_ n3_; (try clear hb); (try clear hb2); (try clear hk); (try clear hi)) | ((with_reducible refine gate_callee (f := 53) rfl ?_); refine goesL_ (some 35) rfl rfl Try.func53 (by kernel_rfl) rfl #[.int .i64 t351, .int .i64 (Int.tmod (wrap64 ((wrap64 (t351 + 1)) + t354)) (wrap64 (3 + t345)))] rfl ar_ ?_; (with_reducible refine (spec_srChord.calls t351 (Int.tmod (wrap64 ((wrap64 (t351 + 1)) + t354)) (wrap64 (3 + t345))) t357 t358 _ A11.out).mono ?_); rintro e w15 ⟨rfl, hb⟩; refine ⟨_, rfl, ?_⟩; have n0_ := Aside0.mk (Kd.R_below (ra_ HO_7.out) hb); have n1_ := Aside0.mk (IsS47.below (by repeat (first | (with_reducible first | exact HI0.out | apply IsS47.alloc | apply IsS47.drewN | apply IsS47.drew | apply IsS47.set_1 | apply IsS47.set_2) | exact HI0.out)) hb); have n2_ := Aside0.mk (KeepBut.trans (by repeat (first | (with_reducible first | exact HK.out | apply KeepBut.set_ | apply keep_drewN | apply keep_drew | apply keep_alloc) | exact HK.out)) (KeepBut.of_below hb g none) (.inl rfl)); have n3_ := Aside0.mk (below_step (by repeat (first | (with_reducible first | exact HB.out | apply bA | apply bN | apply bD | refine below_set ?_ (IsS47.ge HI0.out)) | exact HB.out)) hb); clear HO_7; clear HI0; clear HK; clear HB; have HO_7 := n0_; have HI0 := n1_; have HK := n2_; have HB := n3_; clear n0_ n1_ n2_ n3_; (try clear hb); (try clear hb2); (try clear hk); (try clear hi); obtain ⟨Ao16, co16, eo16⟩ := Kd.R_slice HO_7.out; subst eo16) | ((with_reducible refine gate_callee (f := 52) rfl ?_); refine goesL_ (some 36) rfl rfl Try.func52 (by kernel_rfl) rfl #[.slice Ao16 x7_1.length co16, .agg #[.int .i64 t357, .int .i64 t358]] rfl ar_ ?_; (with_reducible refine (spec_srPut.calls k1 (fun k_ => some k_ = (.slice Ao16 x7_1.length co16 : Value).ownBlock) (.slice Ao16 x7_1.length co16) x7_1 t357 t358 t359 w0 _ ?side1 ?side2 A12.out).mono ?_); (case side1 => repeat (first | (with_reducible first | exact HB.out | apply bA | apply bN | apply bD | refine below_set ?_ (IsS47.ge HI0.out)) | exact HB.out)); (case side2 => exact Kd.R_lower (Kd.R_tight rfl HO_7.out) HL.out); rintro e w17 ⟨v360, rfl, ho0, hb, hkp⟩; refine ⟨_, rfl, ?_⟩; have n0_ := Aside0.mk (IsS47.kept (by repeat (first | (with_reducible first | exact HI0.out | apply IsS47.alloc | apply IsS47.drewN | apply IsS47.drew | apply IsS47.set_1 | apply IsS47.set_2) | exact HI0.out)) hkp (fun hs_ => (fun e_ => (IsS47.own_ne HI0.out HO_7.out (by decide)) e_) hs_)); have n1_ := Aside0.mk (Kd.R_mono (ok' := fun k_ => True) (Kd.R_raise (d := k60) (b := w0.heap.size) (b' := w.heap.size) (fun _ _ _ _ h_ => h_) ho0 (fun k_ e_ => Or.elim (ho0.1 k_ e_) (fun hs_ => (fun e_ => Kd.R_base HO_7.out k_ e_.symm) hs_) (fun hn_ => Nat.le_trans (keep_size (w := w) (g := g) (row := none) (by repeat (first | (with_reducible first | exact HK.out | apply KeepBut.set_ | apply keep_drewN | apply keep_drew | apply keep_alloc) | exact HK.out))) hn_))) (fun k_ hk_ => trivial)); have n2_ := Aside0.mk (Kept.keepG (by repeat (first | (with_reducible first | exact HK.out | apply KeepBut.set_ | apply keep_drewN | apply keep_drew | apply keep_alloc) | exact HK.out)) hkp (fun k_ hs_ => (fun e_ => .inr (Kd.R_base HO_7.out k_ e_.symm)) hs_)); have n3_ := Aside0.mk (hb); clear HI0; clear HK; clear HB; clear HO_7; have HI0 := n0_; have HO361 := n1_; have HK := n2_; have HB := n3_; clear n0_ n1_ n2_ n3_; (try clear hb); (try clear hkp); (try clear ho0)))
     go_roundg k1
     case measure => have := HK1.out; omega
     case rel => exact ⟨(t359), (wrap64 (x8_1 - 1)), (t355), (t356), (by first | rfl | (simp; done) | (simp [*]; done)), H', ⟨by have := HK1.out; omega⟩, ⟨by (with_reducible repeat (first | apply rA | apply rN | apply rD)); exact HO361.out⟩, ⟨by repeat (first | (with_reducible first | exact HI0.out | apply IsS47.alloc | apply IsS47.drewN | apply IsS47.drew | apply IsS47.set_1 | apply IsS47.set_2) | exact HI0.out)⟩, ⟨by repeat (first | (with_reducible first | exact HK.out | apply KeepBut.set_ | apply keep_drewN | apply keep_drew | apply keep_alloc) | exact HK.out)⟩, ⟨by repeat (first | (with_reducible first | exact HB.out | apply bA | apply bN | apply bD | refine below_set ?_ (IsS47.ge HI0.out)) | exact HB.out)⟩⟩
   ·rw [if_neg c7] at H
    have c7b0 : decide (0 < x8_1) = false := decide_eq_false c7
    clear c7
    simp only [Option.some.injEq, Prod.mk.injEq] at H
    obtain ⟨rfl, rfl, rfl, rfl⟩ := H
    go_wp2
    go_ret2
    exact ⟨_, by first | rfl | (simp [errW_none, errW_some] <;> rfl) | (simp [*, errW_none, errW_some] <;> rfl), by (with_reducible repeat (first | apply rA | apply rN | apply rD)); exact HO_7.out, by repeat (first | (with_reducible first | exact HI0.out | apply IsS47.alloc | apply IsS47.drewN | apply IsS47.drew | apply IsS47.set_1 | apply IsS47.set_2) | exact HI0.out), by repeat (first | (with_reducible first | exact HB.out | apply bA | apply bN | apply bD | refine below_set ?_ (IsS47.ge HI0.out)) | exact HB.out), by repeat (first | (with_reducible first | exact HK.out | apply KeepBut.set_ | apply keep_drewN | apply keep_drew | apply keep_alloc) | exact HK.out)⟩
def spec_l1Cur_among.f (s0_0 : List Int) (s0_1 : Int) (s0_2 : Int) (l1 : List Int) : Option (Int × Int × Int) := (spec_l1Cur_pick.f s0_0 s0_1 s0_2 (l1.length : Int)).bind fun bt362 => (if 0 ≤ bt362.1 then (if bt362.1 < (l1.length : Int) then (some (rd l1 bt362.1, bt362.2.1, bt362.2.2)) else (none)) else (none))
set_option maxHeartbeats 8000000 in
set_option maxRecDepth 100000 in
theorem spec_l1Cur_among.calls (g : Nat) (s0_0 : List Int) (s0_1 : Int) (s0_2 : Int) (A1 : Option Addr) (c1 : Nat) (l1 : List Int) (r1 : Int) (r2 : Int) (r3 : Int) (w0 w : World) (hI : IsS47 w0 w g s0_0 s0_1 s0_2) (hB : Below w0.heap.size w0 w) (hr1 : Kd.C (Kd.int .i64) w A1 l1.length l1) (hc1 : l1.length ≤ c1) (hf1 : ∀ ad, A1 = some ad → 0 < l1.length → ad.block ≠ g) (h : spec_l1Cur_among.f s0_0 s0_1 s0_2 l1 = some (r1, r2, r3)) :
  Calls Try.prog 51 #[.pointer (some ⟨g, 0, none⟩), .slice A1 l1.length c1] w fun e w' => e = .returned (.int .i64 r1) ∧ IsS47 w0 w' g s0_0 r2 r3 ∧ Below w0.heap.size w0 w' ∧ KeepBut w w' g none := by
 have HR1 := Aside0.mk hr1
 have HC1 := Aside0.mk hc1
 clear hr1 hc1
 have HI0 := Aside0.mk hI
 have HK := Aside0.mk (KeepBut.refl w g none)
 have HL := Aside0.mk hB.size
 clear hI
 have HW0 := Aside0.mk hB.size
 have HB := Aside0.mk hB
 clear hB
 have H : ((spec_l1Cur_pick.f s0_0 s0_1 s0_2 (l1.length : Int)).bind fun bt362 => (if 0 ≤ bt362.1 then (if bt362.1 < (l1.length : Int) then (some (rd l1 bt362.1, bt362.2.1, bt362.2.2)) else (none)) else (none))) = some (r1, r2, r3) := h
 clear h
 replace H := bI H
 obtain ⟨⟨t362, t363, t364⟩, A30, H⟩ := H
 replace H : (if 0 ≤ t362 then (if t362 < (l1.length : Int) then (some (rd l1 t362, t363, t364)) else (none)) else (none)) = some (r1, r2, r3) := H
 have A3 := Aside0.mk A30
 clear A30
 by_cases c4 : 0 ≤ t362
 ·rw [if_pos c4] at H
  have c4b0 : decide (0 ≤ t362) = true := decide_eq_true c4
  clear c4
  by_cases c5 : t362 < (l1.length : Int)
  ·rw [if_pos c5] at H
   have c5b0 : decide (t362 < (l1.length : Int)) = true := decide_eq_true c5
   clear c5
   simp only [Option.some.injEq, Prod.mk.injEq] at H
   obtain ⟨rfl, rfl, rfl⟩ := H
   go_enter Try.func51, Try.ntmps51
   go_wp2_with (first | ((with_reducible refine gate_callee (f := 30) rfl ?_); refine goesL_ (some 9) rfl rfl Try.func30 (by kernel_rfl) rfl #[.pointer (some ⟨g, 0, none⟩), .int .i64 (l1.length : Int)] rfl ar_ ?_; (with_reducible refine (spec_l1Cur_pick.calls g s0_0 s0_1 s0_2 (l1.length : Int) t362 t363 t364 w0 _ ?side1 ?side2 A3.out).mono ?_); (case side1 => repeat (first | (with_reducible first | exact HI0.out | apply IsS47.alloc | apply IsS47.drewN | apply IsS47.drew | apply IsS47.set_1 | apply IsS47.set_2) | exact HI0.out)); (case side2 => repeat (first | (with_reducible first | exact HB.out | apply bA | apply bN | apply bD | refine below_set ?_ (IsS47.ge HI0.out)) | exact HB.out)); rintro e w6 ⟨rfl, hi, hb, hk⟩; refine ⟨_, rfl, ?_⟩; have n0_ := Aside0.mk (KeepBut.trans (by repeat (first | (with_reducible first | exact HK.out | apply KeepBut.set_ | apply keep_drewN | apply keep_drew | apply keep_alloc) | exact HK.out)) hk (.inl rfl)); have n1_ := Aside0.mk (hb); have n2_ := Aside0.mk (hi); clear HK; clear HB; clear HI0; have HK := n0_; have HB := n1_; have HI0 := n2_; clear n0_ n1_ n2_; (try clear hb); (try clear hb2); (try clear hk); (try clear hi); have p365 : 0 ≤ (t362 : Int) := of_decide_eq_true (by assumption); have q365 : t362 < (l1.length : Int) := of_decide_eq_true (by assumption); obtain ⟨ad365, e365, hx365_0⟩ := Kd.at_int HR1.out t362 p365 q365; cases e365; replace hx365_0 := keep_cell HK.out hx365_0 (by first | (rw [add_block]; exact hf1 _ rfl (by omega)) | exact hf1 _ rfl (by omega) | exact hf1 ad365 rfl (by omega)); replace p365 := eq_true p365; replace q365 := eq_true q365))
   go_ret
   exact ⟨by first | rfl | (simp [errW_none, errW_some] <;> rfl) | (simp [*, errW_none, errW_some] <;> rfl), by repeat (first | (with_reducible first | exact HI0.out | apply IsS47.alloc | apply IsS47.drewN | apply IsS47.drew | apply IsS47.set_1 | apply IsS47.set_2) | exact HI0.out), by repeat (first | (with_reducible first | exact HB.out | apply bA | apply bN | apply bD | refine below_set ?_ (IsS47.ge HI0.out)) | exact HB.out), by repeat (first | (with_reducible first | exact HK.out | apply KeepBut.set_ | apply keep_drewN | apply keep_drew | apply keep_alloc) | exact HK.out)⟩
  ·rw [if_neg c5] at H
   exact absurd H (by simp)
 ·rw [if_neg c4] at H
  exact absurd H (by simp)
def spec_l1Cur_sureStar.f (s0_0 : List Int) (s0_1 : Int) (s0_2 : Int) : Option (Int × Int × Int × Int) := (spec_l1Cur_pick.f s0_0 s0_1 s0_2 12).bind fun bt367 => ((spec_l1Cur_pick.f s0_0 bt367.2.1 bt367.2.2 (wrap64 ((wrap64 (3 + bt367.1)) - 1))).bind fun bt370 => (some (wrap64 (3 + bt367.1), wrap64 (1 + bt370.1), bt370.2.1, bt370.2.2)))
set_option maxHeartbeats 8000000 in
set_option maxRecDepth 100000 in
theorem spec_l1Cur_sureStar.calls (g : Nat) (s0_0 : List Int) (s0_1 : Int) (s0_2 : Int) (r1 : Int) (r2 : Int) (r3 : Int) (r4 : Int) (w0 w : World) (hI : IsS47 w0 w g s0_0 s0_1 s0_2) (hB : Below w0.heap.size w0 w) (h : spec_l1Cur_sureStar.f s0_0 s0_1 s0_2 = some (r1, r2, r3, r4)) :
  Calls Try.prog 54 #[.pointer (some ⟨g, 0, none⟩)] w fun e w' => e = .returned (.agg #[.int .i64 r1, .int .i64 r2]) ∧ IsS47 w0 w' g s0_0 r3 r4 ∧ Below w0.heap.size w0 w' ∧ KeepBut w w' g none := by
 have hu37 := Try.underlying37
 have HI0 := Aside0.mk hI
 have HK := Aside0.mk (KeepBut.refl w g none)
 have HL := Aside0.mk hB.size
 clear hI
 have HW0 := Aside0.mk hB.size
 have HB := Aside0.mk hB
 clear hB
 have H : ((spec_l1Cur_pick.f s0_0 s0_1 s0_2 12).bind fun bt367 => ((spec_l1Cur_pick.f s0_0 bt367.2.1 bt367.2.2 (wrap64 ((wrap64 (3 + bt367.1)) - 1))).bind fun bt370 => (some (wrap64 (3 + bt367.1), wrap64 (1 + bt370.1), bt370.2.1, bt370.2.2)))) = some (r1, r2, r3, r4) := h
 clear h
 replace H := bI H
 obtain ⟨⟨t367, t368, t369⟩, A20, H⟩ := H
 replace H : ((spec_l1Cur_pick.f s0_0 t368 t369 (wrap64 ((wrap64 (3 + t367)) - 1))).bind fun bt370 => (some (wrap64 (3 + t367), wrap64 (1 + bt370.1), bt370.2.1, bt370.2.2))) = some (r1, r2, r3, r4) := H
 have A2 := Aside0.mk A20
 clear A20
 replace H := bI H
 obtain ⟨⟨t370, t371, t372⟩, A30, H⟩ := H
 replace H : (some (wrap64 (3 + t367), wrap64 (1 + t370), t371, t372)) = some (r1, r2, r3, r4) := H
 have A3 := Aside0.mk A30
 clear A30
 simp only [Option.some.injEq, Prod.mk.injEq] at H
 obtain ⟨rfl, rfl, rfl, rfl⟩ := H
 go_enter Try.func54, Try.ntmps54
 go_wp2_with (first | ((with_reducible refine gate_dst (N := 2) rfl ?_); refine box_event ?hg (N := 2) ?hd (cs := #[.int .i64 0, .int .i64 0]) (t := 37) ?hr ?_; (case hd => rfl); (case hg => rfl); (case hr => first | (go_simp; done) | (go_simp; rfl)); intro gb366 hg w4 hbox hb; have n0_ := Aside0.mk (IsS47.below (by repeat (first | (with_reducible first | exact HI0.out | apply IsS47.alloc | apply IsS47.drewN | apply IsS47.drew | apply IsS47.set_1 | apply IsS47.set_2) | exact HI0.out)) hb); have n1_ := Aside0.mk (KeepBut.trans (by repeat (first | (with_reducible first | exact HK.out | apply KeepBut.set_ | apply keep_drewN | apply keep_drew | apply keep_alloc) | exact HK.out)) (KeepBut.of_below hb g none) (.inl rfl)); have n2_ := Aside0.mk (below_step (by repeat (first | (with_reducible first | exact HB.out | apply bA | apply bN | apply bD | refine below_set ?_ (IsS47.ge HI0.out)) | exact HB.out)) hb); have n3_ := Aside0.mk (hbox); have n4_ := Aside0.mk ((by rw [hg]; exact (keep_size (w := w) (g := g) (row := none) (by repeat (first | (with_reducible first | exact HK.out | apply KeepBut.set_ | apply keep_drewN | apply keep_drew | apply keep_alloc) | exact HK.out))) : w.heap.size ≤ gb366)); have n5_ := Aside0.mk ((Nat.le_trans HW0.out (by rw [hg]; exact (keep_size (w := w) (g := g) (row := none) (by repeat (first | (with_reducible first | exact HK.out | apply KeepBut.set_ | apply keep_drewN | apply keep_drew | apply keep_alloc) | exact HK.out))) : w.heap.size ≤ gb366) : w0.heap.size ≤ gb366)); have n6_ := Aside0.mk ((by rw [hg]; exact Nat.ne_of_lt (IsS47.lt (show IsS47 w0 _ g s0_0 s0_1 s0_2 from by repeat (first | (with_reducible first | exact HI0.out | apply IsS47.alloc | apply IsS47.drewN | apply IsS47.drew | apply IsS47.set_1 | apply IsS47.set_2) | exact HI0.out))) : g ≠ gb366)); have n7_ := Aside0.mk ((by rw [hg]; exact Nat.ne_of_gt (IsS47.lt (show IsS47 w0 _ g s0_0 s0_1 s0_2 from by repeat (first | (with_reducible first | exact HI0.out | apply IsS47.alloc | apply IsS47.drewN | apply IsS47.drew | apply IsS47.set_1 | apply IsS47.set_2) | exact HI0.out))) : gb366 ≠ g)); clear HI0; clear HK; clear HB; have HI0 := n0_; have HK := n1_; have HB := n2_; have BK366 := n3_; have GW366 := n4_; have GE366 := n5_; have NB0_366 := n6_; have NB366_0 := n7_; clear n0_ n1_ n2_ n3_ n4_ n5_ n6_ n7_; clear hb hbox hg) | ((with_reducible refine gate_callee (f := 30) rfl ?_); refine goesL_ (some 5) rfl rfl Try.func30 (by kernel_rfl) rfl #[.pointer (some ⟨g, 0, none⟩), .int .i64 12] rfl ar_ ?_; (with_reducible refine (spec_l1Cur_pick.calls g s0_0 s0_1 s0_2 12 t367 t368 t369 w0 _ ?side1 ?side2 A2.out).mono ?_); (case side1 => repeat (first | (with_reducible first | exact HI0.out | apply IsS47.alloc | apply IsS47.drewN | apply IsS47.drew | apply IsS47.set_1 | apply IsS47.set_2 | refine IsS47.far ?_ NB0_366.out _) | exact HI0.out)); (case side2 => repeat (first | (with_reducible first | exact HB.out | apply bA | apply bN | apply bD | refine below_set ?_ (IsS47.ge HI0.out) | refine below_set ?_ GE366.out) | exact HB.out)); rintro e w5 ⟨rfl, hi, hb, hk⟩; refine ⟨_, rfl, ?_⟩; have n0_ := Aside0.mk (KeepBut.blk hk (g' := gb366) (o := .cells #[.int .i64 0, .int .i64 0] 37 (0, 0)) (kx_ BK366.out) NB366_0.out (by simp)); have n1_ := Aside0.mk (KeepBut.trans (by repeat (first | (with_reducible first | exact HK.out | apply KeepBut.set_ | apply keep_drewN | apply keep_drew | apply keep_alloc | refine keep_far ?_ GW366.out _) | exact HK.out)) hk (.inl rfl)); have n2_ := Aside0.mk (hb); have n3_ := Aside0.mk (hi); clear BK366; clear HK; clear HB; clear HI0; have BK366 := n0_; have HK := n1_; have HB := n2_; have HI0 := n3_; clear n0_ n1_ n2_ n3_; (try clear hb); (try clear hb2); (try clear hk); (try clear hi)) | ((with_reducible refine gate_callee (f := 30) rfl ?_); refine goesL_ (some 11) rfl rfl Try.func30 (by kernel_rfl) rfl #[.pointer (some ⟨g, 0, none⟩), .int .i64 (wrap64 ((wrap64 (3 + t367)) - 1))] rfl ar_ ?_; (with_reducible refine (spec_l1Cur_pick.calls g s0_0 t368 t369 (wrap64 ((wrap64 (3 + t367)) - 1)) t370 t371 t372 w0 _ ?side1 ?side2 A3.out).mono ?_); (case side1 => repeat (first | (with_reducible first | exact HI0.out | apply IsS47.alloc | apply IsS47.drewN | apply IsS47.drew | apply IsS47.set_1 | apply IsS47.set_2 | refine IsS47.far ?_ NB0_366.out _) | exact HI0.out)); (case side2 => repeat (first | (with_reducible first | exact HB.out | apply bA | apply bN | apply bD | refine below_set ?_ (IsS47.ge HI0.out) | refine below_set ?_ GE366.out) | exact HB.out)); rintro e w6 ⟨rfl, hi, hb, hk⟩; refine ⟨_, rfl, ?_⟩; have n0_ := Aside0.mk (KeepBut.blk hk (g' := gb366) (o := .cells #[.int .i64 0, .int .i64 0] 37 (0, 0)) (kx_ BK366.out) NB366_0.out (by simp)); have n1_ := Aside0.mk (KeepBut.trans (by repeat (first | (with_reducible first | exact HK.out | apply KeepBut.set_ | apply keep_drewN | apply keep_drew | apply keep_alloc | refine keep_far ?_ GW366.out _) | exact HK.out)) hk (.inl rfl)); have n2_ := Aside0.mk (hb); have n3_ := Aside0.mk (hi); clear BK366; clear HK; clear HB; clear HI0; have BK366 := n0_; have HK := n1_; have HB := n2_; have HI0 := n3_; clear n0_ n1_ n2_ n3_; (try clear hb); (try clear hb2); (try clear hk); (try clear hi); have hnb7 := NB366_0.out; have hnc7 := NB0_366.out; have hcz8_0 : w6.cell? ⟨gb366, 0, none⟩ = some (.int .i64 0) := bc_ BK366 0; have hcz8_1 : w6.cell? ⟨gb366, 1, none⟩ = some (.int .i64 0) := bc_ BK366 1; have hfz8_0 := blk_frozen BK366.out 0; have hfz8_1 := blk_frozen BK366.out 1))
 refine bodyPost_ret (results_cell_row rfl _ _ gb366 37 #[.int .i64 (wrap64 (3 + t367)), .int .i64 (wrap64 (1 + t370))] (0, 0) _ rfl (by (with_reducible repeat (first | refine kN ?_ _ | refine kD ?_ | refine kA ?_ _)); refine blk_put (cs := #[.int .i64 (wrap64 (3 + t367)), .int .i64 0]) ?_ 1 _ rfl; (with_reducible repeat (first | refine kN ?_ _ | refine kD ?_ | refine kA ?_ _)); refine blk_put (cs := #[.int .i64 0, .int .i64 0]) ?_ 0 _ rfl; (with_reducible repeat (first | refine kN ?_ _ | refine kD ?_ | refine kA ?_ _)); exact BK366.out) Try.underlying37 rfl (by kernel_rfl)) rfl ?_
 exact ⟨by first | rfl | (simp [errW_none, errW_some] <;> rfl) | (simp [*, errW_none, errW_some] <;> rfl), by repeat (first | (with_reducible first | exact HI0.out | apply IsS47.alloc | apply IsS47.drewN | apply IsS47.drew | apply IsS47.set_1 | apply IsS47.set_2 | refine IsS47.far ?_ NB0_366.out _) | exact HI0.out), by repeat (first | (with_reducible first | exact HB.out | apply bA | apply bN | apply bD | refine below_set ?_ (IsS47.ge HI0.out) | refine below_set ?_ GE366.out) | exact HB.out), by repeat (first | (with_reducible first | exact HK.out | apply KeepBut.set_ | apply keep_drewN | apply keep_drew | apply keep_alloc | refine keep_far ?_ GW366.out _) | exact HK.out)⟩
mutual
def spec_cdOfRank.l0 : Nat → Int → Int → Int → List Int → Int → Option ((List (S60)))
 | 0, _, _, _, _, _ => none
 | k + 1, x0, x1, x2, x3, x9 => if x9 < x1 then (if 0 ≤ (wrap64 (x9 - 1)) then (if (wrap64 (x9 - 1)) < (x3.length : Int) then (if 0 ≤ (wrap64 ((wrap64 (x1 - 1)) - x9)) then (if (wrap64 ((wrap64 (x1 - 1)) - x9)) < (x3.length : Int) then (if x2 < (wrap64 ((rd x3 (wrap64 (x9 - 1))) * (rd x3 (wrap64 ((wrap64 (x1 - 1)) - x9))))) then ((some (([(⟨x0, wrap64 (x0 + x9)⟩ : S60)] : List (S60)) : List (S60))).bind fun y375 => (if (rd x3 (wrap64 ((wrap64 (x1 - 1)) - x9))) = 0 then (none) else ((spec_cdOfRank.f k (wrap64 (x0 + 1)) (wrap64 (x9 - 1)) (wrap64 (Int.tdiv x2 (rd x3 (wrap64 ((wrap64 (x1 - 1)) - x9))))) x3).bind fun t378 => (if y375.length + t378.length < 8796093022208 then ((some (y375 ++ t378 : List (S60))).bind fun y381 => ((spec_cdOfRank.f k (wrap64 ((wrap64 (x0 + x9)) + 1)) (wrap64 ((wrap64 (x1 - 1)) - x9)) (Int.tmod x2 (rd x3 (wrap64 ((wrap64 (x1 - 1)) - x9)))) x3).bind fun t384 => (if y381.length + t384.length < 8796093022208 then (some (y381 ++ t384)) else (none)))) else (none))))) else (spec_cdOfRank.l0 k x0 x1 (wrap64 (x2 - (wrap64 ((rd x3 (wrap64 (x9 - 1))) * (rd x3 (wrap64 ((wrap64 (x1 - 1)) - x9))))))) x3 (wrap64 (x9 + 2)))) else (none)) else (none)) else (none)) else (none)) else (some ([] : List (S60)))
def spec_cdOfRank.f : Nat → Int → Int → Int → List Int → Option ((List (S60)))
 | 0, _, _, _, _ => none
 | k + 1, a0, a1, a2, l3 => if a1 = 0 then (some ([] : List (S60))) else (spec_cdOfRank.l0 k a0 a1 a2 l3 1)
end
theorem spec_cdOfRank.mono_l : ∀ k, (∀ y0 y1 y2 y3, LeO (spec_cdOfRank.f k y0 y1 y2 y3) (spec_cdOfRank.f (k + 1) y0 y1 y2 y3)) ∧ (∀ y0 y1 y2 y3 y4, LeO (spec_cdOfRank.l0 k y0 y1 y2 y3 y4) (spec_cdOfRank.l0 (k + 1) y0 y1 y2 y3 y4))
 | 0 => ⟨fun _ _ _ _ r h => by simp [spec_cdOfRank.f] at h, fun _ _ _ _ _ r h => by simp [spec_cdOfRank.l0] at h⟩
 | k + 1 => by
  obtain ⟨ih0, ih1⟩ := spec_cdOfRank.mono_l k
  refine ⟨?_, ?_⟩
  ·intro y0 y1 y2 y3
   unfold spec_cdOfRank.f
   repeat' first
   | (with_reducible exact ih0 _ _ _ _)
   | (with_reducible exact ih1 _ _ _ _ _)
   | (with_reducible exact LeO.refl _)
   | (with_reducible exact LeO.none _)
   | (with_reducible refine LeO.ite ?_ ?_)
   | (with_reducible refine LeO.bind ?_ (fun _ => ?_))
   | exact ih0 _ _ _ _
   | exact ih1 _ _ _ _ _
   | exact LeO.none _
   | refine LeO.ite ?_ ?_
   | refine LeO.bind ?_ (fun _ => ?_)
  ·intro y0 y1 y2 y3 y4
   unfold spec_cdOfRank.l0
   repeat' first
   | (with_reducible exact ih0 _ _ _ _)
   | (with_reducible exact ih1 _ _ _ _ _)
   | (with_reducible exact LeO.refl _)
   | (with_reducible exact LeO.none _)
   | (with_reducible refine LeO.ite ?_ ?_)
   | (with_reducible refine LeO.bind ?_ (fun _ => ?_))
   | exact ih0 _ _ _ _
   | exact ih1 _ _ _ _ _
   | exact LeO.none _
   | refine LeO.ite ?_ ?_
   | refine LeO.bind ?_ (fun _ => ?_)
theorem spec_cdOfRank.mono : ∀ a0 a1 a2 a3 k, LeO (spec_cdOfRank.f k a0 a1 a2 a3) (spec_cdOfRank.f (k + 1) a0 a1 a2 a3) := by
 intro a0 a1 a2 a3 k
 obtain ⟨ih0, ih1⟩ := spec_cdOfRank.mono_l k
 exact ih0 a0 a1 a2 a3
set_option maxHeartbeats 8000000 in
set_option maxRecDepth 100000 in
theorem spec_cdOfRank.calls (k : Nat) : ∀ (a0 : Int) (a1 : Int) (a2 : Int) (A3 : Option Addr) (c3 : Nat) (l3 : List Int) (r : List (S60)) (w : World) (hr3 : Kd.C (Kd.int .i64) w A3 l3.length l3) (hc3 : l3.length ≤ c3) (h : spec_cdOfRank.f k a0 a1 a2 l3 = some r),
  Calls Try.prog 55 #[.int .i64 a0, .int .i64 a1, .int .i64 a2, .slice A3 l3.length c3] w fun e w' => ∃ v0_ : Value, e = .returned (v0_) ∧ Kd.R k60 60 w' w.heap.size (fun _ => True) v0_ r ∧ Below w.heap.size w w' := by
 induction k using Nat.strongRecOn with
 | _ k ih =>
 intro a0 a1 a2 A3 c3 l3 r w hr3 hc3 h
 cases k with
 | zero => exact absurd h (by simp [spec_cdOfRank.f])
 | succ k =>
 simp only [spec_cdOfRank.f] at h
 have hu60 := Try.underlying60
 have HR3 := Aside0.mk hr3
 have HC3 := Aside0.mk hc3
 clear hr3 hc3
 have HB := Aside0.mk (Below.refl w.heap.size w)
 have H : (if a1 = 0 then (some ([] : List (S60))) else (spec_cdOfRank.l0 k a0 a1 a2 l3 1)) = some r := h
 clear h
 by_cases c5 : a1 = 0
 ·rw [if_pos c5] at H
  have c5b0 : (a1 == 0) = true := beq_iff_eq.mpr c5
  have c5b1 : (a1 != 0) = false := bne_eq_false_iff_eq.mpr c5
  clear c5
  obtain rfl := oI H
  go_enter Try.func55, Try.ntmps55
  go_wp2
  repeat (go_quiet (fail); try go_wp2)
  go_ret
  exact ⟨_, by first | rfl | (simp [errW_none, errW_some] <;> rfl) | (simp [*, errW_none, errW_some] <;> rfl), by first | exact Kd.R_nil _ _ _ _ _ | exact Kd.N_nil _ _ _ _ _ | exact Kd.V_nil _ _ _ _ _ | exact Kd.Q_nil _ _ _ _ _ | exact Kd.S_nil _ _ _ _ _, hb_⟩
 ·rw [if_neg c5] at H
  have c5b0 : (a1 == 0) = false := beq_eq_false_iff_ne.mpr c5
  have c5b1 : (a1 != 0) = true := bne_iff_ne.mpr c5
  have H' := Aside0.mk H
  clear H
  go_enter Try.func55, Try.ntmps55
  go_wp2
  repeat (go_quiet (fail); try go_wp2)
  go_loopg [2, 9] k (fun kq v2 v9 w' => ∃ (x2_1 : Int) (x9_1 : Int), v2 = .int .i64 x2_1 ∧ v9 = .int .i64 x9_1 ∧ Aside0 (spec_cdOfRank.l0 kq a0 a1 x2_1 l3 x9_1 = some r) ∧ Aside0 (kq ≤ k) ∧ Aside0 (Below w.heap.size w w'))
  case atStart => exact ⟨(a2), (1), (by first | rfl | (simp; done) | (simp [*]; done)), (by first | rfl | (simp; done) | (simp [*]; done)), H', ⟨Nat.le_refl _⟩, ⟨hb_⟩⟩
  case round =>
   clear H'
   try clear p2
   try clear c3
   try clear c5
   try clear c5b0
   try clear c5b1
   obtain ⟨x2_1, x9_1, rfl, rfl, HA, HK1, HB⟩ := hrel
   cases gk with
   | zero => exact absurd HA.out (by simp [spec_cdOfRank.l0])
   | succ k1 =>
    have H := HA.out
    clear HA
    simp only [spec_cdOfRank.l0] at H
    by_cases c6 : x9_1 < a1
    ·rw [if_pos c6] at H
     have c6b0 : decide (x9_1 < a1) = true := decide_eq_true c6
     clear c6
     obtain ⟨ji7, hji7⟩ : ∃ j_ : Int, (wrap64 (x9_1 - 1)) = j_ := ⟨_, rfl⟩
     replace H : (if 0 ≤ (ji7) then (if (ji7) < (l3.length : Int) then (if 0 ≤ (wrap64 ((wrap64 (a1 - 1)) - x9_1)) then (if (wrap64 ((wrap64 (a1 - 1)) - x9_1)) < (l3.length : Int) then (if x2_1 < (wrap64 ((rd l3 (ji7)) * (rd l3 (wrap64 ((wrap64 (a1 - 1)) - x9_1))))) then ((some (([(⟨a0, wrap64 (a0 + x9_1)⟩ : S60)] : List (S60)) : List (S60))).bind fun y375 => (if (rd l3 (wrap64 ((wrap64 (a1 - 1)) - x9_1))) = 0 then (none) else ((spec_cdOfRank.f k1 (wrap64 (a0 + 1)) (ji7) (wrap64 (Int.tdiv x2_1 (rd l3 (wrap64 ((wrap64 (a1 - 1)) - x9_1))))) l3).bind fun t378 => (if y375.length + t378.length < 8796093022208 then ((some (y375 ++ t378 : List (S60))).bind fun y381 => ((spec_cdOfRank.f k1 (wrap64 ((wrap64 (a0 + x9_1)) + 1)) (wrap64 ((wrap64 (a1 - 1)) - x9_1)) (Int.tmod x2_1 (rd l3 (wrap64 ((wrap64 (a1 - 1)) - x9_1)))) l3).bind fun t384 => (if y381.length + t384.length < 8796093022208 then (some (y381 ++ t384)) else (none)))) else (none))))) else (spec_cdOfRank.l0 k1 a0 a1 (wrap64 (x2_1 - (wrap64 ((rd l3 (ji7)) * (rd l3 (wrap64 ((wrap64 (a1 - 1)) - x9_1))))))) l3 (wrap64 (x9_1 + 2)))) else (none)) else (none)) else (none)) else (none)) = some r := by first | (rw [hji7] at H; exact H) | (simp only [hji7] at H ⊢; exact H)
     have hji7w : (IntKind.i64.wrap (x9_1 - 1)) = ji7 := (i64_w _).trans hji7
     by_cases c8 : 0 ≤ (ji7)
     ·rw [if_pos c8] at H
      have c8b0 : decide (0 ≤ (ji7)) = true := decide_eq_true c8
      clear c8
      by_cases c9 : (ji7) < (l3.length : Int)
      ·rw [if_pos c9] at H
       have c9b0 : decide ((ji7) < (l3.length : Int)) = true := decide_eq_true c9
       clear c9
       obtain ⟨ji10, hji10⟩ : ∃ j_ : Int, (wrap64 ((wrap64 (a1 - 1)) - x9_1)) = j_ := ⟨_, rfl⟩
       replace H : (if 0 ≤ (ji10) then (if (ji10) < (l3.length : Int) then (if x2_1 < (wrap64 ((rd l3 (ji7)) * (rd l3 (ji10)))) then ((some (([(⟨a0, wrap64 (a0 + x9_1)⟩ : S60)] : List (S60)) : List (S60))).bind fun y375 => (if (rd l3 (ji10)) = 0 then (none) else ((spec_cdOfRank.f k1 (wrap64 (a0 + 1)) (ji7) (wrap64 (Int.tdiv x2_1 (rd l3 (ji10)))) l3).bind fun t378 => (if y375.length + t378.length < 8796093022208 then ((some (y375 ++ t378 : List (S60))).bind fun y381 => ((spec_cdOfRank.f k1 (wrap64 ((wrap64 (a0 + x9_1)) + 1)) (ji10) (Int.tmod x2_1 (rd l3 (ji10))) l3).bind fun t384 => (if y381.length + t384.length < 8796093022208 then (some (y381 ++ t384)) else (none)))) else (none))))) else (spec_cdOfRank.l0 k1 a0 a1 (wrap64 (x2_1 - (wrap64 ((rd l3 (ji7)) * (rd l3 (ji10)))))) l3 (wrap64 (x9_1 + 2)))) else (none)) else (none)) = some r := by first | (rw [hji10] at H; exact H) | (simp only [hji10] at H ⊢; exact H)
       have hji10w : (IntKind.i64.wrap ((wrap64 (a1 - 1)) - x9_1)) = ji10 := (i64_w _).trans hji10
       by_cases c11 : 0 ≤ (ji10)
       ·rw [if_pos c11] at H
        have c11b0 : decide (0 ≤ (ji10)) = true := decide_eq_true c11
        clear c11
        by_cases c12 : (ji10) < (l3.length : Int)
        ·rw [if_pos c12] at H
         have c12b0 : decide ((ji10) < (l3.length : Int)) = true := decide_eq_true c12
         clear c12
         by_cases c13 : x2_1 < (wrap64 ((rd l3 (ji7)) * (rd l3 (ji10))))
         ·rw [if_pos c13] at H
          have c13b0 : decide (x2_1 < (wrap64 ((rd l3 (ji7)) * (rd l3 (ji10))))) = true := decide_eq_true c13
          clear c13
          obtain ⟨y375, hy375⟩ : ∃ y_ : List (S60), y_ = (([(⟨a0, wrap64 (a0 + x9_1)⟩ : S60)] : List (S60))) := ⟨_, rfl⟩
          replace H : (if (rd l3 (ji10)) = 0 then (none) else ((spec_cdOfRank.f k1 (wrap64 (a0 + 1)) (ji7) (wrap64 (Int.tdiv x2_1 (rd l3 (ji10)))) l3).bind fun t378 => (if y375.length + t378.length < 8796093022208 then ((some (y375 ++ t378 : List (S60))).bind fun y381 => ((spec_cdOfRank.f k1 (wrap64 ((wrap64 (a0 + x9_1)) + 1)) (ji10) (Int.tmod x2_1 (rd l3 (ji10))) l3).bind fun t384 => (if y381.length + t384.length < 8796093022208 then (some (y381 ++ t384)) else (none)))) else (none)))) = some r := by first | (rw [hy375]; with_reducible exact H) | (have H2_ := (Option.bind_some _ _).symm.trans H; rw [hy375]; with_reducible exact H2_) | (have H2_ := (Option.bind_some _ _).symm.trans H; with_reducible exact H2_) | with_reducible exact H | (rw [hy375]; exact H) | exact H
          have Ny375 := Aside0.mk hy375
          clear hy375
          by_cases c14 : (rd l3 (ji10)) = 0
          ·rw [if_pos c14] at H
           exact absurd H (by simp)
          ·rw [if_neg c14] at H
           have c14b0 : ((rd l3 (ji10)) == 0) = false := beq_eq_false_iff_ne.mpr c14
           have c14b1 : ((rd l3 (ji10)) != 0) = true := bne_iff_ne.mpr c14
           replace H := bI H
           obtain ⟨t378, A150, H⟩ := H
           replace H : (if y375.length + t378.length < 8796093022208 then ((some (y375 ++ t378 : List (S60))).bind fun y381 => ((spec_cdOfRank.f k1 (wrap64 ((wrap64 (a0 + x9_1)) + 1)) (ji10) (Int.tmod x2_1 (rd l3 (ji10))) l3).bind fun t384 => (if y381.length + t384.length < 8796093022208 then (some (y381 ++ t384)) else (none)))) else (none)) = some r := H
           have A15 := Aside0.mk A150
           clear A150
           by_cases c16 : y375.length + t378.length < 8796093022208
           ·rw [if_pos c16] at H
            have LMc16 := Aside0.mk c16
            clear c16
            obtain ⟨y381, hy381⟩ : ∃ y_ : List (S60), y_ = (y375 ++ t378) := ⟨_, rfl⟩
            replace H : ((spec_cdOfRank.f k1 (wrap64 ((wrap64 (a0 + x9_1)) + 1)) (ji10) (Int.tmod x2_1 (rd l3 (ji10))) l3).bind fun t384 => (if y381.length + t384.length < 8796093022208 then (some (y381 ++ t384)) else (none))) = some r := by first | (rw [hy381]; with_reducible exact H) | (have H2_ := (Option.bind_some _ _).symm.trans H; rw [hy381]; with_reducible exact H2_) | (have H2_ := (Option.bind_some _ _).symm.trans H; with_reducible exact H2_) | with_reducible exact H | (rw [hy381]; exact H) | exact H
            have Ny381 := Aside0.mk hy381
            clear hy381
            replace H := bI H
            obtain ⟨t384, A170, H⟩ := H
            replace H : (if y381.length + t384.length < 8796093022208 then (some (y381 ++ t384)) else (none)) = some r := H
            have A17 := Aside0.mk A170
            clear A170
            by_cases c18 : y381.length + t384.length < 8796093022208
            ·rw [if_pos c18] at H
             have LMc18 := Aside0.mk c18
             clear c18
             obtain ⟨y387, hy387⟩ : ∃ y_ : List (S60), y_ = (y381 ++ t384) := ⟨_, rfl⟩
             replace H : (some y387) = some r := by first | (rw [hy387]; with_reducible exact H) | (have H2_ := (Option.bind_some _ _).symm.trans H; rw [hy387]; with_reducible exact H2_) | (have H2_ := (Option.bind_some _ _).symm.trans H; with_reducible exact H2_) | with_reducible exact H | (rw [hy387]; exact H) | exact H
             have Ny387 := Aside0.mk hy387
             clear hy387
             obtain rfl := oI H
             have p373 : 0 ≤ ((ji7) : Int) := of_decide_eq_true (by assumption)
             have q373 : (ji7) < (l3.length : Int) := of_decide_eq_true (by assumption)
             obtain ⟨ad373, e373, hx373_0⟩ := Kd.at_int HR3.out (ji7) p373 q373
             cases e373
             replace hx373_0 := (HB.out.cell (World.block_lt_of_cell? w _ hx373_0)).trans hx373_0
             replace p373 := eq_true p373
             replace q373 := eq_true q373
             have p374 : 0 ≤ ((ji10) : Int) := of_decide_eq_true (by assumption)
             have q374 : (ji10) < (l3.length : Int) := of_decide_eq_true (by assumption)
             obtain ⟨ad374, e374, hx374_0⟩ := Kd.at_int HR3.out (ji10) p374 q374
             obtain rfl : ad373 = ad374 := (by injection e374)
             replace hx374_0 := (HB.out.cell (World.block_lt_of_cell? w _ hx374_0)).trans hx374_0
             replace p374 := eq_true p374
             replace q374 := eq_true q374
             go_wp2_with (first | ((with_reducible refine gate_dst (N := 42) rfl ?_); refine Kd.R_lit k60 _ 60 ?hg (N := 42) ?hd (xs := ([(⟨a0, wrap64 (a0 + x9_1)⟩ : S60)] : List (S60))) (inner := [.int .i64 a0, .int .i64 (wrap64 (a0 + x9_1))]) (ok := fun _ => True) (okp := fun _ => True) ?hr ?hp (fun _ hk => hk) trivial (Below.refl _ _) (Nat.le_refl _) (by simp) ?_; (case hd => rfl); (case hg => rfl); (case hr => first | (go_simp; done) | (go_simp; rfl)); (case hp => exact (Reps.c2 (show Kd.M k60 _ _ _ (⟨a0, wrap64 (a0 + x9_1)⟩ : S60) [.int .i64 a0, .int .i64 (wrap64 (a0 + x9_1))] from (k60_mkM _ _ _ (⟨a0, wrap64 (a0 + x9_1)⟩ : S60) )) (Reps.none _ _))); intro v376 w19 ho20 hb hg_ hnew_; clear hg_ hnew_; (first | rw [← Ny375.out] at ho20 | (simp only [Int.reduceToNat] at ho20; rw [← Ny375.out] at ho20)); have n0_ := Aside0.mk (Kd.R_lower ho20 (below_size hb_)); have n1_ := Aside0.mk (below_step hb_ hb); clear HB; have HO377 := n0_; have HB := n1_; clear n0_ n1_; clear hb ho20) | (go_at_call 55; (with_reducible refine (ih k1 (by have := HK1.out; omega) (wrap64 (a0 + 1)) ji7 (wrap64 (Int.tdiv x2_1 (rd l3 (ji10)))) _ _ l3 t378 _ ?side1 ?side2 A15.out).mono ?_); (case side1 => repeat (first | exact (Kd.C_below HR3.out HB.out) | (with_reducible refine Kd.C_alloc ?_ _) | (with_reducible refine Kd.C_drewN ?_ _) | (with_reducible refine Kd.C_drew ?_))); (case side2 => exact HC3.out); rintro e w21 ⟨v379, rfl, ho0, hb⟩; have n0_ := Aside0.mk (Kd.R_elder' (ra_ HO377.out) (Kd.R_base ho0) hb); have n1_ := Aside0.mk (Kd.R_lower (Kd.R_new' ho0 (Kd.R_lt (ra_ HO377.out))) (below_size hb_)); have n2_ := Aside0.mk (below_step hb_ hb); clear HO377; clear HB; have HO377 := n0_; have HO380 := n1_; have HB := n2_; clear n0_ n1_ n2_; (try clear hb); (try clear hb2); (try clear hk); (try clear hi); (try clear ho0); obtain ⟨Ao23, co23, eo23⟩ := Kd.R_slice HO380.out; subst eo23) | ((with_reducible refine gate_builtin (b := .append) (xs := #[.tmp 43, .tmp 52]) rfl ?_); at_builtin; refine Kd.R_append_rows k60 (w0 := w) w.heap.size rfl (.tmp 43) (.tmp 52) 24 60 (.agg #[(.int .i64 0), (.int .i64 0)]) 16 rfl Try.underlying24 info60 rfl (by decide) (by omega) v376 y375 t378 _ _ _ (fun k_ => some k_ ≠ (.slice Ao23 t378.length co23 : Value).ownBlock) (fun _ => False) rfl rfl ?aO ?aR (fun _ _ h => h) (fun _ h => h.elim) ?aF ?aB ?aS ?aL ?_; (case aR => repeat (first | exact (Kd.R_reads' HO380.out).2.2 | (with_reducible refine Kd.C_alloc ?_ _) | (with_reducible refine Kd.C_drewN ?_ _) | (with_reducible refine Kd.C_drew ?_))); (case aB => exact hb_); (case aF => exact (fun k_ hk => Kd.fresh' (Kd.R_lt (ra_ HO380.out)) k_ hk)); (case aO => exact (by (with_reducible repeat (first | apply rA | apply rN | apply rD)); exact Kd.R_mono HO377.out (fun _ hk => hk.2))); (case aS => exact (below_size hb_)); (case aL => have := LMc16.out; omega); intro v382 w22 ho hb hg hat; rw [← Ny381.out] at ho; have n0_ := Aside0.mk (Kd.R_after (ok := (fun _ => True)) (ra_ HO380.out) hg hat); have n1_ := Aside0.mk (hb); have n2_ := Aside0.mk (ho); clear HO380; clear HB; clear HO377; have HO380 := n0_; have HB := n1_; have HO383 := n2_; clear n0_ n1_ n2_; clear ho hb hg hat) | (go_at_call 55; (with_reducible refine (ih k1 (by have := HK1.out; omega) (wrap64 ((wrap64 (a0 + x9_1)) + 1)) ji10 (Int.tmod x2_1 (rd l3 (ji10))) _ _ l3 t384 _ ?side1 ?side2 A17.out).mono ?_); (case side1 => repeat (first | exact (Kd.C_below HR3.out HB.out) | (with_reducible refine Kd.C_alloc ?_ _) | (with_reducible refine Kd.C_drewN ?_ _) | (with_reducible refine Kd.C_drew ?_))); (case side2 => exact HC3.out); rintro e w24 ⟨v385, rfl, ho0, hb⟩; have n0_ := Aside0.mk (Kd.R_elder' (ra_ HO380.out) (Kd.R_base ho0) hb); have n1_ := Aside0.mk (Kd.R_elder' (ra_ HO383.out) (Kd.R_base ho0) hb); have n2_ := Aside0.mk (Kd.R_lower (Kd.R_new' (Kd.R_new' ho0 (Kd.R_lt (ra_ HO380.out))) (Kd.R_lt (ra_ HO383.out))) (below_size hb_)); have n3_ := Aside0.mk (below_step hb_ hb); clear HO380; clear HO383; clear HB; have HO380 := n0_; have HO383 := n1_; have HO386 := n2_; have HB := n3_; clear n0_ n1_ n2_ n3_; (try clear hb); (try clear hb2); (try clear hk); (try clear hi); (try clear ho0); obtain ⟨Ao26, co26, eo26⟩ := Kd.R_slice HO386.out; subst eo26) | ((with_reducible refine gate_builtin (b := .append) (xs := #[.tmp 54, .tmp 67]) rfl ?_); at_builtin; refine Kd.R_append_rows k60 (w0 := w) w.heap.size rfl (.tmp 54) (.tmp 67) 24 60 (.agg #[(.int .i64 0), (.int .i64 0)]) 16 rfl Try.underlying24 info60 rfl (by decide) (by omega) v382 y381 t384 _ _ _ (fun k_ => some k_ ≠ (.slice Ao23 t378.length co23 : Value).ownBlock ∧ some k_ ≠ (.slice Ao26 t384.length co26 : Value).ownBlock) (fun _ => False) rfl rfl ?aO ?aR (fun _ _ h => h) (fun _ h => h.elim) ?aF ?aB ?aS ?aL ?_; (case aR => repeat (first | exact (Kd.R_reads' HO386.out).2.2 | (with_reducible refine Kd.C_alloc ?_ _) | (with_reducible refine Kd.C_drewN ?_ _) | (with_reducible refine Kd.C_drew ?_))); (case aB => exact hb_); (case aF => exact (fun k_ hk => ⟨Kd.fresh' (Kd.R_lt (ra_ HO380.out)) k_ hk, Kd.fresh' (Kd.R_lt (ra_ HO386.out)) k_ hk⟩)); (case aO => exact (ra_ HO383.out)); (case aS => exact (below_size hb_)); (case aL => have := LMc18.out; omega); intro v388 w25 ho hb hg hat; rw [← Ny387.out] at ho; have n0_ := Aside0.mk (Kd.R_after (ok := (fun k_ => some k_ ≠ (.slice Ao26 t384.length co26 : Value).ownBlock)) (by (with_reducible repeat (first | apply rA | apply rN | apply rD)); exact Kd.R_mono HO380.out (fun _ hk => ⟨hk.2, hk.1.2⟩)) hg hat); have n1_ := Aside0.mk (Kd.R_after (ok := (fun k_ => some k_ ≠ (.slice Ao23 t378.length co23 : Value).ownBlock)) (by (with_reducible repeat (first | apply rA | apply rN | apply rD)); exact Kd.R_mono HO386.out (fun _ hk => ⟨hk.1.2, hk.2⟩)) hg hat); have n2_ := Aside0.mk (hb); have n3_ := Aside0.mk (ho); clear HO380; clear HO386; clear HB; clear HO383; have HO380 := n0_; have HO386 := n1_; have HB := n2_; have HO389 := n3_; clear n0_ n1_ n2_ n3_; clear ho hb hg hat))
             repeat (go_quiet (first | ((with_reducible refine gate_dst (N := 42) rfl ?_); refine Kd.R_lit k60 _ 60 ?hg (N := 42) ?hd (xs := ([(⟨a0, wrap64 (a0 + x9_1)⟩ : S60)] : List (S60))) (inner := [.int .i64 a0, .int .i64 (wrap64 (a0 + x9_1))]) (ok := fun _ => True) (okp := fun _ => True) ?hr ?hp (fun _ hk => hk) trivial (Below.refl _ _) (Nat.le_refl _) (by simp) ?_; (case hd => rfl); (case hg => rfl); (case hr => first | (go_simp; done) | (go_simp; rfl)); (case hp => exact (Reps.c2 (show Kd.M k60 _ _ _ (⟨a0, wrap64 (a0 + x9_1)⟩ : S60) [.int .i64 a0, .int .i64 (wrap64 (a0 + x9_1))] from (k60_mkM _ _ _ (⟨a0, wrap64 (a0 + x9_1)⟩ : S60) )) (Reps.none _ _))); intro v376 w19 ho20 hb hg_ hnew_; clear hg_ hnew_; (first | rw [← Ny375.out] at ho20 | (simp only [Int.reduceToNat] at ho20; rw [← Ny375.out] at ho20)); have n0_ := Aside0.mk (Kd.R_lower ho20 (below_size hb_)); have n1_ := Aside0.mk (below_step hb_ hb); clear HB; have HO377 := n0_; have HB := n1_; clear n0_ n1_; clear hb ho20) | (go_at_call 55; (with_reducible refine (ih k1 (by have := HK1.out; omega) (wrap64 (a0 + 1)) ji7 (wrap64 (Int.tdiv x2_1 (rd l3 (ji10)))) _ _ l3 t378 _ ?side1 ?side2 A15.out).mono ?_); (case side1 => repeat (first | exact (Kd.C_below HR3.out HB.out) | (with_reducible refine Kd.C_alloc ?_ _) | (with_reducible refine Kd.C_drewN ?_ _) | (with_reducible refine Kd.C_drew ?_))); (case side2 => exact HC3.out); rintro e w21 ⟨v379, rfl, ho0, hb⟩; have n0_ := Aside0.mk (Kd.R_elder' (ra_ HO377.out) (Kd.R_base ho0) hb); have n1_ := Aside0.mk (Kd.R_lower (Kd.R_new' ho0 (Kd.R_lt (ra_ HO377.out))) (below_size hb_)); have n2_ := Aside0.mk (below_step hb_ hb); clear HO377; clear HB; have HO377 := n0_; have HO380 := n1_; have HB := n2_; clear n0_ n1_ n2_; (try clear hb); (try clear hb2); (try clear hk); (try clear hi); (try clear ho0); obtain ⟨Ao23, co23, eo23⟩ := Kd.R_slice HO380.out; subst eo23) | ((with_reducible refine gate_builtin (b := .append) (xs := #[.tmp 43, .tmp 52]) rfl ?_); at_builtin; refine Kd.R_append_rows k60 (w0 := w) w.heap.size rfl (.tmp 43) (.tmp 52) 24 60 (.agg #[(.int .i64 0), (.int .i64 0)]) 16 rfl Try.underlying24 info60 rfl (by decide) (by omega) v376 y375 t378 _ _ _ (fun k_ => some k_ ≠ (.slice Ao23 t378.length co23 : Value).ownBlock) (fun _ => False) rfl rfl ?aO ?aR (fun _ _ h => h) (fun _ h => h.elim) ?aF ?aB ?aS ?aL ?_; (case aR => repeat (first | exact (Kd.R_reads' HO380.out).2.2 | (with_reducible refine Kd.C_alloc ?_ _) | (with_reducible refine Kd.C_drewN ?_ _) | (with_reducible refine Kd.C_drew ?_))); (case aB => exact hb_); (case aF => exact (fun k_ hk => Kd.fresh' (Kd.R_lt (ra_ HO380.out)) k_ hk)); (case aO => exact (by (with_reducible repeat (first | apply rA | apply rN | apply rD)); exact Kd.R_mono HO377.out (fun _ hk => hk.2))); (case aS => exact (below_size hb_)); (case aL => have := LMc16.out; omega); intro v382 w22 ho hb hg hat; rw [← Ny381.out] at ho; have n0_ := Aside0.mk (Kd.R_after (ok := (fun _ => True)) (ra_ HO380.out) hg hat); have n1_ := Aside0.mk (hb); have n2_ := Aside0.mk (ho); clear HO380; clear HB; clear HO377; have HO380 := n0_; have HB := n1_; have HO383 := n2_; clear n0_ n1_ n2_; clear ho hb hg hat) | (go_at_call 55; (with_reducible refine (ih k1 (by have := HK1.out; omega) (wrap64 ((wrap64 (a0 + x9_1)) + 1)) ji10 (Int.tmod x2_1 (rd l3 (ji10))) _ _ l3 t384 _ ?side1 ?side2 A17.out).mono ?_); (case side1 => repeat (first | exact (Kd.C_below HR3.out HB.out) | (with_reducible refine Kd.C_alloc ?_ _) | (with_reducible refine Kd.C_drewN ?_ _) | (with_reducible refine Kd.C_drew ?_))); (case side2 => exact HC3.out); rintro e w24 ⟨v385, rfl, ho0, hb⟩; have n0_ := Aside0.mk (Kd.R_elder' (ra_ HO380.out) (Kd.R_base ho0) hb); have n1_ := Aside0.mk (Kd.R_elder' (ra_ HO383.out) (Kd.R_base ho0) hb); have n2_ := Aside0.mk (Kd.R_lower (Kd.R_new' (Kd.R_new' ho0 (Kd.R_lt (ra_ HO380.out))) (Kd.R_lt (ra_ HO383.out))) (below_size hb_)); have n3_ := Aside0.mk (below_step hb_ hb); clear HO380; clear HO383; clear HB; have HO380 := n0_; have HO383 := n1_; have HO386 := n2_; have HB := n3_; clear n0_ n1_ n2_ n3_; (try clear hb); (try clear hb2); (try clear hk); (try clear hi); (try clear ho0); obtain ⟨Ao26, co26, eo26⟩ := Kd.R_slice HO386.out; subst eo26) | ((with_reducible refine gate_builtin (b := .append) (xs := #[.tmp 54, .tmp 67]) rfl ?_); at_builtin; refine Kd.R_append_rows k60 (w0 := w) w.heap.size rfl (.tmp 54) (.tmp 67) 24 60 (.agg #[(.int .i64 0), (.int .i64 0)]) 16 rfl Try.underlying24 info60 rfl (by decide) (by omega) v382 y381 t384 _ _ _ (fun k_ => some k_ ≠ (.slice Ao23 t378.length co23 : Value).ownBlock ∧ some k_ ≠ (.slice Ao26 t384.length co26 : Value).ownBlock) (fun _ => False) rfl rfl ?aO ?aR (fun _ _ h => h) (fun _ h => h.elim) ?aF ?aB ?aS ?aL ?_; (case aR => repeat (first | exact (Kd.R_reads' HO386.out).2.2 | (with_reducible refine Kd.C_alloc ?_ _) | (with_reducible refine Kd.C_drewN ?_ _) | (with_reducible refine Kd.C_drew ?_))); (case aB => exact hb_); (case aF => exact (fun k_ hk => ⟨Kd.fresh' (Kd.R_lt (ra_ HO380.out)) k_ hk, Kd.fresh' (Kd.R_lt (ra_ HO386.out)) k_ hk⟩)); (case aO => exact (ra_ HO383.out)); (case aS => exact (below_size hb_)); (case aL => have := LMc18.out; omega); intro v388 w25 ho hb hg hat; rw [← Ny387.out] at ho; have n0_ := Aside0.mk (Kd.R_after (ok := (fun k_ => some k_ ≠ (.slice Ao26 t384.length co26 : Value).ownBlock)) (by (with_reducible repeat (first | apply rA | apply rN | apply rD)); exact Kd.R_mono HO380.out (fun _ hk => ⟨hk.2, hk.1.2⟩)) hg hat); have n1_ := Aside0.mk (Kd.R_after (ok := (fun k_ => some k_ ≠ (.slice Ao23 t378.length co23 : Value).ownBlock)) (by (with_reducible repeat (first | apply rA | apply rN | apply rD)); exact Kd.R_mono HO386.out (fun _ hk => ⟨hk.1.2, hk.2⟩)) hg hat); have n2_ := Aside0.mk (hb); have n3_ := Aside0.mk (ho); clear HO380; clear HO386; clear HB; clear HO383; have HO380 := n0_; have HO386 := n1_; have HB := n2_; have HO389 := n3_; clear n0_ n1_ n2_ n3_; clear ho hb hg hat)); try go_wp2_with (first | ((with_reducible refine gate_dst (N := 42) rfl ?_); refine Kd.R_lit k60 _ 60 ?hg (N := 42) ?hd (xs := ([(⟨a0, wrap64 (a0 + x9_1)⟩ : S60)] : List (S60))) (inner := [.int .i64 a0, .int .i64 (wrap64 (a0 + x9_1))]) (ok := fun _ => True) (okp := fun _ => True) ?hr ?hp (fun _ hk => hk) trivial (Below.refl _ _) (Nat.le_refl _) (by simp) ?_; (case hd => rfl); (case hg => rfl); (case hr => first | (go_simp; done) | (go_simp; rfl)); (case hp => exact (Reps.c2 (show Kd.M k60 _ _ _ (⟨a0, wrap64 (a0 + x9_1)⟩ : S60) [.int .i64 a0, .int .i64 (wrap64 (a0 + x9_1))] from (k60_mkM _ _ _ (⟨a0, wrap64 (a0 + x9_1)⟩ : S60) )) (Reps.none _ _))); intro v376 w19 ho20 hb hg_ hnew_; clear hg_ hnew_; (first | rw [← Ny375.out] at ho20 | (simp only [Int.reduceToNat] at ho20; rw [← Ny375.out] at ho20)); have n0_ := Aside0.mk (Kd.R_lower ho20 (below_size hb_)); have n1_ := Aside0.mk (below_step hb_ hb); clear HB; have HO377 := n0_; have HB := n1_; clear n0_ n1_; clear hb ho20) | (go_at_call 55; (with_reducible refine (ih k1 (by have := HK1.out; omega) (wrap64 (a0 + 1)) ji7 (wrap64 (Int.tdiv x2_1 (rd l3 (ji10)))) _ _ l3 t378 _ ?side1 ?side2 A15.out).mono ?_); (case side1 => repeat (first | exact (Kd.C_below HR3.out HB.out) | (with_reducible refine Kd.C_alloc ?_ _) | (with_reducible refine Kd.C_drewN ?_ _) | (with_reducible refine Kd.C_drew ?_))); (case side2 => exact HC3.out); rintro e w21 ⟨v379, rfl, ho0, hb⟩; have n0_ := Aside0.mk (Kd.R_elder' (ra_ HO377.out) (Kd.R_base ho0) hb); have n1_ := Aside0.mk (Kd.R_lower (Kd.R_new' ho0 (Kd.R_lt (ra_ HO377.out))) (below_size hb_)); have n2_ := Aside0.mk (below_step hb_ hb); clear HO377; clear HB; have HO377 := n0_; have HO380 := n1_; have HB := n2_; clear n0_ n1_ n2_; (try clear hb); (try clear hb2); (try clear hk); (try clear hi); (try clear ho0); obtain ⟨Ao23, co23, eo23⟩ := Kd.R_slice HO380.out; subst eo23) | ((with_reducible refine gate_builtin (b := .append) (xs := #[.tmp 43, .tmp 52]) rfl ?_); at_builtin; refine Kd.R_append_rows k60 (w0 := w) w.heap.size rfl (.tmp 43) (.tmp 52) 24 60 (.agg #[(.int .i64 0), (.int .i64 0)]) 16 rfl Try.underlying24 info60 rfl (by decide) (by omega) v376 y375 t378 _ _ _ (fun k_ => some k_ ≠ (.slice Ao23 t378.length co23 : Value).ownBlock) (fun _ => False) rfl rfl ?aO ?aR (fun _ _ h => h) (fun _ h => h.elim) ?aF ?aB ?aS ?aL ?_; (case aR => repeat (first | exact (Kd.R_reads' HO380.out).2.2 | (with_reducible refine Kd.C_alloc ?_ _) | (with_reducible refine Kd.C_drewN ?_ _) | (with_reducible refine Kd.C_drew ?_))); (case aB => exact hb_); (case aF => exact (fun k_ hk => Kd.fresh' (Kd.R_lt (ra_ HO380.out)) k_ hk)); (case aO => exact (by (with_reducible repeat (first | apply rA | apply rN | apply rD)); exact Kd.R_mono HO377.out (fun _ hk => hk.2))); (case aS => exact (below_size hb_)); (case aL => have := LMc16.out; omega); intro v382 w22 ho hb hg hat; rw [← Ny381.out] at ho; have n0_ := Aside0.mk (Kd.R_after (ok := (fun _ => True)) (ra_ HO380.out) hg hat); have n1_ := Aside0.mk (hb); have n2_ := Aside0.mk (ho); clear HO380; clear HB; clear HO377; have HO380 := n0_; have HB := n1_; have HO383 := n2_; clear n0_ n1_ n2_; clear ho hb hg hat) | (go_at_call 55; (with_reducible refine (ih k1 (by have := HK1.out; omega) (wrap64 ((wrap64 (a0 + x9_1)) + 1)) ji10 (Int.tmod x2_1 (rd l3 (ji10))) _ _ l3 t384 _ ?side1 ?side2 A17.out).mono ?_); (case side1 => repeat (first | exact (Kd.C_below HR3.out HB.out) | (with_reducible refine Kd.C_alloc ?_ _) | (with_reducible refine Kd.C_drewN ?_ _) | (with_reducible refine Kd.C_drew ?_))); (case side2 => exact HC3.out); rintro e w24 ⟨v385, rfl, ho0, hb⟩; have n0_ := Aside0.mk (Kd.R_elder' (ra_ HO380.out) (Kd.R_base ho0) hb); have n1_ := Aside0.mk (Kd.R_elder' (ra_ HO383.out) (Kd.R_base ho0) hb); have n2_ := Aside0.mk (Kd.R_lower (Kd.R_new' (Kd.R_new' ho0 (Kd.R_lt (ra_ HO380.out))) (Kd.R_lt (ra_ HO383.out))) (below_size hb_)); have n3_ := Aside0.mk (below_step hb_ hb); clear HO380; clear HO383; clear HB; have HO380 := n0_; have HO383 := n1_; have HO386 := n2_; have HB := n3_; clear n0_ n1_ n2_ n3_; (try clear hb); (try clear hb2); (try clear hk); (try clear hi); (try clear ho0); obtain ⟨Ao26, co26, eo26⟩ := Kd.R_slice HO386.out; subst eo26) | ((with_reducible refine gate_builtin (b := .append) (xs := #[.tmp 54, .tmp 67]) rfl ?_); at_builtin; refine Kd.R_append_rows k60 (w0 := w) w.heap.size rfl (.tmp 54) (.tmp 67) 24 60 (.agg #[(.int .i64 0), (.int .i64 0)]) 16 rfl Try.underlying24 info60 rfl (by decide) (by omega) v382 y381 t384 _ _ _ (fun k_ => some k_ ≠ (.slice Ao23 t378.length co23 : Value).ownBlock ∧ some k_ ≠ (.slice Ao26 t384.length co26 : Value).ownBlock) (fun _ => False) rfl rfl ?aO ?aR (fun _ _ h => h) (fun _ h => h.elim) ?aF ?aB ?aS ?aL ?_; (case aR => repeat (first | exact (Kd.R_reads' HO386.out).2.2 | (with_reducible refine Kd.C_alloc ?_ _) | (with_reducible refine Kd.C_drewN ?_ _) | (with_reducible refine Kd.C_drew ?_))); (case aB => exact hb_); (case aF => exact (fun k_ hk => ⟨Kd.fresh' (Kd.R_lt (ra_ HO380.out)) k_ hk, Kd.fresh' (Kd.R_lt (ra_ HO386.out)) k_ hk⟩)); (case aO => exact (ra_ HO383.out)); (case aS => exact (below_size hb_)); (case aL => have := LMc18.out; omega); intro v388 w25 ho hb hg hat; rw [← Ny387.out] at ho; have n0_ := Aside0.mk (Kd.R_after (ok := (fun k_ => some k_ ≠ (.slice Ao26 t384.length co26 : Value).ownBlock)) (by (with_reducible repeat (first | apply rA | apply rN | apply rD)); exact Kd.R_mono HO380.out (fun _ hk => ⟨hk.2, hk.1.2⟩)) hg hat); have n1_ := Aside0.mk (Kd.R_after (ok := (fun k_ => some k_ ≠ (.slice Ao23 t378.length co23 : Value).ownBlock)) (by (with_reducible repeat (first | apply rA | apply rN | apply rD)); exact Kd.R_mono HO386.out (fun _ hk => ⟨hk.1.2, hk.2⟩)) hg hat); have n2_ := Aside0.mk (hb); have n3_ := Aside0.mk (ho); clear HO380; clear HO386; clear HB; clear HO383; have HO380 := n0_; have HO386 := n1_; have HB := n2_; have HO389 := n3_; clear n0_ n1_ n2_ n3_; clear ho hb hg hat)))
             go_ret
             exact ⟨_, by first | rfl | (simp [errW_none, errW_some] <;> rfl) | (simp only [← hji7, ← hji10]; first | rfl | (simp [errW_none, errW_some] <;> rfl)) | (simp [*, errW_none, errW_some] <;> rfl), by (with_reducible repeat (first | apply rA | apply rN | apply rD)); exact Kd.R_mono HO389.out (fun _ hk => trivial), hb_⟩
            ·rw [if_neg c18] at H
             exact absurd H (by simp)
           ·rw [if_neg c16] at H
            exact absurd H (by simp)
         ·rw [if_neg c13] at H
          have c13b0 : decide (x2_1 < (wrap64 ((rd l3 (ji7)) * (rd l3 (ji10))))) = false := decide_eq_false c13
          clear c13
          have H' := Aside0.mk H
          clear H
          have p373 : 0 ≤ ((ji7) : Int) := of_decide_eq_true (by assumption)
          have q373 : (ji7) < (l3.length : Int) := of_decide_eq_true (by assumption)
          obtain ⟨ad373, e373, hx373_0⟩ := Kd.at_int HR3.out (ji7) p373 q373
          cases e373
          replace hx373_0 := (HB.out.cell (World.block_lt_of_cell? w _ hx373_0)).trans hx373_0
          replace p373 := eq_true p373
          replace q373 := eq_true q373
          have p374 : 0 ≤ ((ji10) : Int) := of_decide_eq_true (by assumption)
          have q374 : (ji10) < (l3.length : Int) := of_decide_eq_true (by assumption)
          obtain ⟨ad374, e374, hx374_0⟩ := Kd.at_int HR3.out (ji10) p374 q374
          obtain rfl : ad373 = ad374 := (by injection e374)
          replace hx374_0 := (HB.out.cell (World.block_lt_of_cell? w _ hx374_0)).trans hx374_0
          replace p374 := eq_true p374
          replace q374 := eq_true q374
          go_wp2
          repeat (go_quiet (fail); try go_wp2)
          go_roundg k1
          case measure => have := HK1.out; omega
          case rel => exact ⟨(wrap64 (x2_1 - (wrap64 ((rd l3 (ji7)) * (rd l3 (ji10)))))), (wrap64 (x9_1 + 2)), (by first | rfl | (simp; done) | (simp only [← hji7, ← hji10] <;> (first | rfl | simp)) | (simp [*]; done)), (by first | rfl | (simp; done) | (simp [*]; done)), H', ⟨by have := HK1.out; omega⟩, ⟨hb_⟩⟩
        ·rw [if_neg c12] at H
         exact absurd H (by simp)
       ·rw [if_neg c11] at H
        exact absurd H (by simp)
      ·rw [if_neg c9] at H
       exact absurd H (by simp)
     ·rw [if_neg c8] at H
      exact absurd H (by simp)
    ·rw [if_neg c6] at H
     have c6b0 : decide (x9_1 < a1) = false := decide_eq_false c6
     clear c6
     obtain rfl := oI H
     go_wp2
     repeat (go_quiet (fail); try go_wp2)
     go_ret
     exact ⟨_, by first | rfl | (simp [errW_none, errW_some] <;> rfl) | (simp [*, errW_none, errW_some] <;> rfl), by first | exact Kd.R_nil _ _ _ _ _ | exact Kd.N_nil _ _ _ _ _ | exact Kd.V_nil _ _ _ _ _ | exact Kd.Q_nil _ _ _ _ _ | exact Kd.S_nil _ _ _ _ _, hb_⟩
mutual
def spec_cdPlane.l0 : Nat → Int → List Int → Int → Option (List Int)
 | 0, _, _, _ => none
 | k + 1, x0, x3, x4 => if x4 ≤ x0 then (spec_cdPlane.l1 k x0 x3 x4 1) else (some x3)
def spec_cdPlane.l1 : Nat → Int → List Int → Int → Int → Option (List Int)
 | 0, _, _, _, _ => none
 | k + 1, x0, x3, x4, x5 => if x5 < x4 then (if 0 ≤ x4 then (if x4 < (x3.length : Int) then (if 0 ≤ (wrap64 (x5 - 1)) then (if (wrap64 (x5 - 1)) < (x3.length : Int) then (if 0 ≤ (wrap64 ((wrap64 (x4 - 1)) - x5)) then (if (wrap64 ((wrap64 (x4 - 1)) - x5)) < (x3.length : Int) then (spec_cdPlane.l1 k x0 (x3.set (x4 : Int).toNat (wrap64 ((rd x3 x4) + (wrap64 ((rd x3 (wrap64 (x5 - 1))) * (rd x3 (wrap64 ((wrap64 (x4 - 1)) - x5)))))))) x4 (wrap64 (x5 + 2))) else (none)) else (none)) else (none)) else (none)) else (none)) else (none)) else (spec_cdPlane.l0 k x0 x3 (wrap64 (x4 + 2)))
end
def spec_cdPlane.f (k : Nat) (a0 : Int) : Option (List Int) := if 0 ≤ (wrap64 (a0 + 1)) then (if (wrap64 (a0 + 1) : Int).toNat ≤ 35184372088832 then ((some (List.replicate (wrap64 (a0 + 1) : Int).toNat 0 : List Int)).bind fun y390 => (if 0 < (y390.length : Int) then (spec_cdPlane.l0 k a0 (y390.set (0 : Int).toNat 1) 2) else (none))) else (none)) else (none)
theorem spec_cdPlane.mono_l : ∀ k, (∀ y0 y1 y2, LeO (spec_cdPlane.l0 k y0 y1 y2) (spec_cdPlane.l0 (k + 1) y0 y1 y2)) ∧ (∀ y0 y1 y2 y3, LeO (spec_cdPlane.l1 k y0 y1 y2 y3) (spec_cdPlane.l1 (k + 1) y0 y1 y2 y3))
 | 0 => ⟨fun _ _ _ r h => by simp [spec_cdPlane.l0] at h, fun _ _ _ _ r h => by simp [spec_cdPlane.l1] at h⟩
 | k + 1 => by
  obtain ⟨ih0, ih1⟩ := spec_cdPlane.mono_l k
  refine ⟨?_, ?_⟩
  ·intro y0 y1 y2
   unfold spec_cdPlane.l0
   repeat' first
   | (with_reducible exact ih0 _ _ _)
   | (with_reducible exact ih1 _ _ _ _)
   | (with_reducible exact LeO.refl _)
   | (with_reducible exact LeO.none _)
   | (with_reducible refine LeO.ite ?_ ?_)
   | (with_reducible refine LeO.bind ?_ (fun _ => ?_))
   | exact ih0 _ _ _
   | exact ih1 _ _ _ _
   | exact LeO.none _
   | refine LeO.ite ?_ ?_
   | refine LeO.bind ?_ (fun _ => ?_)
  ·intro y0 y1 y2 y3
   unfold spec_cdPlane.l1
   repeat' first
   | (with_reducible exact ih0 _ _ _)
   | (with_reducible exact ih1 _ _ _ _)
   | (with_reducible exact LeO.refl _)
   | (with_reducible exact LeO.none _)
   | (with_reducible refine LeO.ite ?_ ?_)
   | (with_reducible refine LeO.bind ?_ (fun _ => ?_))
   | exact ih0 _ _ _
   | exact ih1 _ _ _ _
   | exact LeO.none _
   | refine LeO.ite ?_ ?_
   | refine LeO.bind ?_ (fun _ => ?_)
theorem spec_cdPlane.mono : ∀ a0 k, LeO (spec_cdPlane.f k a0) (spec_cdPlane.f (k + 1) a0) := by
 intro a0 k
 obtain ⟨ih0, ih1⟩ := spec_cdPlane.mono_l k
 unfold spec_cdPlane.f
 repeat' first
   | (with_reducible exact ih0 _ _ _)
   | (with_reducible exact ih1 _ _ _ _)
   | (with_reducible exact LeO.refl _)
   | (with_reducible exact LeO.none _)
   | (with_reducible refine LeO.ite ?_ ?_)
   | (with_reducible refine LeO.bind ?_ (fun _ => ?_))
   | exact ih0 _ _ _
   | exact ih1 _ _ _ _
   | exact LeO.none _
   | refine LeO.ite ?_ ?_
   | refine LeO.bind ?_ (fun _ => ?_)
def spec_cdPlane.T9 : Bool × List (List Nat × List Nat) := (true, [([], []), ([], []), ([0, 1], [0, 1]), ([2], [2]), ([], []), ([], []), ([5], [5]), ([4, 6], [4, 6]), ([7], [7]), ([], []), ([], []), ([10], [10]), ([], []), ([11, 12], [11, 12]), ([9, 13], [9, 13]), ([14], [14]), ([8, 15], [8, 15]), ([3, 16], [3, 16]), ([0, 1, 0, 1, 2, 3, 4, 5, 6, 7, 8, 9, 10, 11, 12, 13, 14, 15, 16, 17], [0, 1]), ([18, 17, 0, 1, 2, 3, 4, 5, 6, 7, 8, 9, 10, 11, 12, 13, 14, 15, 16, 17], [17, 18])])
def spec_cdPlane.B9 : List Nat := [0, 0, 3, 7, 0, 0, 32, 112, 240, 0, 0, 1024, 0, 7168, 15872, 32256, 65520, 131071, 262143, 524287]
theorem spec_cdPlane.tab9 : rtab .any (opsOf Try.f56 9) = spec_cdPlane.T9 := by kernel_rfl
theorem spec_cdPlane.bits9 : waitsOk spec_cdPlane.T9.2 spec_cdPlane.B9 = true := by kernel_rfl
set_option maxHeartbeats 8000000 in
set_option maxRecDepth 100000 in
theorem spec_cdPlane.calls (k : Nat) (a0 : Int) (r : List Int) (w : World) (h : spec_cdPlane.f k a0 = some r) :
  Calls Try.prog 56 #[.int .i64 a0] w fun e w' => ∃ v0_ : Value, e = .returned (v0_) ∧ Kd.R (Kd.int .i64) 3 w' w.heap.size (fun _ => True) v0_ r ∧ Below w.heap.size w w' := by
 have HB := Aside0.mk (Below.refl w.heap.size w)
 have H : (if 0 ≤ (wrap64 (a0 + 1)) then (if (wrap64 (a0 + 1) : Int).toNat ≤ 35184372088832 then ((some (List.replicate (wrap64 (a0 + 1) : Int).toNat 0 : List Int)).bind fun y390 => (if 0 < (y390.length : Int) then (spec_cdPlane.l0 k a0 (y390.set (0 : Int).toNat 1) 2) else (none))) else (none)) else (none)) = some r := h
 clear h
 obtain ⟨ji2, hji2⟩ : ∃ j_ : Int, (wrap64 (a0 + 1)) = j_ := ⟨_, rfl⟩
 replace H : (if 0 ≤ (ji2) then (if (ji2 : Int).toNat ≤ 35184372088832 then ((some (List.replicate (ji2 : Int).toNat 0 : List Int)).bind fun y390 => (if 0 < (y390.length : Int) then (spec_cdPlane.l0 k a0 (y390.set (0 : Int).toNat 1) 2) else (none))) else (none)) else (none)) = some r := by first | (rw [hji2] at H; exact H) | (simp only [hji2] at H ⊢; exact H)
 have hji2w : (IntKind.i64.wrap (a0 + 1)) = ji2 := (i64_w _).trans hji2
 by_cases c3 : 0 ≤ (ji2)
 ·rw [if_pos c3] at H
  have c3b0 := eq_true c3
  have c3b1 : decide (0 ≤ (ji2)) = true := decide_eq_true c3
  clear c3
  by_cases c4 : (ji2 : Int).toNat ≤ 35184372088832
  ·rw [if_pos c4] at H
   have c4b0 := eq_true c4
   have c4b1 : decide ((ji2 : Int).toNat ≤ 35184372088832) = true := decide_eq_true c4
   clear c4
   obtain ⟨y390, hy390⟩ : ∃ y_ : List Int, y_ = (List.replicate (ji2 : Int).toNat 0) := ⟨_, rfl⟩
   replace H : (if 0 < (y390.length : Int) then (spec_cdPlane.l0 k a0 (y390.set (0 : Int).toNat 1) 2) else (none)) = some r := by first | (rw [hy390]; with_reducible exact H) | (have H2_ := (Option.bind_some _ _).symm.trans H; rw [hy390]; with_reducible exact H2_) | (have H2_ := (Option.bind_some _ _).symm.trans H; with_reducible exact H2_) | with_reducible exact H | (rw [hy390]; exact H) | exact H
   have Ny390 := Aside0.mk hy390
   clear hy390
   by_cases c5 : 0 < (y390.length : Int)
   ·rw [if_pos c5] at H
    have c5b0 : decide (0 < (y390.length : Int)) = true := decide_eq_true c5
    have c5b1 : decide (0 < y390.length) = true := decide_eq_true (by omega)
    clear c5
    obtain ⟨y393, hy393⟩ : ∃ y_ : List Int, y_ = (y390.set (0 : Int).toNat 1) := ⟨_, rfl⟩
    replace H : (spec_cdPlane.l0 k a0 y393 2) = some r := by first | (rw [hy393]; with_reducible exact H) | (have H2_ := (Option.bind_some _ _).symm.trans H; rw [hy393]; with_reducible exact H2_) | (have H2_ := (Option.bind_some _ _).symm.trans H; with_reducible exact H2_) | with_reducible exact H | (rw [hy393]; exact H) | exact H
    have Ny393 := Aside0.mk hy393
    clear hy393
    have H' := Aside0.mk H
    clear H
    go_enter Try.func56, Try.ntmps56
    go_wp2_with (first | ((with_reducible refine gate_dst (N := 8) rfl ?_); refine Kd.R_make (Kd.int .i64) _ 3 rfl (N := 8) rfl 70 _ _ rfl ji2 rfl rfl Try.underlying70 (.int .i64 0) 8 info3 rfl (by decide) (by omega) 0 (ok := fun _ => True) (okp := fun _ => True) rfl (fun _ hk => hk) trivial (of_decide_eq_true (by assumption)) (Nat.le_trans (Nat.mul_le_mul_right _ (of_decide_eq_true (by assumption) : ji2.toNat ≤ 35184372088832)) (by omega)) (Below.refl _ _) (Nat.le_refl _) ?_; intro v391 w7 ho8 hb hg_ hnew_; clear hg_ hnew_; (first | rw [← Ny390.out] at ho8 | (simp only [Int.reduceToNat] at ho8; rw [← Ny390.out] at ho8)); have n0_ := Aside0.mk (Kd.R_lower ho8 (below_size hb_)); have n1_ := Aside0.mk (below_step hb_ hb); clear HB; have HO392 := n0_; have HB := n1_; clear n0_ n1_; clear hb ho8; have p6 : 0 ≤ (0 : Int) := (by omega); have q6 : (0 : Int) < ((y390.length : Int) : Int) := of_decide_eq_true (by assumption); have qi6 : (0 < y390.length) = True := eq_true (by omega); obtain ⟨go6, co6, eo6, gb6, gl6, cl6, HG6⟩ := Kd.R_form HO392.out (by omega); (first | cases eo6 | (injection eo6 with ea_ en_ ec_; (first | subst ea_ | (injection ea_ with ea_; subst ea_)); subst ec_; clear en_)); have GB6 := Aside0.mk gb6; have GG6 := Aside0.mk HG6; clear gb6 gl6 HG6; obtain ⟨hx6_0, hf6_0⟩ := Kd.R_celln 0 HO392.out (0 : Int) p6 q6; (try rw [show ((0 : Int)).toNat = 0 from rfl] at hx6_0); (try simp only [Nat.reduceMul, Nat.zero_mul, Nat.zero_add, Nat.reduceAdd] at hx6_0); (try rw [show ((0 : Int)).toNat = 0 from rfl] at hf6_0); (try simp only [Nat.reduceMul, Nat.zero_mul, Nat.zero_add, Nat.reduceAdd] at hf6_0); replace p6 := eq_true p6; replace q6 := eq_true q6; obtain ⟨hy9_, hz9_⟩ := Kd.R_celln 0 HO392.out (0 : Int) (by omega) (of_decide_eq_true (by assumption)); (try simp only [Int.reduceToNat, Int.toNat_zero, Int.toNat_ofNat, Nat.reduceMul, Nat.zero_mul, Nat.zero_add] at hy9_ hz9_); (try rw [show ((0 : Int)).toNat = 0 from rfl] at hy9_); (try rw [show ((0 : Int)).toNat = 0 from rfl] at hz9_); have HP9 := Kd.R_putg HO392.out (0 : Int) 1) | ((with_reducible refine gate_store (t := 3) (p := 10) rfl ?_); refine store_event (t := 3) (p := 10) (v := ?vo_w10) (w1 := (w7.setCell ⟨go6, (0 : Int).toNat, none⟩ (.int .i64 1))) ?hg ?ho ?hn ?hr ?_; (case ho => rfl); (case hg => rfl); (case hn => rfl); (case hr => first | (go_simp; done) | (go_simp; rfl)); intro w10 hw; have hg : w7.grownBy w10 (some go6) := (by rw [hw]; exact HP9.2); have hp_ : Kd.R (Kd.int .i64) 3 w10 w.heap.size (fun _ => True) (.slice (some ⟨go6, 0, none⟩) y390.length co6) y393 := (by rw [hw, Ny393.out]; exact HP9.1); clear HP9; have n0_ := Aside0.mk (hp_); have n1_ := Aside0.mk ((by rw [hw]; exact below_set (HB.out) GB6.out : Below w.heap.size w w10)); clear HO392; clear HB; have HO392 := n0_; have HB := n1_; clear n0_ n1_; clear hg hw hp_))
    go_loopg [4] k (fun kq v4 w' => ∃ (x3_1 : List Int) (x4_1 : Int), v4 = .int .i64 x4_1 ∧ Aside0 (spec_cdPlane.l0 kq a0 x3_1 x4_1 = some r) ∧ Aside0 (kq ≤ k) ∧ Aside0 (Kd.R (Kd.int .i64) 3 w' w.heap.size (fun _ => True) (.slice (some ⟨go6, 0, none⟩) y390.length co6) x3_1) ∧ Aside0 (Below w.heap.size w w'))
    case atStart => exact ⟨(y393), (2), (by first | rfl | (simp; done) | (simp [*]; done)), H', ⟨Nat.le_refl _⟩, ⟨by (with_reducible repeat (first | apply rA | apply rN | apply rD)); exact HO392.out⟩, ⟨hb_⟩⟩
    case round =>
     clear H'
     try clear p2
     try clear c3
     try clear c3b0
     try clear c3b1
     try clear c4
     try clear c4b0
     try clear c4b1
     try clear c5
     try clear c5b0
     try clear c5b1
     try clear p6
     try clear q6
     try clear hx6
     try clear qi6
     try clear hf6
     try clear hx6_0
     try clear p6
     try clear q6
     obtain ⟨x3_1, x4_1, rfl, HA, HK1, HO_3, HB⟩ := hrel
     have hl3_1 := (Kd.R_reads' HO_3.out).1
     rw [hl3_1] at HO_3
     (try simp only [hl3_1])
     cases gk with
     | zero => exact absurd HA.out (by simp [spec_cdPlane.l0])
     | succ k1 =>
      have H := HA.out
      clear HA
      simp only [spec_cdPlane.l0] at H
      by_cases c11 : x4_1 ≤ a0
      ·rw [if_pos c11] at H
       have c11b0 : decide (x4_1 ≤ a0) = true := decide_eq_true c11
       clear c11
       have H' := Aside0.mk H
       clear H
       go_wp2
       go_loopg [5] k1 (fun kq v5 w' => ∃ (x3_2 : List Int) (x5_2 : Int), v5 = .int .i64 x5_2 ∧ Aside0 (spec_cdPlane.l1 kq a0 x3_2 x4_1 x5_2 = some r) ∧ Aside0 (kq ≤ k1) ∧ Aside0 (Kd.R (Kd.int .i64) 3 w' w.heap.size (fun _ => True) (.slice (some ⟨go6, 0, none⟩) x3_1.length co6) x3_2) ∧ Aside0 (Below w.heap.size w w'))
       case atStart => exact ⟨(x3_1), (1), (by first | rfl | (simp; done) | (simp [*]; done)), H', ⟨Nat.le_refl _⟩, ⟨by (try simp only [hl3_1]); (with_reducible repeat (first | apply rA | apply rN | apply rD)); exact HO_3.out⟩, ⟨hb_⟩⟩
       case round =>
        clear H'
        try clear c1
        try clear p2
        try clear c3
        try clear c3b0
        try clear c3b1
        try clear c4
        try clear c4b0
        try clear c4b1
        try clear c5
        try clear c5b0
        try clear c5b1
        try clear p6
        try clear q6
        try clear hx6
        try clear qi6
        try clear hf6
        try clear c11
        try clear c11b0
        try clear hx6_0
        try clear p2
        try clear p6
        try clear q6
        obtain ⟨x3_2, x5_2, rfl, HA, HK2, HO_3, HB⟩ := hrel
        have hl3_2 := (Kd.R_reads' HO_3.out).1
        rw [hl3_2] at HO_3
        (try simp only [hl3_2])
        cases gk with
        | zero => exact absurd HA.out (by simp [spec_cdPlane.l1])
        | succ k2 =>
         have H := HA.out
         clear HA
         simp only [spec_cdPlane.l1] at H
         by_cases c12 : x5_2 < x4_1
         ·rw [if_pos c12] at H
          have c12b0 : decide (x5_2 < x4_1) = true := decide_eq_true c12
          clear c12
          by_cases c13 : 0 ≤ x4_1
          ·rw [if_pos c13] at H
           have c13b0 : decide (0 ≤ x4_1) = true := decide_eq_true c13
           clear c13
           by_cases c14 : x4_1 < (x3_2.length : Int)
           ·rw [if_pos c14] at H
            have c14b0 : decide (x4_1 < (x3_2.length : Int)) = true := decide_eq_true c14
            clear c14
            obtain ⟨ji15, hji15⟩ : ∃ j_ : Int, (wrap64 (x5_2 - 1)) = j_ := ⟨_, rfl⟩
            replace H : (if 0 ≤ (ji15) then (if (ji15) < (x3_2.length : Int) then (if 0 ≤ (wrap64 ((wrap64 (x4_1 - 1)) - x5_2)) then (if (wrap64 ((wrap64 (x4_1 - 1)) - x5_2)) < (x3_2.length : Int) then (spec_cdPlane.l1 k2 a0 (x3_2.set (x4_1 : Int).toNat (wrap64 ((rd x3_2 x4_1) + (wrap64 ((rd x3_2 (ji15)) * (rd x3_2 (wrap64 ((wrap64 (x4_1 - 1)) - x5_2)))))))) x4_1 (wrap64 (x5_2 + 2))) else (none)) else (none)) else (none)) else (none)) = some r := by first | (rw [hji15] at H; exact H) | (simp only [hji15] at H ⊢; exact H)
            have hji15w : (IntKind.i64.wrap (x5_2 - 1)) = ji15 := (i64_w _).trans hji15
            by_cases c16 : 0 ≤ (ji15)
            ·rw [if_pos c16] at H
             have c16b0 : decide (0 ≤ (ji15)) = true := decide_eq_true c16
             clear c16
             by_cases c17 : (ji15) < (x3_2.length : Int)
             ·rw [if_pos c17] at H
              have c17b0 : decide ((ji15) < (x3_2.length : Int)) = true := decide_eq_true c17
              clear c17
              obtain ⟨ji18, hji18⟩ : ∃ j_ : Int, (wrap64 ((wrap64 (x4_1 - 1)) - x5_2)) = j_ := ⟨_, rfl⟩
              replace H : (if 0 ≤ (ji18) then (if (ji18) < (x3_2.length : Int) then (spec_cdPlane.l1 k2 a0 (x3_2.set (x4_1 : Int).toNat (wrap64 ((rd x3_2 x4_1) + (wrap64 ((rd x3_2 (ji15)) * (rd x3_2 (ji18))))))) x4_1 (wrap64 (x5_2 + 2))) else (none)) else (none)) = some r := by first | (rw [hji18] at H; exact H) | (simp only [hji18] at H ⊢; exact H)
              have hji18w : (IntKind.i64.wrap ((wrap64 (x4_1 - 1)) - x5_2)) = ji18 := (i64_w _).trans hji18
              by_cases c19 : 0 ≤ (ji18)
              ·rw [if_pos c19] at H
               have c19b0 : decide (0 ≤ (ji18)) = true := decide_eq_true c19
               clear c19
               by_cases c20 : (ji18) < (x3_2.length : Int)
               ·rw [if_pos c20] at H
                have c20b0 : decide ((ji18) < (x3_2.length : Int)) = true := decide_eq_true c20
                clear c20
                obtain ⟨y397, hy397⟩ : ∃ y_ : List Int, y_ = (x3_2.set (x4_1 : Int).toNat (wrap64 ((rd x3_2 x4_1) + (wrap64 ((rd x3_2 (ji15)) * (rd x3_2 (ji18))))))) := ⟨_, rfl⟩
                replace H : (spec_cdPlane.l1 k2 a0 y397 x4_1 (wrap64 (x5_2 + 2))) = some r := by first | (rw [hy397]; with_reducible exact H) | (have H2_ := (Option.bind_some _ _).symm.trans H; rw [hy397]; with_reducible exact H2_) | (have H2_ := (Option.bind_some _ _).symm.trans H; with_reducible exact H2_) | with_reducible exact H | (rw [hy397]; exact H) | exact H
                have Ny397 := Aside0.mk hy397
                clear hy397
                have H' := Aside0.mk H
                clear H
                try go_wp2
                have n0_ := Aside0.mk (Kd.R_drew HO_3.out)
                have n1_ := Aside0.mk (below_drew1 HB.out)
                clear HO_3
                clear HB
                have HO_3 := n0_
                have HB := n1_
                clear n0_ n1_
                have p394 : 0 ≤ (x4_1 : Int) := of_decide_eq_true (by assumption)
                have q394 : x4_1 < (x3_2.length : Int) := of_decide_eq_true (by assumption)
                obtain ⟨ad394, e394, hx394_0⟩ := Kd.at_int (Kd.R_reads' HO_3.out).2.2 x4_1 p394 q394
                obtain rfl : (⟨go6, 0, none⟩ : Addr) = ad394 := (by injection e394)
                (first | simp only [add_plain] at hx394_0 | simp only [add_at] at hx394_0 | simp only [Addr.add, Nat.zero_add] at hx394_0 | skip)
                replace p394 := eq_true p394
                replace q394 := eq_true q394
                have p395 : 0 ≤ ((ji15) : Int) := of_decide_eq_true (by assumption)
                have q395 : (ji15) < (x3_2.length : Int) := of_decide_eq_true (by assumption)
                obtain ⟨ad395, e395, hx395_0⟩ := Kd.at_int (Kd.R_reads' HO_3.out).2.2 (ji15) p395 q395
                obtain rfl : (⟨go6, 0, none⟩ : Addr) = ad395 := (by injection e395)
                (first | simp only [add_plain] at hx395_0 | simp only [add_at] at hx395_0 | simp only [Addr.add, Nat.zero_add] at hx395_0 | skip)
                replace p395 := eq_true p395
                replace q395 := eq_true q395
                have p396 : 0 ≤ ((ji18) : Int) := of_decide_eq_true (by assumption)
                have q396 : (ji18) < (x3_2.length : Int) := of_decide_eq_true (by assumption)
                obtain ⟨ad396, e396, hx396_0⟩ := Kd.at_int (Kd.R_reads' HO_3.out).2.2 (ji18) p396 q396
                obtain rfl : (⟨go6, 0, none⟩ : Addr) = ad396 := (by injection e396)
                (first | simp only [add_plain] at hx396_0 | simp only [add_at] at hx396_0 | simp only [Addr.add, Nat.zero_add] at hx396_0 | skip)
                replace p396 := eq_true p396
                replace q396 := eq_true q396
                have p21 : 0 ≤ (x4_1 : Int) := of_decide_eq_true (by assumption)
                have q21 : (x4_1 : Int) < ((x3_2.length : Int) : Int) := of_decide_eq_true (by assumption)
                obtain ⟨hx21_0, hf21_0⟩ := Kd.R_celln 0 HO_3.out (x4_1 : Int) p21 q21
                replace p21 := eq_true p21
                replace q21 := eq_true q21
                have HP23 := Kd.R_putn HO_3.out (x4_1 : Int) (wrap64 ((rd x3_2 x4_1) + (wrap64 ((rd x3_2 (ji15)) * (rd x3_2 (ji18))))))
                rw [← Ny397.out] at HP23
                have HQ23 := Aside0.mk HP23
                clear HP23
                refine start_ (n := 20) (S := fun w' => w'.cell? ⟨go6, (x4_1).toNat, none⟩ = some (.int .i64 (rd x3_2 x4_1)) ∧ w'.cell? ⟨go6, ((ji15)).toNat, none⟩ = some (.int .i64 (rd x3_2 (ji15))) ∧ w'.cell? ⟨go6, ((ji18)).toNat, none⟩ = some (.int .i64 (rd x3_2 (ji18)))) (ds := [19]) #[false, false, false, false, false, false, false, false, false, false, false, false, false, false, false, false, false, false, false, false] (by kernel_rfl) rfl rfl ⟨hx394_0, hx395_0, hx396_0⟩ (fun hHeld => ?_); refine with_tabW spec_cdPlane.tab9 spec_cdPlane.bits9 (fun HT_ HW_ => ?_)
                generalize wr.drew = w22 at HO_3 HB HQ23 hf21_0 hx21_0 hx394_0 hx395_0 hx396_0 hHeld ⊢
                refine pure_ (i := 0) (N := some 21) (v := ?_) (a' := ?_) #[true, false, false, false, false, false, false, false, false, false, false, false, false, false, false, false, false, false, false, false] rfl rfl (any_of HT_.out (by kernel_rfl)) (fun _ _ _ h => h) (Or.inl ⟨by rfl, ?_⟩) ?_ ?_
                rotate_left
                ·intro w'
                 go_simp
                 with_reducible rfl
                rotate_left
                ·simp only [Act.put, sT, sZ, sS, i64_w, i32_w]
                 rfl
                refine pure_ (i := 1) (N := some 22) (v := ?_) (a' := ?_) #[true, true, false, false, false, false, false, false, false, false, false, false, false, false, false, false, false, false, false, false] rfl rfl (any_of HT_.out (by kernel_rfl)) (fun _ _ _ h => h) (Or.inl ⟨by rfl, ?_⟩) ?_ ?_
                rotate_left
                ·intro w'
                 go_simp
                 with_reducible rfl
                rotate_left
                ·simp only [Act.put, sT, sZ, sS, i64_w, i32_w]
                 rfl
                refine pure_ (i := 2) (N := some 23) (v := ?_) (a' := ?_) #[true, true, true, false, false, false, false, false, false, false, false, false, false, false, false, false, false, false, false, false] rfl rfl (any_of HT_.out (by kernel_rfl)) (fun _ _ _ h => h) (Or.inl ⟨by rfl, ?_⟩) ?_ ?_
                rotate_left
                ·intro w'
                 go_simp
                 with_reducible rfl
                rotate_left
                ·simp only [Act.put, sT, sZ, sS, i64_w, i32_w]
                 rfl
                refine pure_ (i := 4) (N := some 25) (v := ?_) (a' := ?_) #[true, true, true, false, true, false, false, false, false, false, false, false, false, false, false, false, false, false, false, false] rfl rfl (any_of HT_.out (by kernel_rfl)) (fun _ _ _ h => h) (Or.inl ⟨by rfl, ?_⟩) ?_ ?_
                rotate_left
                ·intro w'
                 go_simp
                 with_reducible rfl
                rotate_left
                ·simp only [Act.put, sT, sZ, sS, i64_w, i32_w]
                 rfl
                refine pure_ (i := 5) (N := some 26) (v := ?_) (a' := ?_) #[true, true, true, false, true, true, false, false, false, false, false, false, false, false, false, false, false, false, false, false] rfl rfl (any_of HT_.out (by kernel_rfl)) (fun _ _ _ h => h) (Or.inl ⟨by rfl, ?_⟩) ?_ ?_
                rotate_left
                ·intro w'
                 go_simp
                 with_reducible rfl
                rotate_left
                ·simp only [Act.put, sT, sZ, sS, i64_w, i32_w]
                 rfl
                refine pure_ (i := 6) (N := some 27) (v := ?_) (a' := ?_) #[true, true, true, false, true, true, true, false, false, false, false, false, false, false, false, false, false, false, false, false] rfl rfl (any_of HT_.out (by kernel_rfl)) (fun _ _ _ h => h) (Or.inl ⟨by rfl, ?_⟩) ?_ ?_
                rotate_left
                ·intro w'
                 go_simp
                 with_reducible rfl
                rotate_left
                ·simp only [Act.put, sT, sZ, sS, i64_w, i32_w]
                 rfl
                refine pure_ (i := 7) (N := some 28) (v := ?_) (a' := ?_) #[true, true, true, false, true, true, true, true, false, false, false, false, false, false, false, false, false, false, false, false] rfl rfl (any_of HT_.out (by kernel_rfl)) (fun _ _ _ h => h) (Or.inl ⟨by rfl, ?_⟩) ?_ ?_
                rotate_left
                ·intro w'
                 go_simp
                 with_reducible rfl
                rotate_left
                ·simp only [Act.put, sT, sZ, sS, i64_w, i32_w]
                 rfl
                refine pure_ (i := 9) (N := some 30) (v := ?_) (a' := ?_) #[true, true, true, false, true, true, true, true, false, true, false, false, false, false, false, false, false, false, false, false] rfl rfl (any_of HT_.out (by kernel_rfl)) (fun _ _ _ h => h) (Or.inl ⟨by rfl, ?_⟩) ?_ ?_
                rotate_left
                ·intro w'
                 go_simp
                 with_reducible rfl
                rotate_left
                ·simp only [Act.put, sT, sZ, sS, i64_w, i32_w]
                 rfl
                refine pure_ (i := 10) (N := some 31) (v := ?_) (a' := ?_) #[true, true, true, false, true, true, true, true, false, true, true, false, false, false, false, false, false, false, false, false] rfl rfl (any_of HT_.out (by kernel_rfl)) (fun _ _ _ h => h) (Or.inl ⟨by rfl, ?_⟩) ?_ ?_
                rotate_left
                ·intro w'
                 go_simp
                 with_reducible rfl
                rotate_left
                ·simp only [Act.put, sT, sZ, sS, i64_w, i32_w]
                 rfl
                refine pure_ (i := 11) (N := some 32) (v := ?_) (a' := ?_) #[true, true, true, false, true, true, true, true, false, true, true, true, false, false, false, false, false, false, false, false] rfl rfl (any_of HT_.out (by kernel_rfl)) (fun _ _ _ h => h) (Or.inl ⟨by rfl, ?_⟩) ?_ ?_
                rotate_left
                ·intro w'
                 go_simp
                 with_reducible rfl
                rotate_left
                ·simp only [Act.put, sT, sZ, sS, i64_w, i32_w]
                 rfl
                refine pure_ (i := 12) (N := some 33) (v := ?_) (a' := ?_) #[true, true, true, false, true, true, true, true, false, true, true, true, true, false, false, false, false, false, false, false] rfl rfl (any_of HT_.out (by kernel_rfl)) (fun _ _ _ h => h) (Or.inl ⟨by rfl, ?_⟩) ?_ ?_
                rotate_left
                ·intro w'
                 go_simp
                 with_reducible rfl
                rotate_left
                ·simp only [Act.put, sT, sZ, sS, i64_w, i32_w]
                 rfl
                refine pure_ (i := 13) (N := some 34) (v := ?_) (a' := ?_) #[true, true, true, false, true, true, true, true, false, true, true, true, true, true, false, false, false, false, false, false] rfl rfl (any_of HT_.out (by kernel_rfl)) (fun _ _ _ h => h) (Or.inl ⟨by rfl, ?_⟩) ?_ ?_
                rotate_left
                ·intro w'
                 go_simp
                 with_reducible rfl
                rotate_left
                ·simp only [Act.put, sT, sZ, sS, i64_w, i32_w]
                 rfl
                refine pure_ (i := 14) (N := some 35) (v := ?_) (a' := ?_) #[true, true, true, false, true, true, true, true, false, true, true, true, true, true, true, false, false, false, false, false] rfl rfl (any_of HT_.out (by kernel_rfl)) (fun _ _ _ h => h) (Or.inl ⟨by rfl, ?_⟩) ?_ ?_
                rotate_left
                ·intro w'
                 go_simp
                 with_reducible rfl
                rotate_left
                ·simp only [Act.put, sT, sZ, sS, i64_w, i32_w]
                 rfl
                refine take_ (i := 3) (N := some 24) (v := ?_) (a' := ?_) #[true, true, true, true, true, true, true, true, false, true, true, true, true, true, true, false, false, false, false, false] rfl rfl (take_ofW HT_.out HW_.out (by kernel_rfl)) (fun _ _ _ h => h) (Or.inl ⟨by rfl, ?_⟩) hHeld ?_ ?_
                rotate_left
                ·rintro w' ⟨s0, s1, s2⟩
                 go_simp
                 with_reducible rfl
                rotate_left
                ·simp only [Act.put, sT, sZ, sS, i64_w, i32_w]
                 rfl
                refine take_ (i := 8) (N := some 29) (v := ?_) (a' := ?_) #[true, true, true, true, true, true, true, true, true, true, true, true, true, true, true, false, false, false, false, false] rfl rfl (take_ofW HT_.out HW_.out (by kernel_rfl)) (fun _ _ _ h => h) (Or.inl ⟨by rfl, ?_⟩) hHeld ?_ ?_
                rotate_left
                ·rintro w' ⟨s0, s1, s2⟩
                 go_simp
                 with_reducible rfl
                rotate_left
                ·simp only [Act.put, sT, sZ, sS, i64_w, i32_w]
                 rfl
                refine take_ (i := 15) (N := some 36) (v := ?_) (a' := ?_) #[true, true, true, true, true, true, true, true, true, true, true, true, true, true, true, true, false, false, false, false] rfl rfl (take_ofW HT_.out HW_.out (by kernel_rfl)) (fun _ _ _ h => h) (Or.inl ⟨by rfl, ?_⟩) hHeld ?_ ?_
                rotate_left
                ·rintro w' ⟨s0, s1, s2⟩
                 go_simp
                 with_reducible rfl
                rotate_left
                ·simp only [Act.put, sT, sZ, sS, i64_w, i32_w]
                 rfl
                refine pure_ (i := 16) (N := some 37) (v := ?_) (a' := ?_) #[true, true, true, true, true, true, true, true, true, true, true, true, true, true, true, true, true, false, false, false] rfl rfl (any_of HT_.out (by kernel_rfl)) (fun _ _ _ h => h) (Or.inl ⟨by rfl, ?_⟩) ?_ ?_
                rotate_left
                ·intro w'
                 go_simp
                 with_reducible rfl
                rotate_left
                ·simp only [Act.put, sT, sZ, sS, i64_w, i32_w]
                 rfl
                refine pure_ (i := 17) (N := some 38) (v := ?_) (a' := ?_) #[true, true, true, true, true, true, true, true, true, true, true, true, true, true, true, true, true, true, false, false] rfl rfl (any_of HT_.out (by kernel_rfl)) (fun _ _ _ h => h) (Or.inl ⟨by rfl, ?_⟩) ?_ ?_
                rotate_left
                ·intro w'
                 go_simp
                 with_reducible rfl
                rotate_left
                ·simp only [Act.put, sT, sZ, sS, i64_w, i32_w]
                 rfl
                refine pure_ (i := 18) (N := some 39) (v := ?_) (a' := ?_) #[true, true, true, true, true, true, true, true, true, true, true, true, true, true, true, true, true, true, true, false] rfl rfl (any_of HT_.out (by kernel_rfl)) (fun _ _ _ h => h) (Or.inl ⟨by rfl, ?_⟩) ?_ ?_
                rotate_left
                ·intro w'
                 go_simp
                 with_reducible rfl
                rotate_left
                ·simp only [Act.put, sT, sZ, sS, i64_w, i32_w]
                 rfl
                refine last_ (i := 19) (N := none) #[true, true, true, true, true, true, true, true, true, true, true, true, true, true, true, true, true, true, true, true] rfl rfl (one_of HT_.out (by kernel_rfl)) (by decide) (fun K hK => ?_)
                refine skip_ (w1 := ?_) (by rfl) rfl ?_ ?_
                rotate_left
                ·go_simp
                 rfl
                refine hK.out _ _ ?_
                clear hK K
                refine done_ (done_of HT_.out (by kernel_rfl)) ?_
                try go_wp2
                (try simp only [← hl3_2])
                go_roundg k2
                case measure => have := HK1.out; have := HK2.out; omega
                case rel => exact ⟨(y397), (wrap64 (x5_2 + 2)), (by first | rfl | (simp; done) | (simp [*]; done)), H', ⟨by have := HK1.out; have := HK2.out; omega⟩, ⟨by (try simp only [hl3_1]); (try simp only [hl3_2]); (with_reducible repeat (first | apply rA | apply rN | apply rD)); exact HQ23.out⟩, ⟨hs_ GB6.out⟩⟩
               ·rw [if_neg c20] at H
                exact absurd H (by simp)
              ·rw [if_neg c19] at H
               exact absurd H (by simp)
             ·rw [if_neg c17] at H
              exact absurd H (by simp)
            ·rw [if_neg c16] at H
             exact absurd H (by simp)
           ·rw [if_neg c14] at H
            exact absurd H (by simp)
          ·rw [if_neg c13] at H
           exact absurd H (by simp)
         ·rw [if_neg c12] at H
          have c12b0 : decide (x5_2 < x4_1) = false := decide_eq_false c12
          clear c12
          have H' := Aside0.mk H
          clear H
          go_wp2
          (try simp only [← hl3_1, ← hl3_2])
          go_roundg k2
          case measure => have := HK1.out; have := HK2.out; omega
          case rel => exact ⟨(x3_2), (wrap64 (x4_1 + 2)), (by first | rfl | (simp; done) | (simp [*]; done)), H', ⟨by have := HK1.out; have := HK2.out; omega⟩, ⟨by (try simp only [hl3_1]); (try simp only [hl3_2]); (with_reducible repeat (first | apply rA | apply rN | apply rD)); exact HO_3.out⟩, ⟨hb_⟩⟩
      ·rw [if_neg c11] at H
       have c11b0 : decide (x4_1 ≤ a0) = false := decide_eq_false c11
       clear c11
       obtain rfl := oI H
       go_wp2
       go_ret
       exact ⟨_, by first | rfl | (simp [errW_none, errW_some] <;> rfl) | (simp only [← hji2]; first | rfl | (simp [errW_none, errW_some] <;> rfl)) | (simp [*, errW_none, errW_some] <;> rfl), by (with_reducible repeat (first | apply rA | apply rN | apply rD)); exact HO_3.out, hb_⟩
   ·rw [if_neg c5] at H
    exact absurd H (by simp)
  ·rw [if_neg c4] at H
   exact absurd H (by simp)
 ·rw [if_neg c3] at H
  exact absurd H (by simp)
end Go.Proofs.Ytdjbdpgdhpobfaa.Pr
