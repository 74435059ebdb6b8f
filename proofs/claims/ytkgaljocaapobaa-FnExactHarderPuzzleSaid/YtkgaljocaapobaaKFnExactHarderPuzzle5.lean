/- The program's HarderPuzzle returns what the reference's returns, for all arguments. Condition: none. -/
import Derived.Deep.Slices
import Derived.Deep.Fields
import Derived.ChangeSame
import Derived.ChangeShapes
import Derived.Below
import Derived.Carry
import Derived.Lib.SmallJoins
import Derived.RowKit
import Derived.OpenShut
import Derived.Test.YtkgaljocaapobaaRows
import Derived.WalkKit
import Derived.ProofKit
import Derived.ShutString
import Derived.ChangeOld
import Derived.SizedLaws
import Derived.ChangeSlices
import Derived.Test.YtkgaljocaapobaaKFnExactHarderPuzzle0
import Derived.Test.YtkgaljocaapobaaKFnExactHarderPuzzle1
import Derived.Test.YtkgaljocaapobaaKFnExactHarderPuzzle2
import Derived.Test.YtkgaljocaapobaaKFnExactHarderPuzzle3
import Derived.Test.YtkgaljocaapobaaKFnExactHarderPuzzle4
set_option linter.unusedVariables false
set_option linter.unusedSimpArgs false
namespace Go.Proofs.Ytkgaljocaapobaa.Pr
open Go.RowKit Go.Proofs.YtkgaljocaapobaaW.PrintWords Go.Proofs.YtkgaljocaapobaaW.PrintLast Go.Proofs.YtkgaljocaapobaaW.PrintMore
attribute [local go_sem] max2_int min2_int max_two min_two max_three min_three max_four min_four
def laws_heldClueS.l0 : Nat → List (S67) → Int → Int → Option (Int)
 | 0, _, _, _ => none
 | k + 1, x0, x1, x5 => if x5 < (x0.length : Int) then (if 0 ≤ x5 then (if ((rd_T67 x0 x5).f0) = x1 then (if ((rd_T67 x0 x5).f1) = (wrap64 (x1 + 1)) then (if ((rd_T67 x0 x5).f2) = (wrap64 ((wrap64 (x1 + 1)) + 1)) then (laws_heldClueS.l0 k x0 (wrap64 ((wrap64 ((wrap64 (x1 + 1)) + 1)) + 1)) (wrap64 (x5 + 1))) else (some (-1))) else (some (-1))) else (some (-1))) else (none)) else (some x1)
def laws_heldClueS.f (k : Nat) (l0 : List (S67)) (a1 : Int) : Option (Int) := laws_heldClueS.l0 k l0 a1 0
theorem laws_heldClueS.mono_l : ∀ k, (∀ y0 y1 y2, LeO (laws_heldClueS.l0 k y0 y1 y2) (laws_heldClueS.l0 (k + 1) y0 y1 y2))
 | 0 => fun _ _ _ r h => by simp [laws_heldClueS.l0] at h
 | k + 1 => by
  have ih0 := laws_heldClueS.mono_l k
  ·intro y0 y1 y2
   unfold laws_heldClueS.l0
   repeat' first
   | (with_reducible exact ih0 _ _ _)
   | (with_reducible exact LeO.refl _)
   | (with_reducible exact LeO.none _)
   | (with_reducible refine LeO.ite ?_ ?_)
   | (with_reducible refine LeO.bind ?_ (fun _ => ?_))
   | exact ih0 _ _ _
   | exact LeO.none _
   | refine LeO.ite ?_ ?_
   | refine LeO.bind ?_ (fun _ => ?_)
theorem laws_heldClueS.mono : ∀ a0 a1 k, LeO (laws_heldClueS.f k a0 a1) (laws_heldClueS.f (k + 1) a0 a1) := by
 intro a0 a1 k
 have ih0 := laws_heldClueS.mono_l k
 unfold laws_heldClueS.f
 repeat' first
   | (with_reducible exact ih0 _ _ _)
   | (with_reducible exact LeO.refl _)
   | (with_reducible exact LeO.none _)
   | (with_reducible refine LeO.ite ?_ ?_)
   | (with_reducible refine LeO.bind ?_ (fun _ => ?_))
   | exact ih0 _ _ _
   | exact LeO.none _
   | refine LeO.ite ?_ ?_
   | refine LeO.bind ?_ (fun _ => ?_)
set_option maxHeartbeats 8000000 in
set_option maxRecDepth 100000 in
theorem laws_heldClueS.calls (k : Nat) (A0 : Option Addr) (c0 : Nat) (l0 : List (S67)) (a1 : Int) (r : Int) (w : World) (hr0 : Kd.C k67 w A0 l0.length l0) (hc0 : l0.length ≤ c0) (h : laws_heldClueS.f k l0 a1 = some r) :
  Calls Try.prog 57 #[.slice A0 l0.length c0, .int .i64 a1] w fun e w' => e = .returned (.int .i64 r) ∧ Drawn0 w w' := by
 have HR0 := Aside0.mk hr0
 have HC0 := Aside0.mk hc0
 clear hr0 hc0
 have H : (laws_heldClueS.l0 k l0 a1 0) = some r := h
 clear h
 have H' := Aside0.mk H
 clear H
 go_enter Try.func57, Try.ntmps57
 go_wp2
 go_loopg [1, 5] k (fun kq v1 v5 w' => ∃ (x1_1 : Int) (x5_1 : Int), v1 = .int .i64 x1_1 ∧ v5 = .int .i64 x5_1 ∧ Aside0 (laws_heldClueS.l0 kq l0 x1_1 x5_1 = some r) ∧ Aside0 (kq ≤ k) ∧ Drawn0 w w')
 case atStart => exact ⟨(a1), (0), (by first | rfl | (simp; done) | (simp [*]; done)), (by first | rfl | (simp; done) | (simp [*]; done)), H', ⟨Nat.le_refl _⟩, by repeat (first | exact Drawn0.refl _ | apply Drawn0.step)⟩
 case round =>
  clear H'
  try clear p2
  obtain ⟨x1_1, x5_1, rfl, rfl, HA, HK1, ⟨m1, rfl⟩⟩ := hrel
  cases gk with
  | zero => exact absurd HA.out (by simp [laws_heldClueS.l0])
  | succ k1 =>
   have H := HA.out
   clear HA
   simp only [laws_heldClueS.l0] at H
   by_cases c3 : x5_1 < (l0.length : Int)
   ·rw [if_pos c3] at H
    have c3b0 : decide (x5_1 < (l0.length : Int)) = true := decide_eq_true c3
    clear c3
    by_cases c4 : 0 ≤ x5_1
    ·rw [if_pos c4] at H
     have c4b0 : decide (0 ≤ x5_1) = true := decide_eq_true c4
     clear c4
     by_cases c5 : ((rd_T67 l0 x5_1).f0) = x1_1
     ·rw [if_pos c5] at H
      have c5b0 : (((rd_T67 l0 x5_1).f0) == x1_1) = true := beq_iff_eq.mpr c5
      have c5b1 : (((rd_T67 l0 x5_1).f0) != x1_1) = false := bne_eq_false_iff_eq.mpr c5
      clear c5
      by_cases c6 : ((rd_T67 l0 x5_1).f1) = (wrap64 (x1_1 + 1))
      ·rw [if_pos c6] at H
       have c6b0 : (((rd_T67 l0 x5_1).f1) == (wrap64 (x1_1 + 1))) = true := beq_iff_eq.mpr c6
       have c6b1 : (((rd_T67 l0 x5_1).f1) != (wrap64 (x1_1 + 1))) = false := bne_eq_false_iff_eq.mpr c6
       clear c6
       by_cases c7 : ((rd_T67 l0 x5_1).f2) = (wrap64 ((wrap64 (x1_1 + 1)) + 1))
       ·rw [if_pos c7] at H
        have c7b0 : (((rd_T67 l0 x5_1).f2) == (wrap64 ((wrap64 (x1_1 + 1)) + 1))) = true := beq_iff_eq.mpr c7
        have c7b1 : (((rd_T67 l0 x5_1).f2) != (wrap64 ((wrap64 (x1_1 + 1)) + 1))) = false := bne_eq_false_iff_eq.mpr c7
        clear c7
        have H' := Aside0.mk H
        clear H
        have p652 : 0 ≤ (x5_1 : Int) := of_decide_eq_true (by assumption)
        have q652 : x5_1 < (l0.length : Int) := of_decide_eq_true (by assumption)
        obtain ⟨ad652, e652, hx652_0, hx652_1, hx652_2⟩ := at_T67 HR0.out x5_1 p652 q652
        cases e652
        replace p652 := eq_true p652
        replace q652 := eq_true q652
        have p653 : 0 ≤ (x5_1 : Int) := of_decide_eq_true (by assumption)
        have q653 : x5_1 < (l0.length : Int) := of_decide_eq_true (by assumption)
        obtain ⟨ad653, e653, hx653_0, hx653_1, hx653_2⟩ := at_T67 HR0.out x5_1 p653 q653
        obtain rfl : ad652 = ad653 := (by injection e653)
        replace p653 := eq_true p653
        replace q653 := eq_true q653
        have p654 : 0 ≤ (x5_1 : Int) := of_decide_eq_true (by assumption)
        have q654 : x5_1 < (l0.length : Int) := of_decide_eq_true (by assumption)
        obtain ⟨ad654, e654, hx654_0, hx654_1, hx654_2⟩ := at_T67 HR0.out x5_1 p654 q654
        obtain rfl : ad652 = ad654 := (by injection e654)
        replace p654 := eq_true p654
        replace q654 := eq_true q654
        go_wp2
        go_roundg k1
        case measure => have := HK1.out; omega
        case rel => exact ⟨(wrap64 ((wrap64 ((wrap64 (x1_1 + 1)) + 1)) + 1)), (wrap64 (x5_1 + 1)), (by first | rfl | (simp; done) | (simp [*]; done)), (by first | rfl | (simp; done) | (simp [*]; done)), H', ⟨by have := HK1.out; omega⟩, by repeat (first | exact Drawn0.refl _ | apply Drawn0.step)⟩
       ·rw [if_neg c7] at H
        have c7b0 : (((rd_T67 l0 x5_1).f2) == (wrap64 ((wrap64 (x1_1 + 1)) + 1))) = false := beq_eq_false_iff_ne.mpr c7
        have c7b1 : (((rd_T67 l0 x5_1).f2) != (wrap64 ((wrap64 (x1_1 + 1)) + 1))) = true := bne_iff_ne.mpr c7
        obtain rfl := oI H
        have p652 : 0 ≤ (x5_1 : Int) := of_decide_eq_true (by assumption)
        have q652 : x5_1 < (l0.length : Int) := of_decide_eq_true (by assumption)
        obtain ⟨ad652, e652, hx652_0, hx652_1, hx652_2⟩ := at_T67 HR0.out x5_1 p652 q652
        cases e652
        replace p652 := eq_true p652
        replace q652 := eq_true q652
        have p653 : 0 ≤ (x5_1 : Int) := of_decide_eq_true (by assumption)
        have q653 : x5_1 < (l0.length : Int) := of_decide_eq_true (by assumption)
        obtain ⟨ad653, e653, hx653_0, hx653_1, hx653_2⟩ := at_T67 HR0.out x5_1 p653 q653
        obtain rfl : ad652 = ad653 := (by injection e653)
        replace p653 := eq_true p653
        replace q653 := eq_true q653
        have p654 : 0 ≤ (x5_1 : Int) := of_decide_eq_true (by assumption)
        have q654 : x5_1 < (l0.length : Int) := of_decide_eq_true (by assumption)
        obtain ⟨ad654, e654, hx654_0, hx654_1, hx654_2⟩ := at_T67 HR0.out x5_1 p654 q654
        obtain rfl : ad652 = ad654 := (by injection e654)
        replace p654 := eq_true p654
        replace q654 := eq_true q654
        go_wp2
        go_ret
        exact ⟨by first | rfl | (simp; done) | (simp [*]; done), by repeat (first | exact Drawn0.refl _ | apply Drawn0.step)⟩
      ·rw [if_neg c6] at H
       have c6b0 : (((rd_T67 l0 x5_1).f1) == (wrap64 (x1_1 + 1))) = false := beq_eq_false_iff_ne.mpr c6
       have c6b1 : (((rd_T67 l0 x5_1).f1) != (wrap64 (x1_1 + 1))) = true := bne_iff_ne.mpr c6
       obtain rfl := oI H
       have p652 : 0 ≤ (x5_1 : Int) := of_decide_eq_true (by assumption)
       have q652 : x5_1 < (l0.length : Int) := of_decide_eq_true (by assumption)
       obtain ⟨ad652, e652, hx652_0, hx652_1, hx652_2⟩ := at_T67 HR0.out x5_1 p652 q652
       cases e652
       replace p652 := eq_true p652
       replace q652 := eq_true q652
       have p653 : 0 ≤ (x5_1 : Int) := of_decide_eq_true (by assumption)
       have q653 : x5_1 < (l0.length : Int) := of_decide_eq_true (by assumption)
       obtain ⟨ad653, e653, hx653_0, hx653_1, hx653_2⟩ := at_T67 HR0.out x5_1 p653 q653
       obtain rfl : ad652 = ad653 := (by injection e653)
       replace p653 := eq_true p653
       replace q653 := eq_true q653
       go_wp2
       go_ret
       exact ⟨by first | rfl | (simp; done) | (simp [*]; done), by repeat (first | exact Drawn0.refl _ | apply Drawn0.step)⟩
     ·rw [if_neg c5] at H
      have c5b0 : (((rd_T67 l0 x5_1).f0) == x1_1) = false := beq_eq_false_iff_ne.mpr c5
      have c5b1 : (((rd_T67 l0 x5_1).f0) != x1_1) = true := bne_iff_ne.mpr c5
      obtain rfl := oI H
      have p652 : 0 ≤ (x5_1 : Int) := of_decide_eq_true (by assumption)
      have q652 : x5_1 < (l0.length : Int) := of_decide_eq_true (by assumption)
      obtain ⟨ad652, e652, hx652_0, hx652_1, hx652_2⟩ := at_T67 HR0.out x5_1 p652 q652
      cases e652
      replace p652 := eq_true p652
      replace q652 := eq_true q652
      go_wp2
      go_ret
      exact ⟨by first | rfl | (simp; done) | (simp [*]; done), by repeat (first | exact Drawn0.refl _ | apply Drawn0.step)⟩
    ·rw [if_neg c4] at H
     exact absurd H (by simp)
   ·rw [if_neg c3] at H
    have c3b0 : decide (x5_1 < (l0.length : Int)) = false := decide_eq_false c3
    clear c3
    obtain rfl := oI H
    go_wp2
    go_ret
    exact ⟨by first | rfl | (simp; done) | (simp [*]; done), by repeat (first | exact Drawn0.refl _ | apply Drawn0.step)⟩
def laws_heldPuzzle.f (k : Nat) (l0_0 : List (S67)) (a1 : Int) : Option (Int) := (laws_heldClueS.f k l0_0 a1).bind fun t656 => (if t656 < 0 then (some (-1)) else (some t656))
theorem laws_heldPuzzle.mono : ∀ a0 a1 k, LeO (laws_heldPuzzle.f k a0 a1) (laws_heldPuzzle.f (k + 1) a0 a1) := by
 intro a0 a1 k
 unfold laws_heldPuzzle.f
 repeat' first
   | (with_reducible exact laws_heldClueS.mono _ _ _)
   | (with_reducible exact LeO.refl _)
   | (with_reducible exact LeO.none _)
   | (with_reducible refine LeO.ite ?_ ?_)
   | (with_reducible refine LeO.bind ?_ (fun _ => ?_))
   | exact laws_heldClueS.mono _ _ _
   | exact LeO.none _
   | refine LeO.ite ?_ ?_
   | refine LeO.bind ?_ (fun _ => ?_)
set_option maxHeartbeats 8000000 in
set_option maxRecDepth 100000 in
theorem laws_heldPuzzle.calls (k : Nat) (A0_0 : Option Addr) (c0_0 : Nat) (l0_0 : List (S67)) (a1 : Int) (r : Int) (w : World) (hr0_0 : Kd.C k67 w A0_0 l0_0.length l0_0) (hc0_0 : l0_0.length ≤ c0_0) (h : laws_heldPuzzle.f k l0_0 a1 = some r) :
  Calls Try.prog 39 #[.agg #[.slice A0_0 l0_0.length c0_0], .int .i64 a1] w fun e w' => e = .returned (.int .i64 r) ∧ Below w.heap.size w w' := by
 have hu30 := Try.underlying30
 have HR0_0 := Aside0.mk hr0_0
 have HC0_0 := Aside0.mk hc0_0
 clear hr0_0 hc0_0
 have HB := Aside0.mk (Below.refl w.heap.size w)
 have H : ((laws_heldClueS.f k l0_0 a1).bind fun t656 => (if t656 < 0 then (some (-1)) else (some t656))) = some r := h
 clear h
 replace H := bI H
 obtain ⟨t656, A30, H⟩ := H
 replace H : (if t656 < 0 then (some (-1)) else (some t656)) = some r := H
 have A3 := Aside0.mk A30
 clear A30
 by_cases c4 : t656 < 0
 ·rw [if_pos c4] at H
  have c4b0 : decide (t656 < 0) = true := decide_eq_true c4
  clear c4
  obtain rfl := oI H
  go_enter Try.func39, Try.ntmps39
  go_wp2_with (first | ((with_reducible refine gate_dst (N := 2) rfl ?_); refine box_event ?hg (N := 2) ?hd (cs := #[.slice A0_0 l0_0.length c0_0]) (t := 30) ?hr ?_; (case hd => rfl); (case hg => rfl); (case hr => first | (go_simp; done) | (go_simp; rfl)); intro gb655 hg w5 hbox hb; have n0_ := Aside0.mk (below_step hb_ hb); have n1_ := Aside0.mk (hbox); have n2_ := Aside0.mk ((by rw [hg]; exact (below_size hb_) : w.heap.size ≤ gb655)); have n3_ := Aside0.mk ((by rw [hg]; exact (below_size hb_) : w.heap.size ≤ gb655)); clear HB; have HB := n0_; have BK655 := n1_; have GW655 := n2_; have GE655 := n3_; clear n0_ n1_ n2_ n3_; clear hb hbox hg; have hcz6_0 : w5.cell? ⟨gb655, 0, none⟩ = some (.slice A0_0 l0_0.length c0_0) := (blk_cell BK655.out 0).trans rfl; have hfz6_0 := blk_frozen BK655.out 0) | ((with_reducible refine gate_callee (f := 57) rfl ?_); refine goesL_ (some 8) rfl rfl Try.func57 (by kernel_rfl) rfl #[.slice A0_0 l0_0.length c0_0, .int .i64 a1] rfl ar_ ?_; (with_reducible refine (laws_heldClueS.calls k _ _ l0_0 a1 t656 _ ?side1 ?side2 A3.out).mono ?_); (case side1 => repeat (first | exact (Kd.C_below HR0_0.out HB.out) | (with_reducible refine Kd.C_alloc ?_ _) | (with_reducible refine Kd.C_drewN ?_ _) | (with_reducible refine Kd.C_drew ?_))); (case side2 => exact HC0_0.out); rintro e w' ⟨rfl, ⟨nd, rfl⟩⟩; refine ⟨_, rfl, ?_⟩))
  go_ret
  exact ⟨by first | rfl | (simp [errW_none, errW_some] <;> rfl) | (simp [*, errW_none, errW_some] <;> rfl), hs_ GE655.out⟩
 ·rw [if_neg c4] at H
  have c4b0 : decide (t656 < 0) = false := decide_eq_false c4
  clear c4
  obtain rfl := oI H
  go_enter Try.func39, Try.ntmps39
  go_wp2_with (first | ((with_reducible refine gate_dst (N := 2) rfl ?_); refine box_event ?hg (N := 2) ?hd (cs := #[.slice A0_0 l0_0.length c0_0]) (t := 30) ?hr ?_; (case hd => rfl); (case hg => rfl); (case hr => first | (go_simp; done) | (go_simp; rfl)); intro gb655 hg w7 hbox hb; have n0_ := Aside0.mk (below_step hb_ hb); have n1_ := Aside0.mk (hbox); have n2_ := Aside0.mk ((by rw [hg]; exact (below_size hb_) : w.heap.size ≤ gb655)); have n3_ := Aside0.mk ((by rw [hg]; exact (below_size hb_) : w.heap.size ≤ gb655)); clear HB; have HB := n0_; have BK655 := n1_; have GW655 := n2_; have GE655 := n3_; clear n0_ n1_ n2_ n3_; clear hb hbox hg; have hcz8_0 : w7.cell? ⟨gb655, 0, none⟩ = some (.slice A0_0 l0_0.length c0_0) := (blk_cell BK655.out 0).trans rfl; have hfz8_0 := blk_frozen BK655.out 0) | ((with_reducible refine gate_callee (f := 57) rfl ?_); refine goesL_ (some 8) rfl rfl Try.func57 (by kernel_rfl) rfl #[.slice A0_0 l0_0.length c0_0, .int .i64 a1] rfl ar_ ?_; (with_reducible refine (laws_heldClueS.calls k _ _ l0_0 a1 t656 _ ?side1 ?side2 A3.out).mono ?_); (case side1 => repeat (first | exact (Kd.C_below HR0_0.out HB.out) | (with_reducible refine Kd.C_alloc ?_ _) | (with_reducible refine Kd.C_drewN ?_ _) | (with_reducible refine Kd.C_drew ?_))); (case side2 => exact HC0_0.out); rintro e w' ⟨rfl, ⟨nd, rfl⟩⟩; refine ⟨_, rfl, ?_⟩))
  go_ret
  exact ⟨by first | rfl | (simp [errW_none, errW_some] <;> rfl) | (simp [*, errW_none, errW_some] <;> rfl), hs_ GE655.out⟩
mutual
def laws_FnExactHarderPuzzle.j0 : Nat → Bool → Bool → Bool → List (S72) → List (S67) → List (S67) → List (S67) → Option (Bool)
 | 0, _, _, _, _, _, _, _ => none
 | k + 1, x5, x8, x40, x658000, x667000, x671000, x676000 => if x40 = true then (some false) else ((laws_toPuzzle.f k x658000).bind fun t677 => ((laws_eqPuzzle.f k x671000 t677).bind fun t680 => (if t680 = true then ((laws_markPuzzle.f k x671000 1).bind fun bt681 => (if bt681.1 < 0 then (laws_FnExactHarderPuzzle.j1 k x5 true x658000 x667000 x676000) else ((laws_eqPuzzle.f k x676000 x667000).bind fun t683 => (if t683 = true then (laws_FnExactHarderPuzzle.j1 k x5 (x8 != x5) x658000 x667000 x676000) else (laws_FnExactHarderPuzzle.j1 k x5 true x658000 x667000 x676000))))) else (some false))))
def laws_FnExactHarderPuzzle.j1 : Nat → Bool → Bool → List (S72) → List (S67) → List (S67) → Option (Bool)
 | 0, _, _, _, _, _ => none
 | k + 1, x5, x61, x658000, x667000, x676000 => if x61 = true then (some false) else ((laws_markPuzzle.f k x676000 1).bind fun bt684 => ((laws_heldPuzzle.f k bt684.2 1).bind fun t686 => (if t686 < 0 then (some false) else (if t686 = bt684.1 then ((laws_toPuzzle.f k x658000).bind fun t687 => ((impl_HarderPuzzle.f k t687).bind fun bt690 => ((laws_eqPuzzle.f k bt690.1 x667000).bind fun t695 => (if t695 = true then (laws_FnExactHarderPuzzle.j2 k bt684.1 (bt690.2 != x5) bt684.2) else (laws_FnExactHarderPuzzle.j2 k bt684.1 true bt684.2))))) else (some false)))))
def laws_FnExactHarderPuzzle.j2 : Nat → Int → Bool → List (S67) → Option (Bool)
 | 0, _, _, _ => none
 | k + 1, x10, x87, x676000 => if x87 = true then (some false) else ((laws_heldPuzzle.f k x676000 1).bind fun t696 => (if t696 < 0 then (some false) else (if t696 = x10 then (some true) else (some false))))
end
def laws_FnExactHarderPuzzle.f (k : Nat) (l0_0 : List (S72)) : Option (Bool) := (laws_szPuzzle.f l0_0 1048576).bind fun t658 => (if t658 < 0 then (some true) else ((laws_toPuzzle.f k l0_0).bind fun t659 => ((spec_HarderPuzzle.f k t659).bind fun bt662 => ((laws_toPuzzle.f k l0_0).bind fun t667 => ((impl_HarderPuzzle.f k t667).bind fun bt671 => ((laws_eqPuzzle.f k bt671.1 bt662.1).bind fun t676 => (if t676 = true then (laws_FnExactHarderPuzzle.j0 k bt662.2 bt671.2 (bt671.2 != bt662.2) l0_0 bt662.1 t667 bt671.1) else (laws_FnExactHarderPuzzle.j0 k bt662.2 bt671.2 true l0_0 bt662.1 t667 bt671.1))))))))
theorem laws_FnExactHarderPuzzle.mono_l : ∀ k, (∀ y0 y1 y2 y3 y4 y5 y6, LeO (laws_FnExactHarderPuzzle.j0 k y0 y1 y2 y3 y4 y5 y6) (laws_FnExactHarderPuzzle.j0 (k + 1) y0 y1 y2 y3 y4 y5 y6)) ∧ (∀ y0 y1 y2 y3 y4, LeO (laws_FnExactHarderPuzzle.j1 k y0 y1 y2 y3 y4) (laws_FnExactHarderPuzzle.j1 (k + 1) y0 y1 y2 y3 y4)) ∧ (∀ y0 y1 y2, LeO (laws_FnExactHarderPuzzle.j2 k y0 y1 y2) (laws_FnExactHarderPuzzle.j2 (k + 1) y0 y1 y2))
 | 0 => ⟨fun _ _ _ _ _ _ _ r h => by simp [laws_FnExactHarderPuzzle.j0] at h, fun _ _ _ _ _ r h => by simp [laws_FnExactHarderPuzzle.j1] at h, fun _ _ _ r h => by simp [laws_FnExactHarderPuzzle.j2] at h⟩
 | k + 1 => by
  obtain ⟨ih0, ih1, ih2⟩ := laws_FnExactHarderPuzzle.mono_l k
  refine ⟨?_, ?_, ?_⟩
  ·intro y0 y1 y2 y3 y4 y5 y6
   unfold laws_FnExactHarderPuzzle.j0
   repeat' first
   | (with_reducible exact ih0 _ _ _ _ _ _ _)
   | (with_reducible exact ih1 _ _ _ _ _)
   | (with_reducible exact ih2 _ _ _)
   | (with_reducible exact impl_HarderPuzzle.mono _ _)
   | (with_reducible exact laws_eqPuzzle.mono _ _ _)
   | (with_reducible exact laws_heldPuzzle.mono _ _ _)
   | (with_reducible exact laws_markPuzzle.mono _ _ _)
   | (with_reducible exact laws_toPuzzle.mono _ _)
   | (with_reducible exact spec_HarderPuzzle.mono _ _)
   | (with_reducible exact LeO.refl _)
   | (with_reducible exact LeO.none _)
   | (with_reducible refine LeO.ite ?_ ?_)
   | (with_reducible refine LeO.bind ?_ (fun _ => ?_))
   | exact ih0 _ _ _ _ _ _ _
   | exact ih1 _ _ _ _ _
   | exact ih2 _ _ _
   | exact impl_HarderPuzzle.mono _ _
   | exact laws_eqPuzzle.mono _ _ _
   | exact laws_heldPuzzle.mono _ _ _
   | exact laws_markPuzzle.mono _ _ _
   | exact laws_toPuzzle.mono _ _
   | exact spec_HarderPuzzle.mono _ _
   | exact LeO.none _
   | refine LeO.ite ?_ ?_
   | refine LeO.bind ?_ (fun _ => ?_)
  ·intro y0 y1 y2 y3 y4
   unfold laws_FnExactHarderPuzzle.j1
   repeat' first
   | (with_reducible exact ih0 _ _ _ _ _ _ _)
   | (with_reducible exact ih1 _ _ _ _ _)
   | (with_reducible exact ih2 _ _ _)
   | (with_reducible exact impl_HarderPuzzle.mono _ _)
   | (with_reducible exact laws_eqPuzzle.mono _ _ _)
   | (with_reducible exact laws_heldPuzzle.mono _ _ _)
   | (with_reducible exact laws_markPuzzle.mono _ _ _)
   | (with_reducible exact laws_toPuzzle.mono _ _)
   | (with_reducible exact spec_HarderPuzzle.mono _ _)
   | (with_reducible exact LeO.refl _)
   | (with_reducible exact LeO.none _)
   | (with_reducible refine LeO.ite ?_ ?_)
   | (with_reducible refine LeO.bind ?_ (fun _ => ?_))
   | exact ih0 _ _ _ _ _ _ _
   | exact ih1 _ _ _ _ _
   | exact ih2 _ _ _
   | exact impl_HarderPuzzle.mono _ _
   | exact laws_eqPuzzle.mono _ _ _
   | exact laws_heldPuzzle.mono _ _ _
   | exact laws_markPuzzle.mono _ _ _
   | exact laws_toPuzzle.mono _ _
   | exact spec_HarderPuzzle.mono _ _
   | exact LeO.none _
   | refine LeO.ite ?_ ?_
   | refine LeO.bind ?_ (fun _ => ?_)
  ·intro y0 y1 y2
   unfold laws_FnExactHarderPuzzle.j2
   repeat' first
   | (with_reducible exact ih0 _ _ _ _ _ _ _)
   | (with_reducible exact ih1 _ _ _ _ _)
   | (with_reducible exact ih2 _ _ _)
   | (with_reducible exact impl_HarderPuzzle.mono _ _)
   | (with_reducible exact laws_eqPuzzle.mono _ _ _)
   | (with_reducible exact laws_heldPuzzle.mono _ _ _)
   | (with_reducible exact laws_markPuzzle.mono _ _ _)
   | (with_reducible exact laws_toPuzzle.mono _ _)
   | (with_reducible exact spec_HarderPuzzle.mono _ _)
   | (with_reducible exact LeO.refl _)
   | (with_reducible exact LeO.none _)
   | (with_reducible refine LeO.ite ?_ ?_)
   | (with_reducible refine LeO.bind ?_ (fun _ => ?_))
   | exact ih0 _ _ _ _ _ _ _
   | exact ih1 _ _ _ _ _
   | exact ih2 _ _ _
   | exact impl_HarderPuzzle.mono _ _
   | exact laws_eqPuzzle.mono _ _ _
   | exact laws_heldPuzzle.mono _ _ _
   | exact laws_markPuzzle.mono _ _ _
   | exact laws_toPuzzle.mono _ _
   | exact spec_HarderPuzzle.mono _ _
   | exact LeO.none _
   | refine LeO.ite ?_ ?_
   | refine LeO.bind ?_ (fun _ => ?_)
theorem laws_FnExactHarderPuzzle.mono : ∀ a0 k, LeO (laws_FnExactHarderPuzzle.f k a0) (laws_FnExactHarderPuzzle.f (k + 1) a0) := by
 intro a0 k
 obtain ⟨ih0, ih1, ih2⟩ := laws_FnExactHarderPuzzle.mono_l k
 unfold laws_FnExactHarderPuzzle.f
 repeat' first
   | (with_reducible exact ih0 _ _ _ _ _ _ _)
   | (with_reducible exact ih1 _ _ _ _ _)
   | (with_reducible exact ih2 _ _ _)
   | (with_reducible exact impl_HarderPuzzle.mono _ _)
   | (with_reducible exact laws_eqPuzzle.mono _ _ _)
   | (with_reducible exact laws_heldPuzzle.mono _ _ _)
   | (with_reducible exact laws_markPuzzle.mono _ _ _)
   | (with_reducible exact laws_toPuzzle.mono _ _)
   | (with_reducible exact spec_HarderPuzzle.mono _ _)
   | (with_reducible exact LeO.refl _)
   | (with_reducible exact LeO.none _)
   | (with_reducible refine LeO.ite ?_ ?_)
   | (with_reducible refine LeO.bind ?_ (fun _ => ?_))
   | exact ih0 _ _ _ _ _ _ _
   | exact ih1 _ _ _ _ _
   | exact ih2 _ _ _
   | exact impl_HarderPuzzle.mono _ _
   | exact laws_eqPuzzle.mono _ _ _
   | exact laws_heldPuzzle.mono _ _ _
   | exact laws_markPuzzle.mono _ _ _
   | exact laws_toPuzzle.mono _ _
   | exact spec_HarderPuzzle.mono _ _
   | exact LeO.none _
   | refine LeO.ite ?_ ?_
   | refine LeO.bind ?_ (fun _ => ?_)
set_option maxHeartbeats 8000000 in
set_option maxRecDepth 100000 in
theorem laws_FnExactHarderPuzzle.calls (k : Nat) (A0_0 : Option Addr) (c0_0 : Nat) (l0_0 : List (S72)) (r : Bool) (w : World) (hr0_0 : Kd.C k72 w A0_0 l0_0.length l0_0) (hc0_0 : l0_0.length ≤ c0_0) (h : laws_FnExactHarderPuzzle.f k l0_0 = some r) :
  Calls Try.prog 10 #[.agg #[.slice A0_0 l0_0.length c0_0]] w fun e w' => e = .returned (.bool r) ∧ Below w.heap.size w w' := by
 have hu24 := Try.underlying24
 have hu30 := Try.underlying30
 have HR0_0 := Aside0.mk hr0_0
 have HC0_0 := Aside0.mk hc0_0
 clear hr0_0 hc0_0
 have HB := Aside0.mk (Below.refl w.heap.size w)
 have H : ((laws_szPuzzle.f l0_0 1048576).bind fun t658 => (if t658 < 0 then (some true) else ((laws_toPuzzle.f k l0_0).bind fun t659 => ((spec_HarderPuzzle.f k t659).bind fun bt662 => ((laws_toPuzzle.f k l0_0).bind fun t667 => ((impl_HarderPuzzle.f k t667).bind fun bt671 => ((laws_eqPuzzle.f k bt671.1 bt662.1).bind fun t676 => (if t676 = true then (laws_FnExactHarderPuzzle.j0 k bt662.2 bt671.2 (bt671.2 != bt662.2) l0_0 bt662.1 t667 bt671.1) else (laws_FnExactHarderPuzzle.j0 k bt662.2 bt671.2 true l0_0 bt662.1 t667 bt671.1))))))))) = some r := h
 clear h
 replace H := bI H
 obtain ⟨t658, A20, H⟩ := H
 replace H : (if t658 < 0 then (some true) else ((laws_toPuzzle.f k l0_0).bind fun t659 => ((spec_HarderPuzzle.f k t659).bind fun bt662 => ((laws_toPuzzle.f k l0_0).bind fun t667 => ((impl_HarderPuzzle.f k t667).bind fun bt671 => ((laws_eqPuzzle.f k bt671.1 bt662.1).bind fun t676 => (if t676 = true then (laws_FnExactHarderPuzzle.j0 k bt662.2 bt671.2 (bt671.2 != bt662.2) l0_0 bt662.1 t667 bt671.1) else (laws_FnExactHarderPuzzle.j0 k bt662.2 bt671.2 true l0_0 bt662.1 t667 bt671.1)))))))) = some r := H
 have A2 := Aside0.mk A20
 clear A20
 by_cases c3 : t658 < 0
 ·rw [if_pos c3] at H
  have c3b0 : decide (t658 < 0) = true := decide_eq_true c3
  clear c3
  obtain rfl := oI H
  go_enter Try.func10, Try.ntmps10
  go_wp2_with (first | ((with_reducible refine gate_dst (N := 1) rfl ?_); refine box_event ?hg (N := 1) ?hd (cs := #[.slice A0_0 l0_0.length c0_0]) (t := 24) ?hr ?_; (case hd => rfl); (case hg => rfl); (case hr => first | (go_simp; done) | (go_simp; rfl)); intro gb657 hg w4 hbox hb; have n0_ := Aside0.mk (below_step hb_ hb); have n1_ := Aside0.mk (hbox); have n2_ := Aside0.mk ((by rw [hg]; exact (below_size hb_) : w.heap.size ≤ gb657)); have n3_ := Aside0.mk ((by rw [hg]; exact (below_size hb_) : w.heap.size ≤ gb657)); clear HB; have HB := n0_; have BK657 := n1_; have GW657 := n2_; have GE657 := n3_; clear n0_ n1_ n2_ n3_; clear hb hbox hg; have hcz5_0 : w4.cell? ⟨gb657, 0, none⟩ = some (.slice A0_0 l0_0.length c0_0) := (blk_cell BK657.out 0).trans rfl; have hfz5_0 := blk_frozen BK657.out 0) | ((with_reducible refine gate_callee (f := 12) rfl ?_); refine goesL_ (some 16) rfl rfl Try.func12 (by kernel_rfl) rfl #[.agg #[.slice A0_0 l0_0.length c0_0], .int .i64 1048576] rfl ar_ ?_; (with_reducible refine (laws_szPuzzle.calls _ _ l0_0 1048576 t658 _ ?side1 ?side2 A2.out).mono ?_); (case side1 => repeat (first | exact (Kd.C_below HR0_0.out HB.out) | (with_reducible refine Kd.C_alloc ?_ _) | (with_reducible refine Kd.C_drewN ?_ _) | (with_reducible refine Kd.C_drew ?_))); (case side2 => exact HC0_0.out); rintro e w6 ⟨rfl, hb⟩; refine ⟨_, rfl, ?_⟩; have n0_ := Aside0.mk (blk_below (g := gb657) (o := .cells #[.slice A0_0 l0_0.length c0_0] 24 (0, 0)) (kx_ BK657.out) hb); have n1_ := Aside0.mk (below_step (hs_ GE657.out) hb); clear BK657; clear HB; have BK657 := n0_; have HB := n1_; clear n0_ n1_; (try clear hb); (try clear hb2); (try clear hk); (try clear hi)))
  go_ret
  exact ⟨by first | rfl | (simp [errW_none, errW_some] <;> rfl) | (simp [*, errW_none, errW_some] <;> rfl), hs_ GE657.out⟩
 ·rw [if_neg c3] at H
  have c3b0 : decide (t658 < 0) = false := decide_eq_false c3
  clear c3
  replace H := bI H
  obtain ⟨t659, A70, H⟩ := H
  replace H : ((spec_HarderPuzzle.f k t659).bind fun bt662 => ((laws_toPuzzle.f k l0_0).bind fun t667 => ((impl_HarderPuzzle.f k t667).bind fun bt671 => ((laws_eqPuzzle.f k bt671.1 bt662.1).bind fun t676 => (if t676 = true then (laws_FnExactHarderPuzzle.j0 k bt662.2 bt671.2 (bt671.2 != bt662.2) l0_0 bt662.1 t667 bt671.1) else (laws_FnExactHarderPuzzle.j0 k bt662.2 bt671.2 true l0_0 bt662.1 t667 bt671.1)))))) = some r := H
  have A7 := Aside0.mk A70
  clear A70
  replace H := bI H
  obtain ⟨⟨t662, t665⟩, A80, H⟩ := H
  replace H : ((laws_toPuzzle.f k l0_0).bind fun t667 => ((impl_HarderPuzzle.f k t667).bind fun bt671 => ((laws_eqPuzzle.f k bt671.1 t662).bind fun t676 => (if t676 = true then (laws_FnExactHarderPuzzle.j0 k t665 bt671.2 (bt671.2 != t665) l0_0 t662 t667 bt671.1) else (laws_FnExactHarderPuzzle.j0 k t665 bt671.2 true l0_0 t662 t667 bt671.1))))) = some r := H
  have A8 := Aside0.mk A80
  clear A80
  replace H := bI H
  obtain ⟨t667, A90, H⟩ := H
  replace H : ((impl_HarderPuzzle.f k t667).bind fun bt671 => ((laws_eqPuzzle.f k bt671.1 t662).bind fun t676 => (if t676 = true then (laws_FnExactHarderPuzzle.j0 k t665 bt671.2 (bt671.2 != t665) l0_0 t662 t667 bt671.1) else (laws_FnExactHarderPuzzle.j0 k t665 bt671.2 true l0_0 t662 t667 bt671.1)))) = some r := H
  have A9 := Aside0.mk A90
  clear A90
  replace H := bI H
  obtain ⟨⟨t671, t674⟩, A100, H⟩ := H
  replace H : ((laws_eqPuzzle.f k t671 t662).bind fun t676 => (if t676 = true then (laws_FnExactHarderPuzzle.j0 k t665 t674 (t674 != t665) l0_0 t662 t667 t671) else (laws_FnExactHarderPuzzle.j0 k t665 t674 true l0_0 t662 t667 t671))) = some r := H
  have A10 := Aside0.mk A100
  clear A100
  have HC11 := Aside0.mk H
  clear H
  go_enter Try.func10, Try.ntmps10
  go_upto_region 8 with (first | ((with_reducible refine gate_dst (N := 1) rfl ?_); refine box_event ?hg (N := 1) ?hd (cs := #[.slice A0_0 l0_0.length c0_0]) (t := 24) ?hr ?_; (case hd => rfl); (case hg => rfl); (case hr => first | (go_simp; done) | (go_simp; rfl)); intro gb657 hg w12 hbox hb; have n0_ := Aside0.mk (below_step hb_ hb); have n1_ := Aside0.mk (hbox); have n2_ := Aside0.mk ((by rw [hg]; exact (below_size hb_) : w.heap.size ≤ gb657)); have n3_ := Aside0.mk ((by rw [hg]; exact (below_size hb_) : w.heap.size ≤ gb657)); clear HB; have HB := n0_; have BK657 := n1_; have GW657 := n2_; have GE657 := n3_; clear n0_ n1_ n2_ n3_; clear hb hbox hg; have hcz13_0 : w12.cell? ⟨gb657, 0, none⟩ = some (.slice A0_0 l0_0.length c0_0) := (blk_cell BK657.out 0).trans rfl; have hfz13_0 := blk_frozen BK657.out 0) | ((with_reducible refine gate_callee (f := 12) rfl ?_); refine goesL_ (some 16) rfl rfl Try.func12 (by kernel_rfl) rfl #[.agg #[.slice A0_0 l0_0.length c0_0], .int .i64 1048576] rfl ar_ ?_; (with_reducible refine (laws_szPuzzle.calls _ _ l0_0 1048576 t658 _ ?side1 ?side2 A2.out).mono ?_); (case side1 => repeat (first | exact (Kd.C_below HR0_0.out HB.out) | (with_reducible refine Kd.C_alloc ?_ _) | (with_reducible refine Kd.C_drewN ?_ _) | (with_reducible refine Kd.C_drew ?_))); (case side2 => exact HC0_0.out); rintro e w14 ⟨rfl, hb⟩; refine ⟨_, rfl, ?_⟩; have n0_ := Aside0.mk (blk_below (g := gb657) (o := .cells #[.slice A0_0 l0_0.length c0_0] 24 (0, 0)) (kx_ BK657.out) hb); have n1_ := Aside0.mk (below_step (hs_ GE657.out) hb); clear BK657; clear HB; have BK657 := n0_; have HB := n1_; clear n0_ n1_; (try clear hb); (try clear hb2); (try clear hk); (try clear hi); have hcz15_0 : w14.cell? ⟨gb657, 0, none⟩ = some (.slice A0_0 l0_0.length c0_0) := (blk_cell BK657.out 0).trans rfl; have hfz15_0 := blk_frozen BK657.out 0) | ((with_reducible refine gate_callee (f := 14) rfl ?_); refine goesL_ (some 21) rfl rfl Try.func14 (by kernel_rfl) rfl #[.agg #[.slice A0_0 l0_0.length c0_0]] rfl ar_ ?_; (with_reducible refine (laws_toPuzzle.calls k _ _ l0_0 t659 _ ?side1 ?side2 A7.out).mono ?_); (case side1 => repeat (first | exact (Kd.C_below HR0_0.out HB.out) | (with_reducible refine Kd.C_alloc ?_ _) | (with_reducible refine Kd.C_drewN ?_ _) | (with_reducible refine Kd.C_drew ?_))); (case side2 => exact HC0_0.out); rintro e w16 ⟨v660, rfl, ho0, hb⟩; refine ⟨_, rfl, ?_⟩; have n0_ := Aside0.mk (Kd.R_lower ho0 (below_size (hs_ GE657.out))); have n1_ := Aside0.mk (blk_below (g := gb657) (o := .cells #[.slice A0_0 l0_0.length c0_0] 24 (0, 0)) (kx_ BK657.out) hb); have n2_ := Aside0.mk (below_step (hs_ GE657.out) hb); clear BK657; clear HB; have HO661 := n0_; have BK657 := n1_; have HB := n2_; clear n0_ n1_ n2_; (try clear hb); (try clear hb2); (try clear hk); (try clear hi); (try clear ho0); obtain ⟨Ao17, co17, eo17⟩ := Kd.R_slice HO661.out; subst eo17) | ((with_reducible refine gate_callee (f := 37) rfl ?_); refine goesL_ (some 22) rfl rfl Try.func37 (by kernel_rfl) rfl #[.agg #[.slice Ao17 t659.length co17]] rfl ar_ ?_; (with_reducible refine (spec_HarderPuzzle.calls k _ _ t659 t662 t665 _ ?side1 ?side2 A8.out).mono ?_); (case side1 => repeat (first | exact (Kd.R_reads' HO661.out).2.2 | (with_reducible refine Kd.C_alloc ?_ _) | (with_reducible refine Kd.C_drewN ?_ _) | (with_reducible refine Kd.C_drew ?_))); (case side2 => exact (Kd.R_reads' HO661.out).2.1); rintro e w18 ⟨v663, rfl, ho0, hb⟩; refine ⟨_, rfl, ?_⟩; have n0_ := Aside0.mk (Kd.R_elder' (by (with_reducible repeat (first | apply rA | apply rN | apply rD)); exact HO661.out) (Kd.R_base ho0) hb); have n1_ := Aside0.mk (Kd.R_lower (Kd.R_new' ho0 (Kd.R_lt (by (with_reducible repeat (first | apply rA | apply rN | apply rD)); exact HO661.out))) (below_size (hs_ GE657.out))); have n2_ := Aside0.mk (blk_below (g := gb657) (o := .cells #[.slice A0_0 l0_0.length c0_0] 24 (0, 0)) (kx_ BK657.out) hb); have n3_ := Aside0.mk (below_step (hs_ GE657.out) hb); clear HO661; clear BK657; clear HB; have HO661 := n0_; have HO664 := n1_; have BK657 := n2_; have HB := n3_; clear n0_ n1_ n2_ n3_; (try clear hb); (try clear hb2); (try clear hk); (try clear hi); (try clear ho0)) | ((with_reducible refine gate_dst (N := 4) rfl ?_); refine box_event ?hg (N := 4) ?hd (cs := #[.slice none 0 0]) (t := 30) ?hr ?_; (case hd => rfl); (case hg => rfl); (case hr => first | (go_simp; done) | (go_simp; rfl)); intro gb666 hg w19 hbox hb; have n0_ := Aside0.mk (Kd.R_below (by (with_reducible repeat (first | apply rA | apply rN | apply rD)); exact HO661.out) hb); have n1_ := Aside0.mk (Kd.R_below (by (with_reducible repeat (first | apply rA | apply rN | apply rD)); exact HO664.out) hb); have n2_ := Aside0.mk (blk_below (g := gb657) (o := .cells #[.slice A0_0 l0_0.length c0_0] 24 (0, 0)) (kx_ BK657.out) hb); have n3_ := Aside0.mk (below_step (hs_ GE657.out) hb); have n4_ := Aside0.mk (hbox); have n5_ := Aside0.mk ((by rw [hg]; exact (below_size (hs_ GE657.out)) : w.heap.size ≤ gb666)); have n6_ := Aside0.mk ((by rw [hg]; exact (below_size (hs_ GE657.out)) : w.heap.size ≤ gb666)); have n7_ := Aside0.mk ((by rw [hg]; exact Nat.ne_of_lt (blk_lt (g := gb657) (o := .cells #[.slice A0_0 l0_0.length c0_0] 24 (0, 0)) (kx_ BK657.out)) : gb657 ≠ gb666)); have n8_ := Aside0.mk ((by rw [hg]; exact Nat.ne_of_gt (blk_lt (g := gb657) (o := .cells #[.slice A0_0 l0_0.length c0_0] 24 (0, 0)) (kx_ BK657.out)) : gb666 ≠ gb657)); clear HO661; clear HO664; clear BK657; clear HB; have HO661 := n0_; have HO664 := n1_; have BK657 := n2_; have HB := n3_; have BK666 := n4_; have GW666 := n5_; have GE666 := n6_; have NB657_666 := n7_; have NB666_657 := n8_; clear n0_ n1_ n2_ n3_ n4_ n5_ n6_ n7_ n8_; clear hb hbox hg; obtain ⟨Ao20, co20, eo20⟩ := Kd.R_slice HO664.out; subst eo20; have hnb21 := NB666_657.out; have hnc21 := NB657_666.out; have hcz22_0 : w19.cell? ⟨gb666, 0, none⟩ = some (.slice none 0 0) := (blk_cell BK666.out 0).trans rfl; have hfz22_0 := blk_frozen BK666.out 0; have hcz23_0 : w19.cell? ⟨gb657, 0, none⟩ = some (.slice A0_0 l0_0.length c0_0) := (blk_cell BK657.out 0).trans rfl; have hfz23_0 := blk_frozen BK657.out 0) | ((with_reducible refine gate_callee (f := 14) rfl ?_); refine goesL_ (some 26) rfl rfl Try.func14 (by kernel_rfl) rfl #[.agg #[.slice A0_0 l0_0.length c0_0]] rfl ar_ ?_; (with_reducible refine (laws_toPuzzle.calls k _ _ l0_0 t667 _ ?side1 ?side2 A9.out).mono ?_); (case side1 => exact Kd.C_below HR0_0.out (by repeat (first | (with_reducible first | exact HB.out | apply bA | apply bN | apply bD | refine below_set ?_ GE657.out | refine below_set ?_ GE666.out) | exact HB.out))); (case side2 => exact HC0_0.out); rintro e w24 ⟨v668, rfl, ho0, hb⟩; refine ⟨_, rfl, ?_⟩; have n0_ := Aside0.mk (Kd.R_elder' (by (with_reducible repeat (first | apply rA | apply rN | apply rD)); exact (Kd.R_mono (Kd.R_far (p := ⟨gb666, 0, none⟩) (Kd.R_types HO661.out BK666.out (by decide)) (fun _ hk => hk.2) (.slice Ao20 t662.length co20)) (fun _ h_ => h_.1))) (Kd.R_base ho0) hb); have n1_ := Aside0.mk (Kd.R_elder' (by (with_reducible repeat (first | apply rA | apply rN | apply rD)); exact (Kd.R_mono (Kd.R_far (p := ⟨gb666, 0, none⟩) (Kd.R_types HO664.out BK666.out (by decide)) (fun _ hk => hk.2) (.slice Ao20 t662.length co20)) (fun _ h_ => h_.1))) (Kd.R_base ho0) hb); have n2_ := Aside0.mk (Kd.R_lower (Kd.R_new' (Kd.R_new' ho0 (Kd.R_lt (by (with_reducible repeat (first | apply rA | apply rN | apply rD)); exact (Kd.R_mono (Kd.R_far (p := ⟨gb666, 0, none⟩) (Kd.R_types HO661.out BK666.out (by decide)) (fun _ hk => hk.2) (.slice Ao20 t662.length co20)) (fun _ h_ => h_.1))))) (Kd.R_lt (by (with_reducible repeat (first | apply rA | apply rN | apply rD)); exact (Kd.R_mono (Kd.R_far (p := ⟨gb666, 0, none⟩) (Kd.R_types HO664.out BK666.out (by decide)) (fun _ hk => hk.2) (.slice Ao20 t662.length co20)) (fun _ h_ => h_.1))))) (below_size (by repeat (first | (with_reducible first | exact HB.out | apply bA | apply bN | apply bD | refine below_set ?_ GE657.out | refine below_set ?_ GE666.out) | exact HB.out)))); have n3_ := Aside0.mk (blk_below (g := gb657) (o := .cells #[.slice A0_0 l0_0.length c0_0] 24 (0, 0)) (by (with_reducible repeat (first | refine kN ?_ _ | refine kD ?_ | refine kA ?_ _)); refine blk_far ?_ NB657_666.out _; (with_reducible repeat (first | refine kN ?_ _ | refine kD ?_ | refine kA ?_ _)); exact BK657.out) hb); have n4_ := Aside0.mk (blk_below (g := gb666) (o := .cells #[.slice Ao20 t662.length co20] 30 (0, 0)) (by (with_reducible repeat (first | refine kN ?_ _ | refine kD ?_ | refine kA ?_ _)); refine blk_put (cs := #[.slice none 0 0]) ?_ 0 _ rfl; (with_reducible repeat (first | refine kN ?_ _ | refine kD ?_ | refine kA ?_ _)); exact BK666.out) hb); have n5_ := Aside0.mk (below_step (by repeat (first | (with_reducible first | exact HB.out | apply bA | apply bN | apply bD | refine below_set ?_ GE657.out | refine below_set ?_ GE666.out) | exact HB.out)) hb); clear HO661; clear HO664; clear BK657; clear BK666; clear HB; have HO661 := n0_; have HO664 := n1_; have HO669 := n2_; have BK657 := n3_; have BK666 := n4_; have HB := n5_; clear n0_ n1_ n2_ n3_ n4_ n5_; (try clear hb); (try clear hb2); (try clear hk); (try clear hi); (try clear ho0)) | ((with_reducible refine gate_dst (N := 6) rfl ?_); refine box_event ?hg (N := 6) ?hd (cs := #[.slice none 0 0]) (t := 30) ?hr ?_; (case hd => rfl); (case hg => rfl); (case hr => first | (go_simp; done) | (go_simp; rfl)); intro gb670 hg w25 hbox hb; have n0_ := Aside0.mk (Kd.R_below (by (with_reducible repeat (first | apply rA | apply rN | apply rD)); exact HO661.out) hb); have n1_ := Aside0.mk (Kd.R_below (by (with_reducible repeat (first | apply rA | apply rN | apply rD)); exact HO664.out) hb); have n2_ := Aside0.mk (Kd.R_below (by (with_reducible repeat (first | apply rA | apply rN | apply rD)); exact HO669.out) hb); have n3_ := Aside0.mk (blk_below (g := gb657) (o := .cells #[.slice A0_0 l0_0.length c0_0] 24 (0, 0)) (kx_ BK657.out) hb); have n4_ := Aside0.mk (blk_below (g := gb666) (o := .cells #[.slice Ao20 t662.length co20] 30 (0, 0)) (kx_ BK666.out) hb); have n5_ := Aside0.mk (below_step (by repeat (first | (with_reducible first | exact HB.out | apply bA | apply bN | apply bD | refine below_set ?_ GE657.out | refine below_set ?_ GE666.out) | exact HB.out)) hb); have n6_ := Aside0.mk (hbox); have n7_ := Aside0.mk ((by rw [hg]; exact (below_size (by repeat (first | (with_reducible first | exact HB.out | apply bA | apply bN | apply bD | refine below_set ?_ GE657.out | refine below_set ?_ GE666.out) | exact HB.out))) : w.heap.size ≤ gb670)); have n8_ := Aside0.mk ((by rw [hg]; exact (below_size (by repeat (first | (with_reducible first | exact HB.out | apply bA | apply bN | apply bD | refine below_set ?_ GE657.out | refine below_set ?_ GE666.out) | exact HB.out))) : w.heap.size ≤ gb670)); have n9_ := Aside0.mk ((by rw [hg]; exact Nat.ne_of_lt (blk_lt (g := gb657) (o := .cells #[.slice A0_0 l0_0.length c0_0] 24 (0, 0)) (kx_ BK657.out)) : gb657 ≠ gb670)); have n10_ := Aside0.mk ((by rw [hg]; exact Nat.ne_of_gt (blk_lt (g := gb657) (o := .cells #[.slice A0_0 l0_0.length c0_0] 24 (0, 0)) (kx_ BK657.out)) : gb670 ≠ gb657)); have n11_ := Aside0.mk ((by rw [hg]; exact Nat.ne_of_lt (blk_lt (g := gb666) (o := .cells #[.slice Ao20 t662.length co20] 30 (0, 0)) (kx_ BK666.out)) : gb666 ≠ gb670)); have n12_ := Aside0.mk ((by rw [hg]; exact Nat.ne_of_gt (blk_lt (g := gb666) (o := .cells #[.slice Ao20 t662.length co20] 30 (0, 0)) (kx_ BK666.out)) : gb670 ≠ gb666)); clear HO661; clear HO664; clear HO669; clear BK657; clear BK666; clear HB; have HO661 := n0_; have HO664 := n1_; have HO669 := n2_; have BK657 := n3_; have BK666 := n4_; have HB := n5_; have BK670 := n6_; have GW670 := n7_; have GE670 := n8_; have NB657_670 := n9_; have NB670_657 := n10_; have NB666_670 := n11_; have NB670_666 := n12_; clear n0_ n1_ n2_ n3_ n4_ n5_ n6_ n7_ n8_ n9_ n10_ n11_ n12_; clear hb hbox hg; obtain ⟨Ao26, co26, eo26⟩ := Kd.R_slice HO669.out; subst eo26; have hnb27 := NB670_657.out; have hnc27 := NB657_670.out; have hnb28 := NB670_666.out; have hnc28 := NB666_670.out; have hcz29_0 : w25.cell? ⟨gb670, 0, none⟩ = some (.slice none 0 0) := (blk_cell BK670.out 0).trans rfl; have hfz29_0 := blk_frozen BK670.out 0) | ((with_reducible refine gate_callee (f := 38) rfl ?_); refine goesL_ (some 29) rfl rfl Try.func38 (by kernel_rfl) rfl #[.agg #[.slice Ao26 t667.length co26]] rfl ar_ ?_; (with_reducible refine (impl_HarderPuzzle.calls k _ _ t667 t671 t674 _ ?side1 ?side2 A10.out).mono ?_); (case side1 => refine (Kd.R_reads' (e := 67) (base := w.heap.size) (ok := fun k_ => ((True ∧ some k_ ≠ (.slice Ao17 t659.length co17 : Value).ownBlock) ∧ some k_ ≠ (.slice Ao20 t662.length co20 : Value).ownBlock)) (n := t667.length) (c := co26) ?_).2.2; exact (by (with_reducible repeat (first | apply rA | apply rN | apply rD)); exact (Kd.R_mono (Kd.R_far (p := ⟨gb670, 0, none⟩) (Kd.R_types HO669.out BK670.out (by decide)) (fun _ hk => hk.2) (.slice Ao26 t667.length co26)) (fun _ h_ => h_.1)))); (case side2 => exact (Kd.R_reads' HO669.out).2.1); rintro e w30 ⟨v672, rfl, ho0, hb⟩; refine ⟨_, rfl, ?_⟩; have n0_ := Aside0.mk (Kd.R_elder' (by (with_reducible repeat (first | apply rA | apply rN | apply rD)); exact (Kd.R_mono (Kd.R_far (p := ⟨gb670, 0, none⟩) (Kd.R_types HO661.out BK670.out (by decide)) (fun _ hk => hk.2) (.slice Ao26 t667.length co26)) (fun _ h_ => h_.1))) (Kd.R_base ho0) hb); have n1_ := Aside0.mk (Kd.R_elder' (by (with_reducible repeat (first | apply rA | apply rN | apply rD)); exact (Kd.R_mono (Kd.R_far (p := ⟨gb670, 0, none⟩) (Kd.R_types HO664.out BK670.out (by decide)) (fun _ hk => hk.2) (.slice Ao26 t667.length co26)) (fun _ h_ => h_.1))) (Kd.R_base ho0) hb); have n2_ := Aside0.mk (Kd.R_elder' (by (with_reducible repeat (first | apply rA | apply rN | apply rD)); exact (Kd.R_mono (Kd.R_far (p := ⟨gb670, 0, none⟩) (Kd.R_types HO669.out BK670.out (by decide)) (fun _ hk => hk.2) (.slice Ao26 t667.length co26)) (fun _ h_ => h_.1))) (Kd.R_base ho0) hb); have n3_ := Aside0.mk (Kd.R_lower (Kd.R_new' (Kd.R_new' (Kd.R_new' ho0 (Kd.R_lt (by (with_reducible repeat (first | apply rA | apply rN | apply rD)); exact (Kd.R_mono (Kd.R_far (p := ⟨gb670, 0, none⟩) (Kd.R_types HO661.out BK670.out (by decide)) (fun _ hk => hk.2) (.slice Ao26 t667.length co26)) (fun _ h_ => h_.1))))) (Kd.R_lt (by (with_reducible repeat (first | apply rA | apply rN | apply rD)); exact (Kd.R_mono (Kd.R_far (p := ⟨gb670, 0, none⟩) (Kd.R_types HO664.out BK670.out (by decide)) (fun _ hk => hk.2) (.slice Ao26 t667.length co26)) (fun _ h_ => h_.1))))) (Kd.R_lt (by (with_reducible repeat (first | apply rA | apply rN | apply rD)); exact (Kd.R_mono (Kd.R_far (p := ⟨gb670, 0, none⟩) (Kd.R_types HO669.out BK670.out (by decide)) (fun _ hk => hk.2) (.slice Ao26 t667.length co26)) (fun _ h_ => h_.1))))) (below_size (by repeat (first | (with_reducible first | exact HB.out | apply bA | apply bN | apply bD | refine below_set ?_ GE657.out | refine below_set ?_ GE666.out | refine below_set ?_ GE670.out) | exact HB.out)))); have n4_ := Aside0.mk (blk_below (g := gb657) (o := .cells #[.slice A0_0 l0_0.length c0_0] 24 (0, 0)) (by (with_reducible repeat (first | refine kN ?_ _ | refine kD ?_ | refine kA ?_ _)); refine blk_far ?_ NB657_670.out _; (with_reducible repeat (first | refine kN ?_ _ | refine kD ?_ | refine kA ?_ _)); exact BK657.out) hb); have n5_ := Aside0.mk (blk_below (g := gb666) (o := .cells #[.slice Ao20 t662.length co20] 30 (0, 0)) (by (with_reducible repeat (first | refine kN ?_ _ | refine kD ?_ | refine kA ?_ _)); refine blk_far ?_ NB666_670.out _; (with_reducible repeat (first | refine kN ?_ _ | refine kD ?_ | refine kA ?_ _)); exact BK666.out) hb); have n6_ := Aside0.mk (blk_below (g := gb670) (o := .cells #[.slice Ao26 t667.length co26] 30 (0, 0)) (by (with_reducible repeat (first | refine kN ?_ _ | refine kD ?_ | refine kA ?_ _)); refine blk_put (cs := #[.slice none 0 0]) ?_ 0 _ rfl; (with_reducible repeat (first | refine kN ?_ _ | refine kD ?_ | refine kA ?_ _)); exact BK670.out) hb); have n7_ := Aside0.mk (below_step (by repeat (first | (with_reducible first | exact HB.out | apply bA | apply bN | apply bD | refine below_set ?_ GE657.out | refine below_set ?_ GE666.out | refine below_set ?_ GE670.out) | exact HB.out)) hb); clear HO661; clear HO664; clear HO669; clear BK657; clear BK666; clear BK670; clear HB; have HO661 := n0_; have HO664 := n1_; have HO669 := n2_; have HO673 := n3_; have BK657 := n4_; have BK666 := n5_; have BK670 := n6_; have HB := n7_; clear n0_ n1_ n2_ n3_ n4_ n5_ n6_ n7_; (try clear hb); (try clear hb2); (try clear hk); (try clear hi); (try clear ho0)) | ((with_reducible refine gate_dst (N := 7) rfl ?_); refine box_event ?hg (N := 7) ?hd (cs := #[.slice none 0 0]) (t := 30) ?hr ?_; (case hd => rfl); (case hg => rfl); (case hr => first | (go_simp; done) | (go_simp; rfl)); intro gb675 hg w31 hbox hb; have n0_ := Aside0.mk (Kd.R_below (by (with_reducible repeat (first | apply rA | apply rN | apply rD)); exact HO661.out) hb); have n1_ := Aside0.mk (Kd.R_below (by (with_reducible repeat (first | apply rA | apply rN | apply rD)); exact HO664.out) hb); have n2_ := Aside0.mk (Kd.R_below (by (with_reducible repeat (first | apply rA | apply rN | apply rD)); exact HO669.out) hb); have n3_ := Aside0.mk (Kd.R_below (by (with_reducible repeat (first | apply rA | apply rN | apply rD)); exact HO673.out) hb); have n4_ := Aside0.mk (blk_below (g := gb657) (o := .cells #[.slice A0_0 l0_0.length c0_0] 24 (0, 0)) (kx_ BK657.out) hb); have n5_ := Aside0.mk (blk_below (g := gb666) (o := .cells #[.slice Ao20 t662.length co20] 30 (0, 0)) (kx_ BK666.out) hb); have n6_ := Aside0.mk (blk_below (g := gb670) (o := .cells #[.slice Ao26 t667.length co26] 30 (0, 0)) (kx_ BK670.out) hb); have n7_ := Aside0.mk (below_step (by repeat (first | (with_reducible first | exact HB.out | apply bA | apply bN | apply bD | refine below_set ?_ GE657.out | refine below_set ?_ GE666.out | refine below_set ?_ GE670.out) | exact HB.out)) hb); have n8_ := Aside0.mk (hbox); have n9_ := Aside0.mk ((by rw [hg]; exact (below_size (by repeat (first | (with_reducible first | exact HB.out | apply bA | apply bN | apply bD | refine below_set ?_ GE657.out | refine below_set ?_ GE666.out | refine below_set ?_ GE670.out) | exact HB.out))) : w.heap.size ≤ gb675)); have n10_ := Aside0.mk ((by rw [hg]; exact (below_size (by repeat (first | (with_reducible first | exact HB.out | apply bA | apply bN | apply bD | refine below_set ?_ GE657.out | refine below_set ?_ GE666.out | refine below_set ?_ GE670.out) | exact HB.out))) : w.heap.size ≤ gb675)); have n11_ := Aside0.mk ((by rw [hg]; exact Nat.ne_of_lt (blk_lt (g := gb657) (o := .cells #[.slice A0_0 l0_0.length c0_0] 24 (0, 0)) (kx_ BK657.out)) : gb657 ≠ gb675)); have n12_ := Aside0.mk ((by rw [hg]; exact Nat.ne_of_gt (blk_lt (g := gb657) (o := .cells #[.slice A0_0 l0_0.length c0_0] 24 (0, 0)) (kx_ BK657.out)) : gb675 ≠ gb657)); have n13_ := Aside0.mk ((by rw [hg]; exact Nat.ne_of_lt (blk_lt (g := gb666) (o := .cells #[.slice Ao20 t662.length co20] 30 (0, 0)) (kx_ BK666.out)) : gb666 ≠ gb675)); have n14_ := Aside0.mk ((by rw [hg]; exact Nat.ne_of_gt (blk_lt (g := gb666) (o := .cells #[.slice Ao20 t662.length co20] 30 (0, 0)) (kx_ BK666.out)) : gb675 ≠ gb666)); have n15_ := Aside0.mk ((by rw [hg]; exact Nat.ne_of_lt (blk_lt (g := gb670) (o := .cells #[.slice Ao26 t667.length co26] 30 (0, 0)) (kx_ BK670.out)) : gb670 ≠ gb675)); have n16_ := Aside0.mk ((by rw [hg]; exact Nat.ne_of_gt (blk_lt (g := gb670) (o := .cells #[.slice Ao26 t667.length co26] 30 (0, 0)) (kx_ BK670.out)) : gb675 ≠ gb670)); clear HO661; clear HO664; clear HO669; clear HO673; clear BK657; clear BK666; clear BK670; clear HB; have HO661 := n0_; have HO664 := n1_; have HO669 := n2_; have HO673 := n3_; have BK657 := n4_; have BK666 := n5_; have BK670 := n6_; have HB := n7_; have BK675 := n8_; have GW675 := n9_; have GE675 := n10_; have NB657_675 := n11_; have NB675_657 := n12_; have NB666_675 := n13_; have NB675_666 := n14_; have NB670_675 := n15_; have NB675_670 := n16_; clear n0_ n1_ n2_ n3_ n4_ n5_ n6_ n7_ n8_ n9_ n10_ n11_ n12_ n13_ n14_ n15_ n16_; clear hb hbox hg; obtain ⟨Ao32, co32, eo32⟩ := Kd.R_slice HO673.out; subst eo32; have hnb33 := NB675_657.out; have hnc33 := NB657_675.out; have hnb34 := NB675_666.out; have hnc34 := NB666_675.out; have hnb35 := NB675_670.out; have hnc35 := NB670_675.out; have hcz36_0 : w31.cell? ⟨gb675, 0, none⟩ = some (.slice none 0 0) := (blk_cell BK675.out 0).trans rfl; have hfz36_0 := blk_frozen BK675.out 0))
  (try simp only [Act.put, List.setIfInBounds_toArray, List.set_cons_zero, List.set_cons_succ])
  go_cut [40] (fun v40 wc => ∃ (kq : Nat) (x40_10 : Bool), v40 = .bool x40_10 ∧ Aside0 (laws_FnExactHarderPuzzle.j0 kq t665 t674 x40_10 l0_0 t662 t667 t671 = some r) ∧ Aside0 (kq ≤ k) ∧ Aside0 (Kd.R k67 67 wc w.heap.size (fun k_ => some k_ ≠ ((.slice Ao26 t667.length co26) : Value).ownBlock ∧ some k_ ≠ ((.slice Ao32 t671.length co32) : Value).ownBlock) (.slice Ao20 t662.length co20) t662) ∧ Aside0 (Kd.R k67 67 wc w.heap.size (fun k_ => some k_ ≠ ((.slice Ao20 t662.length co20) : Value).ownBlock ∧ some k_ ≠ ((.slice Ao32 t671.length co32) : Value).ownBlock) (.slice Ao26 t667.length co26) t667) ∧ Aside0 (Kd.R k67 67 wc w.heap.size (fun k_ => some k_ ≠ ((.slice Ao20 t662.length co20) : Value).ownBlock ∧ some k_ ≠ ((.slice Ao26 t667.length co26) : Value).ownBlock) (.slice Ao32 t671.length co32) t671) ∧ Aside0 (wc.heap[gb657]? = some (.cells #[(.slice A0_0 l0_0.length c0_0)] 24 (0, 0))) ∧ Aside0 (wc.heap[gb666]? = some (.cells #[(.slice Ao20 t662.length co20)] 30 (0, 0))) ∧ Aside0 (wc.heap[gb670]? = some (.cells #[(.slice Ao26 t667.length co26)] 30 (0, 0))) ∧ Aside0 (wc.heap[gb675]? = some (.cells #[(.slice Ao32 t671.length co32)] 30 (0, 0))) ∧ Aside0 (Below w.heap.size w wc))
  case first =>
   have H := HC11.out
   clear HC11
   replace H := bI H
   obtain ⟨t676, A370, H⟩ := H
   replace H : (if t676 = true then (laws_FnExactHarderPuzzle.j0 k t665 t674 (t674 != t665) l0_0 t662 t667 t671) else (laws_FnExactHarderPuzzle.j0 k t665 t674 true l0_0 t662 t667 t671)) = some r := H
   have A37 := Aside0.mk A370
   clear A370
   by_cases c38 : t676 = true
   ·subst c38
    have H1 : (laws_FnExactHarderPuzzle.j0 k t665 t674 (t674 != t665) l0_0 t662 t667 t671) = some r := by rw [if_pos rfl] at H; exact H
    clear H
    have H := H1
    clear H1
    have H' := Aside0.mk H
    clear H
    have hnb39 := NB675_657.out
    have hnc39 := NB657_675.out
    have hnb40 := NB675_666.out
    have hnc40 := NB666_675.out
    have hnb41 := NB675_670.out
    have hnc41 := NB670_675.out
    have hcz42_0 : w31.cell? ⟨gb675, 0, none⟩ = some (.slice none 0 0) := (blk_cell BK675.out 0).trans rfl
    have hfz42_0 := blk_frozen BK675.out 0
    have hnb43 := NB666_657.out
    have hnc43 := NB657_666.out
    have hnb44 := NB666_670.out
    have hnc44 := NB670_666.out
    have hcz45_0 : w31.cell? ⟨gb666, 0, none⟩ = some (.slice Ao20 t662.length co20) := (blk_cell BK666.out 0).trans rfl
    have hfz45_0 := blk_frozen BK666.out 0
    go_wp2_with (first | ((with_reducible refine gate_callee (f := 16) rfl ?_); refine goesL_ (some 34) rfl rfl Try.func16 (by kernel_rfl) rfl #[.agg #[.slice Ao32 t671.length co32], .agg #[.slice Ao20 t662.length co20]] rfl ar_ ?_; (with_reducible refine (laws_eqPuzzle.calls k _ _ t671 _ _ t662 true _ ?side1 ?side2 ?side3 ?side4 A37.out).mono ?_); (case side1 => refine (Kd.R_reads' (e := 67) (base := w.heap.size) (ok := fun k_ => (((True ∧ some k_ ≠ (.slice Ao17 t659.length co17 : Value).ownBlock) ∧ some k_ ≠ (.slice Ao20 t662.length co20 : Value).ownBlock) ∧ some k_ ≠ (.slice Ao26 t667.length co26 : Value).ownBlock)) (n := t671.length) (c := co32) ?_).2.2; exact (by (with_reducible repeat (first | apply rA | apply rN | apply rD)); exact (Kd.R_mono (Kd.R_far (p := ⟨gb675, 0, none⟩) (Kd.R_types HO673.out BK675.out (by decide)) (fun _ hk => hk.2) (.slice Ao32 t671.length co32)) (fun _ h_ => h_.1)))); (case side2 => exact (Kd.R_reads' HO673.out).2.1); (case side3 => refine (Kd.R_reads' (e := 67) (base := w.heap.size) (ok := fun k_ => (((True ∧ some k_ ≠ (.slice Ao17 t659.length co17 : Value).ownBlock) ∧ some k_ ≠ (.slice Ao26 t667.length co26 : Value).ownBlock) ∧ some k_ ≠ (.slice Ao32 t671.length co32 : Value).ownBlock)) (n := t662.length) (c := co20) ?_).2.2; exact (by (with_reducible repeat (first | apply rA | apply rN | apply rD)); exact (Kd.R_mono (Kd.R_far (p := ⟨gb675, 0, none⟩) (Kd.R_types HO664.out BK675.out (by decide)) (fun _ hk => hk.2) (.slice Ao32 t671.length co32)) (fun _ h_ => h_.1)))); (case side4 => exact (Kd.R_reads' HO664.out).2.1); rintro e w46 ⟨rfl, hb⟩; refine ⟨_, rfl, ?_⟩; have n0_ := Aside0.mk (Kd.R_below (by (with_reducible repeat (first | apply rA | apply rN | apply rD)); exact (Kd.R_mono (Kd.R_far (p := ⟨gb675, 0, none⟩) (Kd.R_types HO661.out BK675.out (by decide)) (fun _ hk => hk.2) (.slice Ao32 t671.length co32)) (fun _ h_ => h_.1))) hb); have n1_ := Aside0.mk (Kd.R_below (by (with_reducible repeat (first | apply rA | apply rN | apply rD)); exact (Kd.R_mono (Kd.R_far (p := ⟨gb675, 0, none⟩) (Kd.R_types HO664.out BK675.out (by decide)) (fun _ hk => hk.2) (.slice Ao32 t671.length co32)) (fun _ h_ => h_.1))) hb); have n2_ := Aside0.mk (Kd.R_below (by (with_reducible repeat (first | apply rA | apply rN | apply rD)); exact (Kd.R_mono (Kd.R_far (p := ⟨gb675, 0, none⟩) (Kd.R_types HO669.out BK675.out (by decide)) (fun _ hk => hk.2) (.slice Ao32 t671.length co32)) (fun _ h_ => h_.1))) hb); have n3_ := Aside0.mk (Kd.R_below (by (with_reducible repeat (first | apply rA | apply rN | apply rD)); exact (Kd.R_mono (Kd.R_far (p := ⟨gb675, 0, none⟩) (Kd.R_types HO673.out BK675.out (by decide)) (fun _ hk => hk.2) (.slice Ao32 t671.length co32)) (fun _ h_ => h_.1))) hb); have n4_ := Aside0.mk (blk_below (g := gb657) (o := .cells #[.slice A0_0 l0_0.length c0_0] 24 (0, 0)) (by (with_reducible repeat (first | refine kN ?_ _ | refine kD ?_ | refine kA ?_ _)); refine blk_far ?_ NB657_675.out _; (with_reducible repeat (first | refine kN ?_ _ | refine kD ?_ | refine kA ?_ _)); exact BK657.out) hb); have n5_ := Aside0.mk (blk_below (g := gb666) (o := .cells #[.slice Ao20 t662.length co20] 30 (0, 0)) (by (with_reducible repeat (first | refine kN ?_ _ | refine kD ?_ | refine kA ?_ _)); refine blk_far ?_ NB666_675.out _; (with_reducible repeat (first | refine kN ?_ _ | refine kD ?_ | refine kA ?_ _)); exact BK666.out) hb); have n6_ := Aside0.mk (blk_below (g := gb670) (o := .cells #[.slice Ao26 t667.length co26] 30 (0, 0)) (by (with_reducible repeat (first | refine kN ?_ _ | refine kD ?_ | refine kA ?_ _)); refine blk_far ?_ NB670_675.out _; (with_reducible repeat (first | refine kN ?_ _ | refine kD ?_ | refine kA ?_ _)); exact BK670.out) hb); have n7_ := Aside0.mk (blk_below (g := gb675) (o := .cells #[.slice Ao32 t671.length co32] 30 (0, 0)) (by (with_reducible repeat (first | refine kN ?_ _ | refine kD ?_ | refine kA ?_ _)); refine blk_put (cs := #[.slice none 0 0]) ?_ 0 _ rfl; (with_reducible repeat (first | refine kN ?_ _ | refine kD ?_ | refine kA ?_ _)); exact BK675.out) hb); have n8_ := Aside0.mk (below_step (by repeat (first | (with_reducible first | exact HB.out | apply bA | apply bN | apply bD | refine below_set ?_ GE657.out | refine below_set ?_ GE666.out | refine below_set ?_ GE670.out | refine below_set ?_ GE675.out) | exact HB.out)) hb); clear HO661; clear HO664; clear HO669; clear HO673; clear BK657; clear BK666; clear BK670; clear BK675; clear HB; have HO661 := n0_; have HO664 := n1_; have HO669 := n2_; have HO673 := n3_; have BK657 := n4_; have BK666 := n5_; have BK670 := n6_; have BK675 := n7_; have HB := n8_; clear n0_ n1_ n2_ n3_ n4_ n5_ n6_ n7_ n8_; (try clear hb); (try clear hb2); (try clear hk); (try clear hi)))
    go_meet
    case rel => exact ⟨_, ((t674 != t665)), (by first | rfl | (simp; done) | (simp [*]; done)), H', ⟨by first | omega | exact Nat.le_refl _⟩, ⟨by (with_reducible repeat (first | apply rA | apply rN | apply rD)); exact Kd.R_mono HO664.out (fun _ hk => ⟨hk.1.2, hk.2⟩)⟩, ⟨by (with_reducible repeat (first | apply rA | apply rN | apply rD)); exact Kd.R_mono HO669.out (fun _ hk => ⟨hk.1.2, hk.2⟩)⟩, ⟨by (with_reducible repeat (first | apply rA | apply rN | apply rD)); exact Kd.R_mono HO673.out (fun _ hk => ⟨hk.1.2, hk.2⟩)⟩, ⟨by (with_reducible repeat (first | refine kN ?_ _ | refine kD ?_ | refine kA ?_ _)); exact BK657.out⟩, ⟨by (with_reducible repeat (first | refine kN ?_ _ | refine kD ?_ | refine kA ?_ _)); exact BK666.out⟩, ⟨by (with_reducible repeat (first | refine kN ?_ _ | refine kD ?_ | refine kA ?_ _)); exact BK670.out⟩, ⟨by (with_reducible repeat (first | refine kN ?_ _ | refine kD ?_ | refine kA ?_ _)); exact BK675.out⟩, ⟨by repeat (first | (with_reducible first | exact HB.out | apply bA | apply bN | apply bD | refine below_set ?_ GE657.out | refine below_set ?_ GE666.out | refine below_set ?_ GE670.out | refine below_set ?_ GE675.out) | exact HB.out)⟩⟩
   ·replace c38 := Bool.eq_false_iff.mpr c38
    subst c38
    have H1 : (laws_FnExactHarderPuzzle.j0 k t665 t674 true l0_0 t662 t667 t671) = some r := by rw [if_neg (show ¬ (false = true) by decide)] at H; exact H
    clear H
    have H := H1
    clear H1
    have H' := Aside0.mk H
    clear H
    have hnb47 := NB675_657.out
    have hnc47 := NB657_675.out
    have hnb48 := NB675_666.out
    have hnc48 := NB666_675.out
    have hnb49 := NB675_670.out
    have hnc49 := NB670_675.out
    have hcz50_0 : w31.cell? ⟨gb675, 0, none⟩ = some (.slice none 0 0) := (blk_cell BK675.out 0).trans rfl
    have hfz50_0 := blk_frozen BK675.out 0
    have hnb51 := NB666_657.out
    have hnc51 := NB657_666.out
    have hnb52 := NB666_670.out
    have hnc52 := NB670_666.out
    have hcz53_0 : w31.cell? ⟨gb666, 0, none⟩ = some (.slice Ao20 t662.length co20) := (blk_cell BK666.out 0).trans rfl
    have hfz53_0 := blk_frozen BK666.out 0
    go_wp2_with (first | ((with_reducible refine gate_callee (f := 16) rfl ?_); refine goesL_ (some 34) rfl rfl Try.func16 (by kernel_rfl) rfl #[.agg #[.slice Ao32 t671.length co32], .agg #[.slice Ao20 t662.length co20]] rfl ar_ ?_; (with_reducible refine (laws_eqPuzzle.calls k _ _ t671 _ _ t662 false _ ?side1 ?side2 ?side3 ?side4 A37.out).mono ?_); (case side1 => refine (Kd.R_reads' (e := 67) (base := w.heap.size) (ok := fun k_ => (((True ∧ some k_ ≠ (.slice Ao17 t659.length co17 : Value).ownBlock) ∧ some k_ ≠ (.slice Ao20 t662.length co20 : Value).ownBlock) ∧ some k_ ≠ (.slice Ao26 t667.length co26 : Value).ownBlock)) (n := t671.length) (c := co32) ?_).2.2; exact (by (with_reducible repeat (first | apply rA | apply rN | apply rD)); exact (Kd.R_mono (Kd.R_far (p := ⟨gb675, 0, none⟩) (Kd.R_types HO673.out BK675.out (by decide)) (fun _ hk => hk.2) (.slice Ao32 t671.length co32)) (fun _ h_ => h_.1)))); (case side2 => exact (Kd.R_reads' HO673.out).2.1); (case side3 => refine (Kd.R_reads' (e := 67) (base := w.heap.size) (ok := fun k_ => (((True ∧ some k_ ≠ (.slice Ao17 t659.length co17 : Value).ownBlock) ∧ some k_ ≠ (.slice Ao26 t667.length co26 : Value).ownBlock) ∧ some k_ ≠ (.slice Ao32 t671.length co32 : Value).ownBlock)) (n := t662.length) (c := co20) ?_).2.2; exact (by (with_reducible repeat (first | apply rA | apply rN | apply rD)); exact (Kd.R_mono (Kd.R_far (p := ⟨gb675, 0, none⟩) (Kd.R_types HO664.out BK675.out (by decide)) (fun _ hk => hk.2) (.slice Ao32 t671.length co32)) (fun _ h_ => h_.1)))); (case side4 => exact (Kd.R_reads' HO664.out).2.1); rintro e w54 ⟨rfl, hb⟩; refine ⟨_, rfl, ?_⟩; have n0_ := Aside0.mk (Kd.R_below (by (with_reducible repeat (first | apply rA | apply rN | apply rD)); exact (Kd.R_mono (Kd.R_far (p := ⟨gb675, 0, none⟩) (Kd.R_types HO661.out BK675.out (by decide)) (fun _ hk => hk.2) (.slice Ao32 t671.length co32)) (fun _ h_ => h_.1))) hb); have n1_ := Aside0.mk (Kd.R_below (by (with_reducible repeat (first | apply rA | apply rN | apply rD)); exact (Kd.R_mono (Kd.R_far (p := ⟨gb675, 0, none⟩) (Kd.R_types HO664.out BK675.out (by decide)) (fun _ hk => hk.2) (.slice Ao32 t671.length co32)) (fun _ h_ => h_.1))) hb); have n2_ := Aside0.mk (Kd.R_below (by (with_reducible repeat (first | apply rA | apply rN | apply rD)); exact (Kd.R_mono (Kd.R_far (p := ⟨gb675, 0, none⟩) (Kd.R_types HO669.out BK675.out (by decide)) (fun _ hk => hk.2) (.slice Ao32 t671.length co32)) (fun _ h_ => h_.1))) hb); have n3_ := Aside0.mk (Kd.R_below (by (with_reducible repeat (first | apply rA | apply rN | apply rD)); exact (Kd.R_mono (Kd.R_far (p := ⟨gb675, 0, none⟩) (Kd.R_types HO673.out BK675.out (by decide)) (fun _ hk => hk.2) (.slice Ao32 t671.length co32)) (fun _ h_ => h_.1))) hb); have n4_ := Aside0.mk (blk_below (g := gb657) (o := .cells #[.slice A0_0 l0_0.length c0_0] 24 (0, 0)) (by (with_reducible repeat (first | refine kN ?_ _ | refine kD ?_ | refine kA ?_ _)); refine blk_far ?_ NB657_675.out _; (with_reducible repeat (first | refine kN ?_ _ | refine kD ?_ | refine kA ?_ _)); exact BK657.out) hb); have n5_ := Aside0.mk (blk_below (g := gb666) (o := .cells #[.slice Ao20 t662.length co20] 30 (0, 0)) (by (with_reducible repeat (first | refine kN ?_ _ | refine kD ?_ | refine kA ?_ _)); refine blk_far ?_ NB666_675.out _; (with_reducible repeat (first | refine kN ?_ _ | refine kD ?_ | refine kA ?_ _)); exact BK666.out) hb); have n6_ := Aside0.mk (blk_below (g := gb670) (o := .cells #[.slice Ao26 t667.length co26] 30 (0, 0)) (by (with_reducible repeat (first | refine kN ?_ _ | refine kD ?_ | refine kA ?_ _)); refine blk_far ?_ NB670_675.out _; (with_reducible repeat (first | refine kN ?_ _ | refine kD ?_ | refine kA ?_ _)); exact BK670.out) hb); have n7_ := Aside0.mk (blk_below (g := gb675) (o := .cells #[.slice Ao32 t671.length co32] 30 (0, 0)) (by (with_reducible repeat (first | refine kN ?_ _ | refine kD ?_ | refine kA ?_ _)); refine blk_put (cs := #[.slice none 0 0]) ?_ 0 _ rfl; (with_reducible repeat (first | refine kN ?_ _ | refine kD ?_ | refine kA ?_ _)); exact BK675.out) hb); have n8_ := Aside0.mk (below_step (by repeat (first | (with_reducible first | exact HB.out | apply bA | apply bN | apply bD | refine below_set ?_ GE657.out | refine below_set ?_ GE666.out | refine below_set ?_ GE670.out | refine below_set ?_ GE675.out) | exact HB.out)) hb); clear HO661; clear HO664; clear HO669; clear HO673; clear BK657; clear BK666; clear BK670; clear BK675; clear HB; have HO661 := n0_; have HO664 := n1_; have HO669 := n2_; have HO673 := n3_; have BK657 := n4_; have BK666 := n5_; have BK670 := n6_; have BK675 := n7_; have HB := n8_; clear n0_ n1_ n2_ n3_ n4_ n5_ n6_ n7_ n8_; (try clear hb); (try clear hb2); (try clear hk); (try clear hi)))
    go_meet
    case rel => exact ⟨_, (true), (by first | rfl | (simp; done) | (simp [*]; done)), H', ⟨by first | omega | exact Nat.le_refl _⟩, ⟨by (with_reducible repeat (first | apply rA | apply rN | apply rD)); exact Kd.R_mono HO664.out (fun _ hk => ⟨hk.1.2, hk.2⟩)⟩, ⟨by (with_reducible repeat (first | apply rA | apply rN | apply rD)); exact Kd.R_mono HO669.out (fun _ hk => ⟨hk.1.2, hk.2⟩)⟩, ⟨by (with_reducible repeat (first | apply rA | apply rN | apply rD)); exact Kd.R_mono HO673.out (fun _ hk => ⟨hk.1.2, hk.2⟩)⟩, ⟨by (with_reducible repeat (first | refine kN ?_ _ | refine kD ?_ | refine kA ?_ _)); exact BK657.out⟩, ⟨by (with_reducible repeat (first | refine kN ?_ _ | refine kD ?_ | refine kA ?_ _)); exact BK666.out⟩, ⟨by (with_reducible repeat (first | refine kN ?_ _ | refine kD ?_ | refine kA ?_ _)); exact BK670.out⟩, ⟨by (with_reducible repeat (first | refine kN ?_ _ | refine kD ?_ | refine kA ?_ _)); exact BK675.out⟩, ⟨by repeat (first | (with_reducible first | exact HB.out | apply bA | apply bN | apply bD | refine below_set ?_ GE657.out | refine below_set ?_ GE666.out | refine below_set ?_ GE670.out | refine below_set ?_ GE675.out) | exact HB.out)⟩⟩
  case rest =>
   clear HC11
   try clear c1
   try clear c2
   try clear p2
   try clear c3
   try clear c3b0
   try clear c4
   try clear c5
   try clear c10
   try clear c12
   try clear c14
   try clear c16
   try clear c21
   try clear c27
   try clear c28
   try clear c33
   try clear c34
   try clear c35
   try clear c37
   try clear c38
   try clear c39
   try clear c40
   try clear c41
   try clear c43
   try clear c44
   try clear c47
   try clear c48
   try clear c49
   try clear c51
   try clear c52
   try clear hcz13_0
   try clear hcz15_0
   try clear hcz22_0
   try clear hcz23_0
   try clear hcz29_0
   try clear hcz36_0
   try clear hcz42_0
   try clear hcz45_0
   try clear hcz50_0
   try clear hcz53_0
   try clear hcz5_0
   try clear hfz13_0
   try clear hfz15_0
   try clear hfz22_0
   try clear hfz23_0
   try clear hfz29_0
   try clear hfz36_0
   try clear hfz42_0
   try clear hfz45_0
   try clear hfz50_0
   try clear hfz53_0
   try clear hfz5_0
   obtain ⟨kq, x40_10, rfl, HA, HJ10, HO_667000, HO_671000, HO_676000, BK657, BK666, BK670, BK675, HB⟩ := hcut
   cases kq with
   | zero => exact absurd HA.out (by simp [laws_FnExactHarderPuzzle.j0])
   | succ kj10 =>
    have H := HA.out
    clear HA
    simp only [laws_FnExactHarderPuzzle.j0] at H
    by_cases c55 : x40_10 = true
    ·subst c55
     have H1 : (some false) = some r := by rw [if_pos rfl] at H; exact H
     clear H
     have H := H1
     clear H1
     obtain rfl := oI H
     go_wp2
     go_ret
     exact ⟨by first | rfl | (simp [errW_none, errW_some] <;> rfl) | (simp [*, errW_none, errW_some] <;> rfl), by repeat (first | (with_reducible first | exact HB.out | apply bA | apply bN | apply bD | refine below_set ?_ GE657.out | refine below_set ?_ GE666.out | refine below_set ?_ GE670.out | refine below_set ?_ GE675.out) | exact HB.out)⟩
    ·replace c55 := Bool.eq_false_iff.mpr c55
     subst c55
     have H1 : ((laws_toPuzzle.f kj10 l0_0).bind fun t677 => ((laws_eqPuzzle.f kj10 t667 t677).bind fun t680 => (if t680 = true then ((laws_markPuzzle.f kj10 t667 1).bind fun bt681 => (if bt681.1 < 0 then (laws_FnExactHarderPuzzle.j1 kj10 t665 true l0_0 t662 t671) else ((laws_eqPuzzle.f kj10 t671 t662).bind fun t683 => (if t683 = true then (laws_FnExactHarderPuzzle.j1 kj10 t665 (t674 != t665) l0_0 t662 t671) else (laws_FnExactHarderPuzzle.j1 kj10 t665 true l0_0 t662 t671))))) else (some false)))) = some r := by rw [if_neg (show ¬ (false = true) by decide)] at H; exact H
     clear H
     have H := H1
     clear H1
     replace H := bI H
     obtain ⟨t677, A560, H⟩ := H
     replace H : ((laws_eqPuzzle.f kj10 t667 t677).bind fun t680 => (if t680 = true then ((laws_markPuzzle.f kj10 t667 1).bind fun bt681 => (if bt681.1 < 0 then (laws_FnExactHarderPuzzle.j1 kj10 t665 true l0_0 t662 t671) else ((laws_eqPuzzle.f kj10 t671 t662).bind fun t683 => (if t683 = true then (laws_FnExactHarderPuzzle.j1 kj10 t665 (t674 != t665) l0_0 t662 t671) else (laws_FnExactHarderPuzzle.j1 kj10 t665 true l0_0 t662 t671))))) else (some false))) = some r := H
     have A56 := Aside0.mk A560
     clear A560
     replace H := bI H
     obtain ⟨t680, A570, H⟩ := H
     replace H : (if t680 = true then ((laws_markPuzzle.f kj10 t667 1).bind fun bt681 => (if bt681.1 < 0 then (laws_FnExactHarderPuzzle.j1 kj10 t665 true l0_0 t662 t671) else ((laws_eqPuzzle.f kj10 t671 t662).bind fun t683 => (if t683 = true then (laws_FnExactHarderPuzzle.j1 kj10 t665 (t674 != t665) l0_0 t662 t671) else (laws_FnExactHarderPuzzle.j1 kj10 t665 true l0_0 t662 t671))))) else (some false)) = some r := H
     have A57 := Aside0.mk A570
     clear A570
     by_cases c58 : t680 = true
     ·subst c58
      have H1 : ((laws_markPuzzle.f kj10 t667 1).bind fun bt681 => (if bt681.1 < 0 then (laws_FnExactHarderPuzzle.j1 kj10 t665 true l0_0 t662 t671) else ((laws_eqPuzzle.f kj10 t671 t662).bind fun t683 => (if t683 = true then (laws_FnExactHarderPuzzle.j1 kj10 t665 (t674 != t665) l0_0 t662 t671) else (laws_FnExactHarderPuzzle.j1 kj10 t665 true l0_0 t662 t671))))) = some r := by rw [if_pos rfl] at H; exact H
      clear H
      have H := H1
      clear H1
      replace H := bI H
      obtain ⟨⟨t681, t682⟩, A590, H⟩ := H
      replace H : (if t681 < 0 then (laws_FnExactHarderPuzzle.j1 kj10 t665 true l0_0 t662 t671) else ((laws_eqPuzzle.f kj10 t671 t662).bind fun t683 => (if t683 = true then (laws_FnExactHarderPuzzle.j1 kj10 t665 (t674 != t665) l0_0 t662 t671) else (laws_FnExactHarderPuzzle.j1 kj10 t665 true l0_0 t662 t671)))) = some r := H
      have A59 := Aside0.mk A590
      clear A590
      have HC60 := Aside0.mk H
      clear H
      try go_wp2
      have n0_ := Aside0.mk (Kd.R_drew HO_667000.out)
      have n1_ := Aside0.mk (Kd.R_drew HO_671000.out)
      have n2_ := Aside0.mk (Kd.R_drew HO_676000.out)
      have n3_ := Aside0.mk (blk_drew BK657.out)
      have n4_ := Aside0.mk (blk_drew BK666.out)
      have n5_ := Aside0.mk (blk_drew BK670.out)
      have n6_ := Aside0.mk (blk_drew BK675.out)
      have n7_ := Aside0.mk (below_drew1 HB.out)
      clear HO_667000
      clear HO_671000
      clear HO_676000
      clear BK657
      clear BK666
      clear BK670
      clear BK675
      clear HB
      have HO_667000 := n0_
      have HO_671000 := n1_
      have HO_676000 := n2_
      have BK657 := n3_
      have BK666 := n4_
      have BK670 := n5_
      have BK675 := n6_
      have HB := n7_
      clear n0_ n1_ n2_ n3_ n4_ n5_ n6_ n7_
      refine start_ (n := 5) (S := fun w' => w'.cell? ⟨gb670, 0, none⟩ = some (.slice Ao26 t667.length co26) ∧ w'.cell? ⟨gb657, 0, none⟩ = some (.slice A0_0 l0_0.length c0_0)) (ds := []) #[false, false, false, false, false] (by kernel_rfl) rfl rfl ⟨(blk_cell BK670.out 0).trans rfl, (blk_cell BK657.out 0).trans rfl⟩ (fun hHeld => ?_)
      generalize wc.drew = w61 at HO_667000 HO_671000 HO_676000 BK657 BK666 BK670 BK675 HB hHeld ⊢
      refine take_ (i := 0) (N := some 41) (v := ?_) (a' := ?_) #[true, false, false, false, false] rfl rfl (by kernel_rfl) (fun _ _ _ h => h) (Or.inl ⟨by rfl, ?_⟩) hHeld ?_ ?_
      rotate_left
      ·rintro w' ⟨s0, s1⟩
       go_simp
       with_reducible rfl
      rotate_left
      ·simp only [Act.put, sT, sZ, sS, i64_w, i32_w]
       rfl
      refine take_ (i := 1) (N := some 42) (v := ?_) (a' := ?_) #[true, true, false, false, false] rfl rfl (by kernel_rfl) (fun _ _ _ h => h) (Or.inl ⟨by rfl, ?_⟩) hHeld ?_ ?_
      rotate_left
      ·rintro w' ⟨s0, s1⟩
       go_simp
       with_reducible rfl
      rotate_left
      ·simp only [Act.put, sT, sZ, sS, i64_w, i32_w]
       rfl
      refine one_ (i := 2) (N := some 43) #[true, true, true, false, false] rfl rfl (by kernel_rfl) (by decide) (fun K hK => ?_)
      refine goes_ Try.func14 (by kernel_rfl) rfl #[.agg #[.slice A0_0 l0_0.length c0_0]] (by rfl) rfl rfl ar_ ?_
      with_reducible refine (laws_toPuzzle.calls kj10 _ _ l0_0 t677 _ ?side1 ?side2 A56.out).mono ?_
      (case side1 => repeat (first | exact (Kd.C_below HR0_0.out HB.out) | (with_reducible refine Kd.C_alloc ?_ _) | (with_reducible refine Kd.C_drewN ?_ _) | (with_reducible refine Kd.C_drew ?_)))
      (case side2 => exact HC0_0.out)
      rintro e w62 ⟨v678, rfl, ho0, hb⟩
      refine ⟨_, rfl, ?_⟩
      have n0_ := Aside0.mk (Kd.R_elder' (by (with_reducible repeat (first | apply rA | apply rN | apply rD)); exact HO_667000.out) (Kd.R_base ho0) hb)
      have n1_ := Aside0.mk (Kd.R_elder' (by (with_reducible repeat (first | apply rA | apply rN | apply rD)); exact HO_671000.out) (Kd.R_base ho0) hb)
      have n2_ := Aside0.mk (Kd.R_elder' (by (with_reducible repeat (first | apply rA | apply rN | apply rD)); exact HO_676000.out) (Kd.R_base ho0) hb)
      have n3_ := Aside0.mk (Kd.R_lower (Kd.R_new' (Kd.R_new' (Kd.R_new' ho0 (Kd.R_lt (by (with_reducible repeat (first | apply rA | apply rN | apply rD)); exact HO_667000.out))) (Kd.R_lt (by (with_reducible repeat (first | apply rA | apply rN | apply rD)); exact HO_671000.out))) (Kd.R_lt (by (with_reducible repeat (first | apply rA | apply rN | apply rD)); exact HO_676000.out))) (below_size (by repeat (first | (with_reducible first | exact HB.out | apply bA | apply bN | apply bD | refine below_set ?_ GE657.out | refine below_set ?_ GE666.out | refine below_set ?_ GE670.out | refine below_set ?_ GE675.out) | exact HB.out))))
      have n4_ := Aside0.mk (blk_below (g := gb657) (o := .cells #[.slice A0_0 l0_0.length c0_0] 24 (0, 0)) (kx_ BK657.out) hb)
      have n5_ := Aside0.mk (blk_below (g := gb666) (o := .cells #[.slice Ao20 t662.length co20] 30 (0, 0)) (kx_ BK666.out) hb)
      have n6_ := Aside0.mk (blk_below (g := gb670) (o := .cells #[.slice Ao26 t667.length co26] 30 (0, 0)) (kx_ BK670.out) hb)
      have n7_ := Aside0.mk (blk_below (g := gb675) (o := .cells #[.slice Ao32 t671.length co32] 30 (0, 0)) (kx_ BK675.out) hb)
      have n8_ := Aside0.mk (below_step (by repeat (first | (with_reducible first | exact HB.out | apply bA | apply bN | apply bD | refine below_set ?_ GE657.out | refine below_set ?_ GE666.out | refine below_set ?_ GE670.out | refine below_set ?_ GE675.out) | exact HB.out)) hb)
      clear HO_667000
      clear HO_671000
      clear HO_676000
      clear BK657
      clear BK666
      clear BK670
      clear BK675
      clear HB
      have HO_667000 := n0_
      have HO_671000 := n1_
      have HO_676000 := n2_
      have HO679 := n3_
      have BK657 := n4_
      have BK666 := n5_
      have BK670 := n6_
      have BK675 := n7_
      have HB := n8_
      clear n0_ n1_ n2_ n3_ n4_ n5_ n6_ n7_ n8_
      (try clear hb)
      (try clear hb2)
      (try clear hk)
      (try clear hi)
      (try clear ho0)
      obtain ⟨Ao63, co63, eo63⟩ := Kd.R_slice HO679.out
      (first | subst eo63 | (injection eo63 with f1_ f2_ f3_; have f4_ := f1_.symm; have f5_ := f3_.symm; clear f1_ f2_ f3_; subst f4_; subst f5_))
      refine hK.out _ _ ⟨(blk_cell BK670.out 0).trans rfl, (blk_cell BK657.out 0).trans rfl⟩ (fun hHeld => ?_)
      clear hK K
      refine norm_ (a' := ?_) ?_ ?_
      rotate_left
      ·show Act.put _ (some 43) _ = _
       simp only [Act.put, sT, sZ, sS, i64_w, i32_w]
       rfl
      refine one_ (i := 3) (N := some 44) #[true, true, true, true, false] rfl rfl (by kernel_rfl) (by decide) (fun K hK => ?_)
      refine goes_ Try.func16 (by kernel_rfl) rfl #[.agg #[.slice Ao26 t667.length co26], .agg #[.slice Ao63 t677.length co63]] (by rfl) rfl rfl ar_ ?_
      with_reducible refine (laws_eqPuzzle.calls kj10 _ _ t667 _ _ t677 true _ ?side1 ?side2 ?side3 ?side4 A57.out).mono ?_
      (case side1 => repeat (first | exact (Kd.R_reads' HO_671000.out).2.2 | (with_reducible refine Kd.C_alloc ?_ _) | (with_reducible refine Kd.C_drewN ?_ _) | (with_reducible refine Kd.C_drew ?_)))
      (case side2 => exact (Kd.R_reads' HO_671000.out).2.1)
      (case side3 => repeat (first | exact (Kd.R_reads' HO679.out).2.2 | (with_reducible refine Kd.C_alloc ?_ _) | (with_reducible refine Kd.C_drewN ?_ _) | (with_reducible refine Kd.C_drew ?_)))
      (case side4 => exact (Kd.R_reads' HO679.out).2.1)
      rintro e w64 ⟨rfl, hb⟩
      refine ⟨_, rfl, ?_⟩
      have n0_ := Aside0.mk (Kd.R_below (by (with_reducible repeat (first | apply rA | apply rN | apply rD)); exact HO_667000.out) hb)
      have n1_ := Aside0.mk (Kd.R_below (by (with_reducible repeat (first | apply rA | apply rN | apply rD)); exact HO_671000.out) hb)
      have n2_ := Aside0.mk (Kd.R_below (by (with_reducible repeat (first | apply rA | apply rN | apply rD)); exact HO_676000.out) hb)
      have n3_ := Aside0.mk (Kd.R_below (by (with_reducible repeat (first | apply rA | apply rN | apply rD)); exact HO679.out) hb)
      have n4_ := Aside0.mk (blk_below (g := gb657) (o := .cells #[.slice A0_0 l0_0.length c0_0] 24 (0, 0)) (kx_ BK657.out) hb)
      have n5_ := Aside0.mk (blk_below (g := gb666) (o := .cells #[.slice Ao20 t662.length co20] 30 (0, 0)) (kx_ BK666.out) hb)
      have n6_ := Aside0.mk (blk_below (g := gb670) (o := .cells #[.slice Ao26 t667.length co26] 30 (0, 0)) (kx_ BK670.out) hb)
      have n7_ := Aside0.mk (blk_below (g := gb675) (o := .cells #[.slice Ao32 t671.length co32] 30 (0, 0)) (kx_ BK675.out) hb)
      have n8_ := Aside0.mk (below_step (by repeat (first | (with_reducible first | exact HB.out | apply bA | apply bN | apply bD | refine below_set ?_ GE657.out | refine below_set ?_ GE666.out | refine below_set ?_ GE670.out | refine below_set ?_ GE675.out) | exact HB.out)) hb)
      clear HO_667000
      clear HO_671000
      clear HO_676000
      clear HO679
      clear BK657
      clear BK666
      clear BK670
      clear BK675
      clear HB
      have HO_667000 := n0_
      have HO_671000 := n1_
      have HO_676000 := n2_
      have HO679 := n3_
      have BK657 := n4_
      have BK666 := n5_
      have BK670 := n6_
      have BK675 := n7_
      have HB := n8_
      clear n0_ n1_ n2_ n3_ n4_ n5_ n6_ n7_ n8_
      (try clear hb)
      (try clear hb2)
      (try clear hk)
      (try clear hi)
      refine hK.out _ _ ⟨(blk_cell BK670.out 0).trans rfl, (blk_cell BK657.out 0).trans rfl⟩ (fun hHeld => ?_)
      clear hK K
      refine norm_ (a' := ?_) ?_ ?_
      rotate_left
      ·show Act.put _ (some 44) _ = _
       simp only [Act.put, sT, sZ, sS, i64_w, i32_w]
       rfl
      refine pure_ (i := 4) (N := some 45) (v := ?_) (a' := ?_) #[true, true, true, true, true] rfl rfl (by kernel_rfl) (fun _ _ _ h => h) (Or.inl ⟨by rfl, ?_⟩) ?_ ?_
      rotate_left
      ·intro w'
       go_simp
       with_reducible rfl
      rotate_left
      ·simp only [Act.put, sT, sZ, sS, i64_w, i32_w]
       rfl
      refine done_ (by kernel_rfl) ?_
      have hnb65 := NB670_657.out
      have hnc65 := NB657_670.out
      have hnb66 := NB670_666.out
      have hnc66 := NB666_670.out
      have hnb67 := NB670_675.out
      have hnc67 := NB675_670.out
      have hcz68_0 : w64.cell? ⟨gb670, 0, none⟩ = some (.slice Ao26 t667.length co26) := (blk_cell BK670.out 0).trans rfl
      have hfz68_0 := blk_frozen BK670.out 0
      go_upto_region 14 with (first | ((with_reducible refine gate_callee (f := 29) rfl ?_); refine goesL_ (some 48) rfl rfl Try.func29 (by kernel_rfl) rfl #[.agg #[.slice Ao26 t667.length co26], .int .i64 1] rfl ar_ ?_; (with_reducible refine (laws_markPuzzle.calls kj10 (fun k_ => some k_ = (.slice Ao26 t667.length co26 : Value).ownBlock) (.slice Ao26 t667.length co26) t667 1 t681 t682 w _ ?side1 ?side2 A59.out).mono ?_); (case side1 => repeat (first | (with_reducible first | exact HB.out | apply bA | apply bN | apply bD | refine below_set ?_ GE657.out | refine below_set ?_ GE666.out | refine below_set ?_ GE670.out | refine below_set ?_ GE675.out) | exact HB.out)); (case side2 => exact Kd.R_tight rfl HO_671000.out); rintro e w69 ⟨rfl, hy0, hb, hkp⟩; refine ⟨_, rfl, ?_⟩; have n0_ := Aside0.mk (Kd.R_mono (ok' := fun k_ => some k_ ≠ (.slice Ao26 t667.length co26 : Value).ownBlock ∧ some k_ ≠ (.slice Ao32 t671.length co32 : Value).ownBlock ∧ some k_ ≠ (.slice Ao63 t677.length co63 : Value).ownBlock) (Kd.R_keptB (HO_667000.out) hkp (fun k_ hk_ hs_ => (hk_.1.1) hs_)) (fun k_ hk_ => ⟨hk_.1.1.1, hk_.1.1.2, hk_.1.2⟩)); have n1_ := Aside0.mk (Kd.R_reok rfl hy0 (fun k_ e_ => HO_671000.out.1 k_ e_)); have n2_ := Aside0.mk (Kd.R_mono (ok' := fun k_ => some k_ ≠ (.slice Ao20 t662.length co20 : Value).ownBlock ∧ some k_ ≠ (.slice Ao26 t667.length co26 : Value).ownBlock ∧ some k_ ≠ (.slice Ao63 t677.length co63 : Value).ownBlock) (Kd.R_keptB (HO_676000.out) hkp (fun k_ hk_ hs_ => (hk_.1.2) hs_)) (fun k_ hk_ => ⟨hk_.1.1.1, hk_.1.1.2, hk_.1.2⟩)); have n3_ := Aside0.mk (blk_kept (kx_ BK657.out) hkp (fun hs_ => (fun e_ => (Kd.R_ne HO_671000.out BK657.out (by decide)) e_) hs_)); have n4_ := Aside0.mk (blk_kept (kx_ BK666.out) hkp (fun hs_ => (fun e_ => (Kd.R_ne HO_671000.out BK666.out (by decide)) e_) hs_)); have n5_ := Aside0.mk (blk_kept (kx_ BK670.out) hkp (fun hs_ => (fun e_ => (Kd.R_ne HO_671000.out BK670.out (by decide)) e_) hs_)); have n6_ := Aside0.mk (blk_kept (kx_ BK675.out) hkp (fun hs_ => (fun e_ => (Kd.R_ne HO_671000.out BK675.out (by decide)) e_) hs_)); have n7_ := Aside0.mk (Kd.R_mono (ok' := fun k_ => some k_ ≠ (.slice Ao20 t662.length co20 : Value).ownBlock ∧ some k_ ≠ (.slice Ao26 t667.length co26 : Value).ownBlock ∧ some k_ ≠ (.slice Ao32 t671.length co32 : Value).ownBlock) (Kd.R_keptB (HO679.out) hkp (fun k_ hk_ hs_ => (hk_.1.2) hs_)) (fun k_ hk_ => ⟨hk_.1.1.1.2, hk_.1.1.2, hk_.1.2⟩)); have n8_ := Aside0.mk (hb); clear HO_667000; clear HO_671000; clear HO_676000; clear BK657; clear BK666; clear BK670; clear BK675; clear HO679; clear HB; have HO_667000 := n0_; have HO_671000 := n1_; have HO_676000 := n2_; have BK657 := n3_; have BK666 := n4_; have BK670 := n5_; have BK675 := n6_; have HO679 := n7_; have HB := n8_; clear n0_ n1_ n2_ n3_ n4_ n5_ n6_ n7_ n8_; (try clear hb); (try clear hkp); (try clear hy0)))
      (try simp only [Act.put, List.setIfInBounds_toArray, List.set_cons_zero, List.set_cons_succ])
      go_cut [61] (fun v61 wc => ∃ (kq : Nat) (x61_59 : Bool), v61 = .bool x61_59 ∧ Aside0 (laws_FnExactHarderPuzzle.j1 kq t665 x61_59 l0_0 t662 t671 = some r) ∧ Aside0 (kq ≤ kj10) ∧ Aside0 (Kd.R k67 67 wc w.heap.size (fun k_ => some k_ ≠ ((.slice Ao26 t667.length co26) : Value).ownBlock ∧ some k_ ≠ ((.slice Ao32 t671.length co32) : Value).ownBlock) (.slice Ao20 t662.length co20) t662) ∧ Aside0 (Kd.R k67 67 wc w.heap.size (fun k_ => some k_ ≠ ((.slice Ao20 t662.length co20) : Value).ownBlock ∧ some k_ ≠ ((.slice Ao32 t671.length co32) : Value).ownBlock) (.slice Ao26 t667.length co26) t682) ∧ Aside0 (Kd.R k67 67 wc w.heap.size (fun k_ => some k_ ≠ ((.slice Ao20 t662.length co20) : Value).ownBlock ∧ some k_ ≠ ((.slice Ao26 t667.length co26) : Value).ownBlock) (.slice Ao32 t671.length co32) t671) ∧ Aside0 (wc.heap[gb657]? = some (.cells #[(.slice A0_0 l0_0.length c0_0)] 24 (0, 0))) ∧ Aside0 (wc.heap[gb666]? = some (.cells #[(.slice Ao20 t662.length co20)] 30 (0, 0))) ∧ Aside0 (wc.heap[gb670]? = some (.cells #[(.slice Ao26 t667.length co26)] 30 (0, 0))) ∧ Aside0 (wc.heap[gb675]? = some (.cells #[(.slice Ao32 t671.length co32)] 30 (0, 0))) ∧ Aside0 (Below w.heap.size w wc))
      case first =>
       have H := HC60.out
       clear HC60
       by_cases c70 : t681 < 0
       ·rw [if_pos c70] at H
        have c70b0 : decide (t681 < 0) = true := decide_eq_true c70
        clear c70
        (first | rw [c70b0] | (simp only [i64_w, i32_w]; rw [c70b0]) | skip)
        have H' := Aside0.mk H
        clear H
        go_wp2
        go_meet
        case rel => exact ⟨_, (true), (by first | rfl | (simp; done) | (simp [*]; done)), H', ⟨by have := HJ10.out; first | omega | exact Nat.le_refl _⟩, ⟨by (with_reducible repeat (first | apply rA | apply rN | apply rD)); exact Kd.R_mono HO_667000.out (fun _ hk => ⟨hk.1, hk.2.1⟩)⟩, ⟨by (with_reducible repeat (first | apply rA | apply rN | apply rD)); exact Kd.R_mono HO_671000.out (fun _ hk => ⟨hk.1.1, hk.1.2⟩)⟩, ⟨by (with_reducible repeat (first | apply rA | apply rN | apply rD)); exact Kd.R_mono HO_676000.out (fun _ hk => ⟨hk.1, hk.2.1⟩)⟩, ⟨by (with_reducible repeat (first | refine kN ?_ _ | refine kD ?_ | refine kA ?_ _)); exact BK657.out⟩, ⟨by (with_reducible repeat (first | refine kN ?_ _ | refine kD ?_ | refine kA ?_ _)); exact BK666.out⟩, ⟨by (with_reducible repeat (first | refine kN ?_ _ | refine kD ?_ | refine kA ?_ _)); exact BK670.out⟩, ⟨by (with_reducible repeat (first | refine kN ?_ _ | refine kD ?_ | refine kA ?_ _)); exact BK675.out⟩, ⟨by repeat (first | (with_reducible first | exact HB.out | apply bA | apply bN | apply bD | refine below_set ?_ GE657.out | refine below_set ?_ GE666.out | refine below_set ?_ GE670.out | refine below_set ?_ GE675.out) | exact HB.out)⟩⟩
       ·rw [if_neg c70] at H
        have c70b0 : decide (t681 < 0) = false := decide_eq_false c70
        clear c70
        (first | rw [c70b0] | (simp only [i64_w, i32_w]; rw [c70b0]) | skip)
        replace H := bI H
        obtain ⟨t683, A710, H⟩ := H
        replace H : (if t683 = true then (laws_FnExactHarderPuzzle.j1 kj10 t665 (t674 != t665) l0_0 t662 t671) else (laws_FnExactHarderPuzzle.j1 kj10 t665 true l0_0 t662 t671)) = some r := H
        have A71 := Aside0.mk A710
        clear A710
        by_cases c72 : t683 = true
        ·subst c72
         have H1 : (laws_FnExactHarderPuzzle.j1 kj10 t665 (t674 != t665) l0_0 t662 t671) = some r := by rw [if_pos rfl] at H; exact H
         clear H
         have H := H1
         clear H1
         have H' := Aside0.mk H
         clear H
         have hnb73 := NB675_657.out
         have hnc73 := NB657_675.out
         have hnb74 := NB675_666.out
         have hnc74 := NB666_675.out
         have hnb75 := NB675_670.out
         have hnc75 := NB670_675.out
         have hcz76_0 : w69.cell? ⟨gb675, 0, none⟩ = some (.slice Ao32 t671.length co32) := (blk_cell BK675.out 0).trans rfl
         have hfz76_0 := blk_frozen BK675.out 0
         have hnb77 := NB666_657.out
         have hnc77 := NB657_666.out
         have hnb78 := NB666_670.out
         have hnc78 := NB670_666.out
         have hcz79_0 : w69.cell? ⟨gb666, 0, none⟩ = some (.slice Ao20 t662.length co20) := (blk_cell BK666.out 0).trans rfl
         have hfz79_0 := blk_frozen BK666.out 0
         go_wp2_with (first | (go_at_call 16; (with_reducible refine (laws_eqPuzzle.calls kj10 _ _ t671 _ _ t662 true _ ?side1 ?side2 ?side3 ?side4 A71.out).mono ?_); (case side1 => repeat (first | exact (Kd.R_reads' HO_676000.out).2.2 | (with_reducible refine Kd.C_alloc ?_ _) | (with_reducible refine Kd.C_drewN ?_ _) | (with_reducible refine Kd.C_drew ?_))); (case side2 => exact (Kd.R_reads' HO_676000.out).2.1); (case side3 => repeat (first | exact (Kd.R_reads' HO_667000.out).2.2 | (with_reducible refine Kd.C_alloc ?_ _) | (with_reducible refine Kd.C_drewN ?_ _) | (with_reducible refine Kd.C_drew ?_))); (case side4 => exact (Kd.R_reads' HO_667000.out).2.1); rintro e w80 ⟨rfl, hb⟩; have n0_ := Aside0.mk (Kd.R_below (by (with_reducible repeat (first | apply rA | apply rN | apply rD)); exact HO_667000.out) hb); have n1_ := Aside0.mk (Kd.R_below (by (with_reducible repeat (first | apply rA | apply rN | apply rD)); exact HO_671000.out) hb); have n2_ := Aside0.mk (Kd.R_below (by (with_reducible repeat (first | apply rA | apply rN | apply rD)); exact HO_676000.out) hb); have n3_ := Aside0.mk (Kd.R_below (by (with_reducible repeat (first | apply rA | apply rN | apply rD)); exact HO679.out) hb); have n4_ := Aside0.mk (blk_below (g := gb657) (o := .cells #[.slice A0_0 l0_0.length c0_0] 24 (0, 0)) (kx_ BK657.out) hb); have n5_ := Aside0.mk (blk_below (g := gb666) (o := .cells #[.slice Ao20 t662.length co20] 30 (0, 0)) (kx_ BK666.out) hb); have n6_ := Aside0.mk (blk_below (g := gb670) (o := .cells #[.slice Ao26 t667.length co26] 30 (0, 0)) (kx_ BK670.out) hb); have n7_ := Aside0.mk (blk_below (g := gb675) (o := .cells #[.slice Ao32 t671.length co32] 30 (0, 0)) (kx_ BK675.out) hb); have n8_ := Aside0.mk (below_step (by repeat (first | (with_reducible first | exact HB.out | apply bA | apply bN | apply bD | refine below_set ?_ GE657.out | refine below_set ?_ GE666.out | refine below_set ?_ GE670.out | refine below_set ?_ GE675.out) | exact HB.out)) hb); clear HO_667000; clear HO_671000; clear HO_676000; clear HO679; clear BK657; clear BK666; clear BK670; clear BK675; clear HB; have HO_667000 := n0_; have HO_671000 := n1_; have HO_676000 := n2_; have HO679 := n3_; have BK657 := n4_; have BK666 := n5_; have BK670 := n6_; have BK675 := n7_; have HB := n8_; clear n0_ n1_ n2_ n3_ n4_ n5_ n6_ n7_ n8_; (try clear hb); (try clear hb2); (try clear hk); (try clear hi)))
         go_meet
         case rel => exact ⟨_, ((t674 != t665)), (by first | rfl | (simp; done) | (simp [*]; done)), H', ⟨by have := HJ10.out; first | omega | exact Nat.le_refl _⟩, ⟨by (with_reducible repeat (first | apply rA | apply rN | apply rD)); exact Kd.R_mono HO_667000.out (fun _ hk => ⟨hk.1, hk.2.1⟩)⟩, ⟨by (with_reducible repeat (first | apply rA | apply rN | apply rD)); exact Kd.R_mono HO_671000.out (fun _ hk => ⟨hk.1.1, hk.1.2⟩)⟩, ⟨by (with_reducible repeat (first | apply rA | apply rN | apply rD)); exact Kd.R_mono HO_676000.out (fun _ hk => ⟨hk.1, hk.2.1⟩)⟩, ⟨by (with_reducible repeat (first | refine kN ?_ _ | refine kD ?_ | refine kA ?_ _)); exact BK657.out⟩, ⟨by (with_reducible repeat (first | refine kN ?_ _ | refine kD ?_ | refine kA ?_ _)); exact BK666.out⟩, ⟨by (with_reducible repeat (first | refine kN ?_ _ | refine kD ?_ | refine kA ?_ _)); exact BK670.out⟩, ⟨by (with_reducible repeat (first | refine kN ?_ _ | refine kD ?_ | refine kA ?_ _)); exact BK675.out⟩, ⟨by repeat (first | (with_reducible first | exact HB.out | apply bA | apply bN | apply bD | refine below_set ?_ GE657.out | refine below_set ?_ GE666.out | refine below_set ?_ GE670.out | refine below_set ?_ GE675.out) | exact HB.out)⟩⟩
        ·replace c72 := Bool.eq_false_iff.mpr c72
         subst c72
         have H1 : (laws_FnExactHarderPuzzle.j1 kj10 t665 true l0_0 t662 t671) = some r := by rw [if_neg (show ¬ (false = true) by decide)] at H; exact H
         clear H
         have H := H1
         clear H1
         have H' := Aside0.mk H
         clear H
         have hnb81 := NB675_657.out
         have hnc81 := NB657_675.out
         have hnb82 := NB675_666.out
         have hnc82 := NB666_675.out
         have hnb83 := NB675_670.out
         have hnc83 := NB670_675.out
         have hcz84_0 : w69.cell? ⟨gb675, 0, none⟩ = some (.slice Ao32 t671.length co32) := (blk_cell BK675.out 0).trans rfl
         have hfz84_0 := blk_frozen BK675.out 0
         have hnb85 := NB666_657.out
         have hnc85 := NB657_666.out
         have hnb86 := NB666_670.out
         have hnc86 := NB670_666.out
         have hcz87_0 : w69.cell? ⟨gb666, 0, none⟩ = some (.slice Ao20 t662.length co20) := (blk_cell BK666.out 0).trans rfl
         have hfz87_0 := blk_frozen BK666.out 0
         go_wp2_with (first | (go_at_call 16; (with_reducible refine (laws_eqPuzzle.calls kj10 _ _ t671 _ _ t662 false _ ?side1 ?side2 ?side3 ?side4 A71.out).mono ?_); (case side1 => repeat (first | exact (Kd.R_reads' HO_676000.out).2.2 | (with_reducible refine Kd.C_alloc ?_ _) | (with_reducible refine Kd.C_drewN ?_ _) | (with_reducible refine Kd.C_drew ?_))); (case side2 => exact (Kd.R_reads' HO_676000.out).2.1); (case side3 => repeat (first | exact (Kd.R_reads' HO_667000.out).2.2 | (with_reducible refine Kd.C_alloc ?_ _) | (with_reducible refine Kd.C_drewN ?_ _) | (with_reducible refine Kd.C_drew ?_))); (case side4 => exact (Kd.R_reads' HO_667000.out).2.1); rintro e w88 ⟨rfl, hb⟩; have n0_ := Aside0.mk (Kd.R_below (by (with_reducible repeat (first | apply rA | apply rN | apply rD)); exact HO_667000.out) hb); have n1_ := Aside0.mk (Kd.R_below (by (with_reducible repeat (first | apply rA | apply rN | apply rD)); exact HO_671000.out) hb); have n2_ := Aside0.mk (Kd.R_below (by (with_reducible repeat (first | apply rA | apply rN | apply rD)); exact HO_676000.out) hb); have n3_ := Aside0.mk (Kd.R_below (by (with_reducible repeat (first | apply rA | apply rN | apply rD)); exact HO679.out) hb); have n4_ := Aside0.mk (blk_below (g := gb657) (o := .cells #[.slice A0_0 l0_0.length c0_0] 24 (0, 0)) (kx_ BK657.out) hb); have n5_ := Aside0.mk (blk_below (g := gb666) (o := .cells #[.slice Ao20 t662.length co20] 30 (0, 0)) (kx_ BK666.out) hb); have n6_ := Aside0.mk (blk_below (g := gb670) (o := .cells #[.slice Ao26 t667.length co26] 30 (0, 0)) (kx_ BK670.out) hb); have n7_ := Aside0.mk (blk_below (g := gb675) (o := .cells #[.slice Ao32 t671.length co32] 30 (0, 0)) (kx_ BK675.out) hb); have n8_ := Aside0.mk (below_step (by repeat (first | (with_reducible first | exact HB.out | apply bA | apply bN | apply bD | refine below_set ?_ GE657.out | refine below_set ?_ GE666.out | refine below_set ?_ GE670.out | refine below_set ?_ GE675.out) | exact HB.out)) hb); clear HO_667000; clear HO_671000; clear HO_676000; clear HO679; clear BK657; clear BK666; clear BK670; clear BK675; clear HB; have HO_667000 := n0_; have HO_671000 := n1_; have HO_676000 := n2_; have HO679 := n3_; have BK657 := n4_; have BK666 := n5_; have BK670 := n6_; have BK675 := n7_; have HB := n8_; clear n0_ n1_ n2_ n3_ n4_ n5_ n6_ n7_ n8_; (try clear hb); (try clear hb2); (try clear hk); (try clear hi)))
         go_meet
         case rel => exact ⟨_, (true), (by first | rfl | (simp; done) | (simp [*]; done)), H', ⟨by have := HJ10.out; first | omega | exact Nat.le_refl _⟩, ⟨by (with_reducible repeat (first | apply rA | apply rN | apply rD)); exact Kd.R_mono HO_667000.out (fun _ hk => ⟨hk.1, hk.2.1⟩)⟩, ⟨by (with_reducible repeat (first | apply rA | apply rN | apply rD)); exact Kd.R_mono HO_671000.out (fun _ hk => ⟨hk.1.1, hk.1.2⟩)⟩, ⟨by (with_reducible repeat (first | apply rA | apply rN | apply rD)); exact Kd.R_mono HO_676000.out (fun _ hk => ⟨hk.1, hk.2.1⟩)⟩, ⟨by (with_reducible repeat (first | refine kN ?_ _ | refine kD ?_ | refine kA ?_ _)); exact BK657.out⟩, ⟨by (with_reducible repeat (first | refine kN ?_ _ | refine kD ?_ | refine kA ?_ _)); exact BK666.out⟩, ⟨by (with_reducible repeat (first | refine kN ?_ _ | refine kD ?_ | refine kA ?_ _)); exact BK670.out⟩, ⟨by (with_reducible repeat (first | refine kN ?_ _ | refine kD ?_ | refine kA ?_ _)); exact BK675.out⟩, ⟨by repeat (first | (with_reducible first | exact HB.out | apply bA | apply bN | apply bD | refine below_set ?_ GE657.out | refine below_set ?_ GE666.out | refine below_set ?_ GE670.out | refine below_set ?_ GE675.out) | exact HB.out)⟩⟩
      case rest =>
       clear HC60
       try clear c1
       try clear c2
       try clear p2
       try clear c3
       try clear c3b0
       try clear c4
       try clear c5
       try clear c6
       try clear c7
       try clear c8
       try clear c10
       try clear c12
       try clear c14
       try clear c16
       try clear c21
       try clear c27
       try clear c28
       try clear c29
       try clear c33
       try clear c34
       try clear c35
       try clear c37
       try clear c38
       try clear c39
       try clear c40
       try clear c41
       try clear c43
       try clear c44
       try clear c47
       try clear c48
       try clear c49
       try clear c51
       try clear c52
       try clear c55
       try clear c58
       try clear c65
       try clear c66
       try clear c67
       try clear c70
       try clear c70b0
       try clear c72
       try clear c73
       try clear c74
       try clear c75
       try clear c77
       try clear c78
       try clear c81
       try clear c82
       try clear c83
       try clear c85
       try clear c86
       try clear hcz13_0
       try clear hcz15_0
       try clear hcz22_0
       try clear hcz23_0
       try clear hcz29_0
       try clear hcz36_0
       try clear hcz42_0
       try clear hcz45_0
       try clear hcz50_0
       try clear hcz53_0
       try clear hcz5_0
       try clear hcz68_0
       try clear hcz76_0
       try clear hcz79_0
       try clear hcz84_0
       try clear hcz87_0
       try clear hfz13_0
       try clear hfz15_0
       try clear hfz22_0
       try clear hfz23_0
       try clear hfz29_0
       try clear hfz36_0
       try clear hfz42_0
       try clear hfz45_0
       try clear hfz50_0
       try clear hfz53_0
       try clear hfz5_0
       try clear hfz68_0
       try clear hfz76_0
       try clear hfz79_0
       try clear hfz84_0
       try clear hfz87_0
       try clear p2
       obtain ⟨kq, x61_59, rfl, HA, HJ59, HO_667000, HO_671000, HO_676000, BK657, BK666, BK670, BK675, HB⟩ := hcut
       have hl671000_59 := (Kd.R_reads' HO_671000.out).1
       rw [hl671000_59] at HO_671000
       (try simp only [hl671000_59])
       (try simp only [hl671000_59] at BK657)
       (try simp only [hl671000_59] at BK666)
       (try simp only [hl671000_59] at BK670)
       (try simp only [hl671000_59] at BK675)
       (try simp only [hl671000_59] at HO_667000)
       (try simp only [hl671000_59] at HO_676000)
       cases kq with
       | zero => exact absurd HA.out (by simp [laws_FnExactHarderPuzzle.j1])
       | succ kj59 =>
        have H := HA.out
        clear HA
        simp only [laws_FnExactHarderPuzzle.j1] at H
        by_cases c89 : x61_59 = true
        ·subst c89
         have H1 : (some false) = some r := by rw [if_pos rfl] at H; exact H
         clear H
         have H := H1
         clear H1
         obtain rfl := oI H
         go_wp2
         go_ret
         exact ⟨by first | rfl | (simp [errW_none, errW_some] <;> rfl) | (simp [*, errW_none, errW_some] <;> rfl), by repeat (first | (with_reducible first | exact HB.out | apply bA | apply bN | apply bD | refine below_set ?_ GE657.out | refine below_set ?_ GE666.out | refine below_set ?_ GE670.out | refine below_set ?_ GE675.out) | exact HB.out)⟩
        ·replace c89 := Bool.eq_false_iff.mpr c89
         subst c89
         have H1 : ((laws_markPuzzle.f kj59 t671 1).bind fun bt684 => ((laws_heldPuzzle.f kj59 bt684.2 1).bind fun t686 => (if t686 < 0 then (some false) else (if t686 = bt684.1 then ((laws_toPuzzle.f kj59 l0_0).bind fun t687 => ((impl_HarderPuzzle.f kj59 t687).bind fun bt690 => ((laws_eqPuzzle.f kj59 bt690.1 t662).bind fun t695 => (if t695 = true then (laws_FnExactHarderPuzzle.j2 kj59 bt684.1 (bt690.2 != t665) bt684.2) else (laws_FnExactHarderPuzzle.j2 kj59 bt684.1 true bt684.2))))) else (some false))))) = some r := by rw [if_neg (show ¬ (false = true) by decide)] at H; exact H
         clear H
         have H := H1
         clear H1
         replace H := bI H
         obtain ⟨⟨t684, t685⟩, A900, H⟩ := H
         replace H : ((laws_heldPuzzle.f kj59 t685 1).bind fun t686 => (if t686 < 0 then (some false) else (if t686 = t684 then ((laws_toPuzzle.f kj59 l0_0).bind fun t687 => ((impl_HarderPuzzle.f kj59 t687).bind fun bt690 => ((laws_eqPuzzle.f kj59 bt690.1 t662).bind fun t695 => (if t695 = true then (laws_FnExactHarderPuzzle.j2 kj59 t684 (bt690.2 != t665) t685) else (laws_FnExactHarderPuzzle.j2 kj59 t684 true t685))))) else (some false)))) = some r := H
         have A90 := Aside0.mk A900
         clear A900
         replace H := bI H
         obtain ⟨t686, A910, H⟩ := H
         replace H : (if t686 < 0 then (some false) else (if t686 = t684 then ((laws_toPuzzle.f kj59 l0_0).bind fun t687 => ((impl_HarderPuzzle.f kj59 t687).bind fun bt690 => ((laws_eqPuzzle.f kj59 bt690.1 t662).bind fun t695 => (if t695 = true then (laws_FnExactHarderPuzzle.j2 kj59 t684 (bt690.2 != t665) t685) else (laws_FnExactHarderPuzzle.j2 kj59 t684 true t685))))) else (some false))) = some r := H
         have A91 := Aside0.mk A910
         clear A910
         by_cases c92 : t686 < 0
         ·rw [if_pos c92] at H
          have c92b0 : decide (t686 < 0) = true := decide_eq_true c92
          clear c92
          obtain rfl := oI H
          have hnb93 := NB675_657.out
          have hnc93 := NB657_675.out
          have hnb94 := NB675_666.out
          have hnc94 := NB666_675.out
          have hnb95 := NB675_670.out
          have hnc95 := NB670_675.out
          have hcz96_0 : wc.cell? ⟨gb675, 0, none⟩ = some (.slice Ao32 t671.length co32) := (blk_cell BK675.out 0).trans rfl
          have hfz96_0 := blk_frozen BK675.out 0
          go_wp2_with (first | ((with_reducible refine gate_callee (f := 29) rfl ?_); refine goesL_ (some 64) rfl rfl Try.func29 (by kernel_rfl) rfl #[.agg #[.slice Ao32 t671.length co32], .int .i64 1] rfl ar_ ?_; (with_reducible refine (laws_markPuzzle.calls kj59 (fun k_ => some k_ = (.slice Ao32 t671.length co32 : Value).ownBlock) (.slice Ao32 t671.length co32) t671 1 t684 t685 w _ ?side1 ?side2 A90.out).mono ?_); (case side1 => repeat (first | (with_reducible first | exact HB.out | apply bA | apply bN | apply bD | refine below_set ?_ GE657.out | refine below_set ?_ GE666.out | refine below_set ?_ GE670.out | refine below_set ?_ GE675.out) | exact HB.out)); (case side2 => exact Kd.R_tight rfl HO_676000.out); rintro e w97 ⟨rfl, hy0, hb, hkp⟩; refine ⟨_, rfl, ?_⟩; have n0_ := Aside0.mk (Kd.R_mono (ok' := fun k_ => some k_ ≠ (.slice Ao26 t682.length co26 : Value).ownBlock ∧ some k_ ≠ (.slice Ao32 t671.length co32 : Value).ownBlock) (Kd.R_keptB (HO_667000.out) hkp (fun k_ hk_ hs_ => (hk_.2) hs_)) (fun k_ hk_ => ⟨hk_.1.1, hk_.1.2⟩)); have n1_ := Aside0.mk (Kd.R_mono (ok' := fun k_ => some k_ ≠ (.slice Ao20 t662.length co20 : Value).ownBlock ∧ some k_ ≠ (.slice Ao32 t671.length co32 : Value).ownBlock) (Kd.R_keptB (HO_671000.out) hkp (fun k_ hk_ hs_ => (hk_.2) hs_)) (fun k_ hk_ => ⟨hk_.1.1, hk_.1.2⟩)); have n2_ := Aside0.mk (Kd.R_reok rfl hy0 (fun k_ e_ => HO_676000.out.1 k_ e_)); have n3_ := Aside0.mk (blk_kept (kx_ BK657.out) hkp (fun hs_ => (fun e_ => (Kd.R_ne HO_676000.out BK657.out (by decide)) e_) hs_)); have n4_ := Aside0.mk (blk_kept (kx_ BK666.out) hkp (fun hs_ => (fun e_ => (Kd.R_ne HO_676000.out BK666.out (by decide)) e_) hs_)); have n5_ := Aside0.mk (blk_kept (kx_ BK670.out) hkp (fun hs_ => (fun e_ => (Kd.R_ne HO_676000.out BK670.out (by decide)) e_) hs_)); have n6_ := Aside0.mk (blk_kept (kx_ BK675.out) hkp (fun hs_ => (fun e_ => (Kd.R_ne HO_676000.out BK675.out (by decide)) e_) hs_)); have n7_ := Aside0.mk (hb); clear HO_667000; clear HO_671000; clear HO_676000; clear BK657; clear BK666; clear BK670; clear BK675; clear HB; have HO_667000 := n0_; have HO_671000 := n1_; have HO_676000 := n2_; have BK657 := n3_; have BK666 := n4_; have BK670 := n5_; have BK675 := n6_; have HB := n7_; clear n0_ n1_ n2_ n3_ n4_ n5_ n6_ n7_; (try clear hb); (try clear hkp); (try clear hy0); have hcz98_0 : w97.cell? ⟨gb675, 0, none⟩ = some (.slice Ao32 t671.length co32) := (blk_cell BK675.out 0).trans rfl; have hfz98_0 := blk_frozen BK675.out 0) | ((with_reducible refine gate_callee (f := 39) rfl ?_); refine goesL_ (some 67) rfl rfl Try.func39 (by kernel_rfl) rfl #[.agg #[.slice Ao32 t685.length co32], .int .i64 1] rfl (by (try simp only [mT, mC, mN]); first | done | (rw [show t685.length = t671.length from (Kd.R_reads' HO_676000.out).1.symm] <;> rfl) | rfl | (simp only [List.length_drop, List.length_take]; rfl)) ?_; (with_reducible refine (laws_heldPuzzle.calls kj59 _ _ t685 1 t686 _ ?side1 ?side2 A91.out).mono ?_); (case side1 => repeat (first | exact (Kd.R_reads' HO_676000.out).2.2 | (with_reducible refine Kd.C_alloc ?_ _) | (with_reducible refine Kd.C_drewN ?_ _) | (with_reducible refine Kd.C_drew ?_))); (case side2 => rw [show t685.length = t671.length from (Kd.R_reads' HO_676000.out).1.symm]; exact (Kd.R_reads' HO_676000.out).2.1); rintro e w99 ⟨rfl, hb⟩; refine ⟨_, rfl, ?_⟩; have n0_ := Aside0.mk (Kd.R_below (by (with_reducible repeat (first | apply rA | apply rN | apply rD)); exact HO_667000.out) hb); have n1_ := Aside0.mk (Kd.R_below (by (with_reducible repeat (first | apply rA | apply rN | apply rD)); exact HO_671000.out) hb); have n2_ := Aside0.mk (Kd.R_below (by (with_reducible repeat (first | apply rA | apply rN | apply rD)); exact HO_676000.out) hb); have n3_ := Aside0.mk (blk_below (g := gb657) (o := .cells #[.slice A0_0 l0_0.length c0_0] 24 (0, 0)) (kx_ BK657.out) hb); have n4_ := Aside0.mk (blk_below (g := gb666) (o := .cells #[.slice Ao20 t662.length co20] 30 (0, 0)) (kx_ BK666.out) hb); have n5_ := Aside0.mk (blk_below (g := gb670) (o := .cells #[.slice Ao26 t682.length co26] 30 (0, 0)) (kx_ BK670.out) hb); have n6_ := Aside0.mk (blk_below (g := gb675) (o := .cells #[.slice Ao32 t671.length co32] 30 (0, 0)) (kx_ BK675.out) hb); have n7_ := Aside0.mk (below_step (by repeat (first | (with_reducible first | exact HB.out | apply bA | apply bN | apply bD | refine below_set ?_ GE657.out | refine below_set ?_ GE666.out | refine below_set ?_ GE670.out | refine below_set ?_ GE675.out) | exact HB.out)) hb); clear HO_667000; clear HO_671000; clear HO_676000; clear BK657; clear BK666; clear BK670; clear BK675; clear HB; have HO_667000 := n0_; have HO_671000 := n1_; have HO_676000 := n2_; have BK657 := n3_; have BK666 := n4_; have BK670 := n5_; have BK675 := n6_; have HB := n7_; clear n0_ n1_ n2_ n3_ n4_ n5_ n6_ n7_; (try clear hb); (try clear hb2); (try clear hk); (try clear hi)))
          go_ret
          exact ⟨by first | rfl | (simp [errW_none, errW_some] <;> rfl) | (simp [*, errW_none, errW_some] <;> rfl), by repeat (first | (with_reducible first | exact HB.out | apply bA | apply bN | apply bD | refine below_set ?_ GE657.out | refine below_set ?_ GE666.out | refine below_set ?_ GE670.out | refine below_set ?_ GE675.out) | exact HB.out)⟩
         ·rw [if_neg c92] at H
          have c92b0 : decide (t686 < 0) = false := decide_eq_false c92
          clear c92
          by_cases c100 : t686 = t684
          ·rw [if_pos c100] at H
           have c100b0 : (t686 == t684) = true := beq_iff_eq.mpr c100
           have c100b1 : (t686 != t684) = false := bne_eq_false_iff_eq.mpr c100
           clear c100
           replace H := bI H
           obtain ⟨t687, A1010, H⟩ := H
           replace H : ((impl_HarderPuzzle.f kj59 t687).bind fun bt690 => ((laws_eqPuzzle.f kj59 bt690.1 t662).bind fun t695 => (if t695 = true then (laws_FnExactHarderPuzzle.j2 kj59 t684 (bt690.2 != t665) t685) else (laws_FnExactHarderPuzzle.j2 kj59 t684 true t685)))) = some r := H
           have A101 := Aside0.mk A1010
           clear A1010
           replace H := bI H
           obtain ⟨⟨t690, t693⟩, A1020, H⟩ := H
           replace H : ((laws_eqPuzzle.f kj59 t690 t662).bind fun t695 => (if t695 = true then (laws_FnExactHarderPuzzle.j2 kj59 t684 (t693 != t665) t685) else (laws_FnExactHarderPuzzle.j2 kj59 t684 true t685))) = some r := H
           have A102 := Aside0.mk A1020
           clear A1020
           have HC103 := Aside0.mk H
           clear H
           have hnb104 := NB675_657.out
           have hnc104 := NB657_675.out
           have hnb105 := NB675_666.out
           have hnc105 := NB666_675.out
           have hnb106 := NB675_670.out
           have hnc106 := NB670_675.out
           have hcz107_0 : wc.cell? ⟨gb675, 0, none⟩ = some (.slice Ao32 t671.length co32) := (blk_cell BK675.out 0).trans rfl
           have hfz107_0 := blk_frozen BK675.out 0
           go_upto_region 25 with (first | ((with_reducible refine gate_callee (f := 29) rfl ?_); refine goesL_ (some 64) rfl rfl Try.func29 (by kernel_rfl) rfl #[.agg #[.slice Ao32 t671.length co32], .int .i64 1] rfl ar_ ?_; (with_reducible refine (laws_markPuzzle.calls kj59 (fun k_ => some k_ = (.slice Ao32 t671.length co32 : Value).ownBlock) (.slice Ao32 t671.length co32) t671 1 t684 t685 w _ ?side1 ?side2 A90.out).mono ?_); (case side1 => repeat (first | (with_reducible first | exact HB.out | apply bA | apply bN | apply bD | refine below_set ?_ GE657.out | refine below_set ?_ GE666.out | refine below_set ?_ GE670.out | refine below_set ?_ GE675.out) | exact HB.out)); (case side2 => exact Kd.R_tight rfl HO_676000.out); rintro e w108 ⟨rfl, hy0, hb, hkp⟩; refine ⟨_, rfl, ?_⟩; have n0_ := Aside0.mk (Kd.R_mono (ok' := fun k_ => some k_ ≠ (.slice Ao26 t682.length co26 : Value).ownBlock ∧ some k_ ≠ (.slice Ao32 t671.length co32 : Value).ownBlock) (Kd.R_keptB (HO_667000.out) hkp (fun k_ hk_ hs_ => (hk_.2) hs_)) (fun k_ hk_ => ⟨hk_.1.1, hk_.1.2⟩)); have n1_ := Aside0.mk (Kd.R_mono (ok' := fun k_ => some k_ ≠ (.slice Ao20 t662.length co20 : Value).ownBlock ∧ some k_ ≠ (.slice Ao32 t671.length co32 : Value).ownBlock) (Kd.R_keptB (HO_671000.out) hkp (fun k_ hk_ hs_ => (hk_.2) hs_)) (fun k_ hk_ => ⟨hk_.1.1, hk_.1.2⟩)); have n2_ := Aside0.mk (Kd.R_reok rfl hy0 (fun k_ e_ => HO_676000.out.1 k_ e_)); have n3_ := Aside0.mk (blk_kept (kx_ BK657.out) hkp (fun hs_ => (fun e_ => (Kd.R_ne HO_676000.out BK657.out (by decide)) e_) hs_)); have n4_ := Aside0.mk (blk_kept (kx_ BK666.out) hkp (fun hs_ => (fun e_ => (Kd.R_ne HO_676000.out BK666.out (by decide)) e_) hs_)); have n5_ := Aside0.mk (blk_kept (kx_ BK670.out) hkp (fun hs_ => (fun e_ => (Kd.R_ne HO_676000.out BK670.out (by decide)) e_) hs_)); have n6_ := Aside0.mk (blk_kept (kx_ BK675.out) hkp (fun hs_ => (fun e_ => (Kd.R_ne HO_676000.out BK675.out (by decide)) e_) hs_)); have n7_ := Aside0.mk (hb); clear HO_667000; clear HO_671000; clear HO_676000; clear BK657; clear BK666; clear BK670; clear BK675; clear HB; have HO_667000 := n0_; have HO_671000 := n1_; have HO_676000 := n2_; have BK657 := n3_; have BK666 := n4_; have BK670 := n5_; have BK675 := n6_; have HB := n7_; clear n0_ n1_ n2_ n3_ n4_ n5_ n6_ n7_; (try clear hb); (try clear hkp); (try clear hy0); have hcz109_0 : w108.cell? ⟨gb675, 0, none⟩ = some (.slice Ao32 t671.length co32) := (blk_cell BK675.out 0).trans rfl; have hfz109_0 := blk_frozen BK675.out 0) | ((with_reducible refine gate_callee (f := 39) rfl ?_); refine goesL_ (some 67) rfl rfl Try.func39 (by kernel_rfl) rfl #[.agg #[.slice Ao32 t685.length co32], .int .i64 1] rfl (by (try simp only [mT, mC, mN]); first | done | (rw [show t685.length = t671.length from (Kd.R_reads' HO_676000.out).1.symm] <;> rfl) | rfl | (simp only [List.length_drop, List.length_take]; rfl)) ?_; (with_reducible refine (laws_heldPuzzle.calls kj59 _ _ t685 1 t686 _ ?side1 ?side2 A91.out).mono ?_); (case side1 => repeat (first | exact (Kd.R_reads' HO_676000.out).2.2 | (with_reducible refine Kd.C_alloc ?_ _) | (with_reducible refine Kd.C_drewN ?_ _) | (with_reducible refine Kd.C_drew ?_))); (case side2 => rw [show t685.length = t671.length from (Kd.R_reads' HO_676000.out).1.symm]; exact (Kd.R_reads' HO_676000.out).2.1); rintro e w110 ⟨rfl, hb⟩; refine ⟨_, rfl, ?_⟩; have n0_ := Aside0.mk (Kd.R_below (by (with_reducible repeat (first | apply rA | apply rN | apply rD)); exact HO_667000.out) hb); have n1_ := Aside0.mk (Kd.R_below (by (with_reducible repeat (first | apply rA | apply rN | apply rD)); exact HO_671000.out) hb); have n2_ := Aside0.mk (Kd.R_below (by (with_reducible repeat (first | apply rA | apply rN | apply rD)); exact HO_676000.out) hb); have n3_ := Aside0.mk (blk_below (g := gb657) (o := .cells #[.slice A0_0 l0_0.length c0_0] 24 (0, 0)) (kx_ BK657.out) hb); have n4_ := Aside0.mk (blk_below (g := gb666) (o := .cells #[.slice Ao20 t662.length co20] 30 (0, 0)) (kx_ BK666.out) hb); have n5_ := Aside0.mk (blk_below (g := gb670) (o := .cells #[.slice Ao26 t682.length co26] 30 (0, 0)) (kx_ BK670.out) hb); have n6_ := Aside0.mk (blk_below (g := gb675) (o := .cells #[.slice Ao32 t671.length co32] 30 (0, 0)) (kx_ BK675.out) hb); have n7_ := Aside0.mk (below_step (by repeat (first | (with_reducible first | exact HB.out | apply bA | apply bN | apply bD | refine below_set ?_ GE657.out | refine below_set ?_ GE666.out | refine below_set ?_ GE670.out | refine below_set ?_ GE675.out) | exact HB.out)) hb); clear HO_667000; clear HO_671000; clear HO_676000; clear BK657; clear BK666; clear BK670; clear BK675; clear HB; have HO_667000 := n0_; have HO_671000 := n1_; have HO_676000 := n2_; have BK657 := n3_; have BK666 := n4_; have BK670 := n5_; have BK675 := n6_; have HB := n7_; clear n0_ n1_ n2_ n3_ n4_ n5_ n6_ n7_; (try clear hb); (try clear hb2); (try clear hk); (try clear hi); have hnb111 := NB657_666.out; have hnc111 := NB666_657.out; have hnb112 := NB657_670.out; have hnc112 := NB670_657.out; have hcz113_0 : w110.cell? ⟨gb657, 0, none⟩ = some (.slice A0_0 l0_0.length c0_0) := (blk_cell BK657.out 0).trans rfl; have hfz113_0 := blk_frozen BK657.out 0) | ((with_reducible refine gate_callee (f := 14) rfl ?_); refine goesL_ (some 75) rfl rfl Try.func14 (by kernel_rfl) rfl #[.agg #[.slice A0_0 l0_0.length c0_0]] rfl ar_ ?_; (with_reducible refine (laws_toPuzzle.calls kj59 _ _ l0_0 t687 _ ?side1 ?side2 A101.out).mono ?_); (case side1 => repeat (first | exact (Kd.C_below HR0_0.out HB.out) | (with_reducible refine Kd.C_alloc ?_ _) | (with_reducible refine Kd.C_drewN ?_ _) | (with_reducible refine Kd.C_drew ?_))); (case side2 => exact HC0_0.out); rintro e w114 ⟨v688, rfl, ho0, hb⟩; refine ⟨_, rfl, ?_⟩; have n0_ := Aside0.mk (Kd.R_elder' (by (with_reducible repeat (first | apply rA | apply rN | apply rD)); exact HO_667000.out) (Kd.R_base ho0) hb); have n1_ := Aside0.mk (Kd.R_elder' (by (with_reducible repeat (first | apply rA | apply rN | apply rD)); exact HO_671000.out) (Kd.R_base ho0) hb); have n2_ := Aside0.mk (Kd.R_elder' (by (with_reducible repeat (first | apply rA | apply rN | apply rD)); exact HO_676000.out) (Kd.R_base ho0) hb); have n3_ := Aside0.mk (Kd.R_lower (Kd.R_new' (Kd.R_new' (Kd.R_new' ho0 (Kd.R_lt (by (with_reducible repeat (first | apply rA | apply rN | apply rD)); exact HO_667000.out))) (Kd.R_lt (by (with_reducible repeat (first | apply rA | apply rN | apply rD)); exact HO_671000.out))) (Kd.R_lt (by (with_reducible repeat (first | apply rA | apply rN | apply rD)); exact HO_676000.out))) (below_size (by repeat (first | (with_reducible first | exact HB.out | apply bA | apply bN | apply bD | refine below_set ?_ GE657.out | refine below_set ?_ GE666.out | refine below_set ?_ GE670.out | refine below_set ?_ GE675.out) | exact HB.out)))); have n4_ := Aside0.mk (blk_below (g := gb657) (o := .cells #[.slice A0_0 l0_0.length c0_0] 24 (0, 0)) (kx_ BK657.out) hb); have n5_ := Aside0.mk (blk_below (g := gb666) (o := .cells #[.slice Ao20 t662.length co20] 30 (0, 0)) (kx_ BK666.out) hb); have n6_ := Aside0.mk (blk_below (g := gb670) (o := .cells #[.slice Ao26 t682.length co26] 30 (0, 0)) (kx_ BK670.out) hb); have n7_ := Aside0.mk (blk_below (g := gb675) (o := .cells #[.slice Ao32 t671.length co32] 30 (0, 0)) (kx_ BK675.out) hb); have n8_ := Aside0.mk (below_step (by repeat (first | (with_reducible first | exact HB.out | apply bA | apply bN | apply bD | refine below_set ?_ GE657.out | refine below_set ?_ GE666.out | refine below_set ?_ GE670.out | refine below_set ?_ GE675.out) | exact HB.out)) hb); clear HO_667000; clear HO_671000; clear HO_676000; clear BK657; clear BK666; clear BK670; clear BK675; clear HB; have HO_667000 := n0_; have HO_671000 := n1_; have HO_676000 := n2_; have HO689 := n3_; have BK657 := n4_; have BK666 := n5_; have BK670 := n6_; have BK675 := n7_; have HB := n8_; clear n0_ n1_ n2_ n3_ n4_ n5_ n6_ n7_ n8_; (try clear hb); (try clear hb2); (try clear hk); (try clear hi); (try clear ho0); obtain ⟨Ao115, co115, eo115⟩ := Kd.R_slice HO689.out; subst eo115) | ((with_reducible refine gate_callee (f := 38) rfl ?_); refine goesL_ (some 76) rfl rfl Try.func38 (by kernel_rfl) rfl #[.agg #[.slice Ao115 t687.length co115]] rfl ar_ ?_; (with_reducible refine (impl_HarderPuzzle.calls kj59 _ _ t687 t690 t693 _ ?side1 ?side2 A102.out).mono ?_); (case side1 => repeat (first | exact (Kd.R_reads' HO689.out).2.2 | (with_reducible refine Kd.C_alloc ?_ _) | (with_reducible refine Kd.C_drewN ?_ _) | (with_reducible refine Kd.C_drew ?_))); (case side2 => exact (Kd.R_reads' HO689.out).2.1); rintro e w116 ⟨v691, rfl, ho0, hb⟩; refine ⟨_, rfl, ?_⟩; have n0_ := Aside0.mk (Kd.R_elder' (by (with_reducible repeat (first | apply rA | apply rN | apply rD)); exact HO_667000.out) (Kd.R_base ho0) hb); have n1_ := Aside0.mk (Kd.R_elder' (by (with_reducible repeat (first | apply rA | apply rN | apply rD)); exact HO_671000.out) (Kd.R_base ho0) hb); have n2_ := Aside0.mk (Kd.R_elder' (by (with_reducible repeat (first | apply rA | apply rN | apply rD)); exact HO_676000.out) (Kd.R_base ho0) hb); have n3_ := Aside0.mk (Kd.R_elder' (by (with_reducible repeat (first | apply rA | apply rN | apply rD)); exact HO689.out) (Kd.R_base ho0) hb); have n4_ := Aside0.mk (Kd.R_lower (Kd.R_new' (Kd.R_new' (Kd.R_new' (Kd.R_new' ho0 (Kd.R_lt (by (with_reducible repeat (first | apply rA | apply rN | apply rD)); exact HO_667000.out))) (Kd.R_lt (by (with_reducible repeat (first | apply rA | apply rN | apply rD)); exact HO_671000.out))) (Kd.R_lt (by (with_reducible repeat (first | apply rA | apply rN | apply rD)); exact HO_676000.out))) (Kd.R_lt (by (with_reducible repeat (first | apply rA | apply rN | apply rD)); exact HO689.out))) (below_size (by repeat (first | (with_reducible first | exact HB.out | apply bA | apply bN | apply bD | refine below_set ?_ GE657.out | refine below_set ?_ GE666.out | refine below_set ?_ GE670.out | refine below_set ?_ GE675.out) | exact HB.out)))); have n5_ := Aside0.mk (blk_below (g := gb657) (o := .cells #[.slice A0_0 l0_0.length c0_0] 24 (0, 0)) (kx_ BK657.out) hb); have n6_ := Aside0.mk (blk_below (g := gb666) (o := .cells #[.slice Ao20 t662.length co20] 30 (0, 0)) (kx_ BK666.out) hb); have n7_ := Aside0.mk (blk_below (g := gb670) (o := .cells #[.slice Ao26 t682.length co26] 30 (0, 0)) (kx_ BK670.out) hb); have n8_ := Aside0.mk (blk_below (g := gb675) (o := .cells #[.slice Ao32 t671.length co32] 30 (0, 0)) (kx_ BK675.out) hb); have n9_ := Aside0.mk (below_step (by repeat (first | (with_reducible first | exact HB.out | apply bA | apply bN | apply bD | refine below_set ?_ GE657.out | refine below_set ?_ GE666.out | refine below_set ?_ GE670.out | refine below_set ?_ GE675.out) | exact HB.out)) hb); clear HO_667000; clear HO_671000; clear HO_676000; clear HO689; clear BK657; clear BK666; clear BK670; clear BK675; clear HB; have HO_667000 := n0_; have HO_671000 := n1_; have HO_676000 := n2_; have HO689 := n3_; have HO692 := n4_; have BK657 := n5_; have BK666 := n6_; have BK670 := n7_; have BK675 := n8_; have HB := n9_; clear n0_ n1_ n2_ n3_ n4_ n5_ n6_ n7_ n8_ n9_; (try clear hb); (try clear hb2); (try clear hk); (try clear hi); (try clear ho0)) | ((with_reducible refine gate_dst (N := 12) rfl ?_); refine box_event ?hg (N := 12) ?hd (cs := #[.slice none 0 0]) (t := 30) ?hr ?_; (case hd => rfl); (case hg => rfl); (case hr => first | (go_simp; done) | (go_simp; rfl)); intro gb694 hg w117 hbox hb; have n0_ := Aside0.mk (Kd.R_below (by (with_reducible repeat (first | apply rA | apply rN | apply rD)); exact HO_667000.out) hb); have n1_ := Aside0.mk (Kd.R_below (by (with_reducible repeat (first | apply rA | apply rN | apply rD)); exact HO_671000.out) hb); have n2_ := Aside0.mk (Kd.R_below (by (with_reducible repeat (first | apply rA | apply rN | apply rD)); exact HO_676000.out) hb); have n3_ := Aside0.mk (Kd.R_below (by (with_reducible repeat (first | apply rA | apply rN | apply rD)); exact HO689.out) hb); have n4_ := Aside0.mk (Kd.R_below (by (with_reducible repeat (first | apply rA | apply rN | apply rD)); exact HO692.out) hb); have n5_ := Aside0.mk (blk_below (g := gb657) (o := .cells #[.slice A0_0 l0_0.length c0_0] 24 (0, 0)) (kx_ BK657.out) hb); have n6_ := Aside0.mk (blk_below (g := gb666) (o := .cells #[.slice Ao20 t662.length co20] 30 (0, 0)) (kx_ BK666.out) hb); have n7_ := Aside0.mk (blk_below (g := gb670) (o := .cells #[.slice Ao26 t682.length co26] 30 (0, 0)) (kx_ BK670.out) hb); have n8_ := Aside0.mk (blk_below (g := gb675) (o := .cells #[.slice Ao32 t671.length co32] 30 (0, 0)) (kx_ BK675.out) hb); have n9_ := Aside0.mk (below_step (by repeat (first | (with_reducible first | exact HB.out | apply bA | apply bN | apply bD | refine below_set ?_ GE657.out | refine below_set ?_ GE666.out | refine below_set ?_ GE670.out | refine below_set ?_ GE675.out) | exact HB.out)) hb); have n10_ := Aside0.mk (hbox); have n11_ := Aside0.mk ((by rw [hg]; exact (below_size (by repeat (first | (with_reducible first | exact HB.out | apply bA | apply bN | apply bD | refine below_set ?_ GE657.out | refine below_set ?_ GE666.out | refine below_set ?_ GE670.out | refine below_set ?_ GE675.out) | exact HB.out))) : w.heap.size ≤ gb694)); have n12_ := Aside0.mk ((by rw [hg]; exact (below_size (by repeat (first | (with_reducible first | exact HB.out | apply bA | apply bN | apply bD | refine below_set ?_ GE657.out | refine below_set ?_ GE666.out | refine below_set ?_ GE670.out | refine below_set ?_ GE675.out) | exact HB.out))) : w.heap.size ≤ gb694)); have n13_ := Aside0.mk ((by rw [hg]; exact Nat.ne_of_lt (blk_lt (g := gb657) (o := .cells #[.slice A0_0 l0_0.length c0_0] 24 (0, 0)) (kx_ BK657.out)) : gb657 ≠ gb694)); have n14_ := Aside0.mk ((by rw [hg]; exact Nat.ne_of_gt (blk_lt (g := gb657) (o := .cells #[.slice A0_0 l0_0.length c0_0] 24 (0, 0)) (kx_ BK657.out)) : gb694 ≠ gb657)); have n15_ := Aside0.mk ((by rw [hg]; exact Nat.ne_of_lt (blk_lt (g := gb666) (o := .cells #[.slice Ao20 t662.length co20] 30 (0, 0)) (kx_ BK666.out)) : gb666 ≠ gb694)); have n16_ := Aside0.mk ((by rw [hg]; exact Nat.ne_of_gt (blk_lt (g := gb666) (o := .cells #[.slice Ao20 t662.length co20] 30 (0, 0)) (kx_ BK666.out)) : gb694 ≠ gb666)); have n17_ := Aside0.mk ((by rw [hg]; exact Nat.ne_of_lt (blk_lt (g := gb670) (o := .cells #[.slice Ao26 t682.length co26] 30 (0, 0)) (kx_ BK670.out)) : gb670 ≠ gb694)); have n18_ := Aside0.mk ((by rw [hg]; exact Nat.ne_of_gt (blk_lt (g := gb670) (o := .cells #[.slice Ao26 t682.length co26] 30 (0, 0)) (kx_ BK670.out)) : gb694 ≠ gb670)); have n19_ := Aside0.mk ((by rw [hg]; exact Nat.ne_of_lt (blk_lt (g := gb675) (o := .cells #[.slice Ao32 t671.length co32] 30 (0, 0)) (kx_ BK675.out)) : gb675 ≠ gb694)); have n20_ := Aside0.mk ((by rw [hg]; exact Nat.ne_of_gt (blk_lt (g := gb675) (o := .cells #[.slice Ao32 t671.length co32] 30 (0, 0)) (kx_ BK675.out)) : gb694 ≠ gb675)); clear HO_667000; clear HO_671000; clear HO_676000; clear HO689; clear HO692; clear BK657; clear BK666; clear BK670; clear BK675; clear HB; have HO_667000 := n0_; have HO_671000 := n1_; have HO_676000 := n2_; have HO689 := n3_; have HO692 := n4_; have BK657 := n5_; have BK666 := n6_; have BK670 := n7_; have BK675 := n8_; have HB := n9_; have BK694 := n10_; have GW694 := n11_; have GE694 := n12_; have NB657_694 := n13_; have NB694_657 := n14_; have NB666_694 := n15_; have NB694_666 := n16_; have NB670_694 := n17_; have NB694_670 := n18_; have NB675_694 := n19_; have NB694_675 := n20_; clear n0_ n1_ n2_ n3_ n4_ n5_ n6_ n7_ n8_ n9_ n10_ n11_ n12_ n13_ n14_ n15_ n16_ n17_ n18_ n19_ n20_; clear hb hbox hg; obtain ⟨Ao118, co118, eo118⟩ := Kd.R_slice HO692.out; subst eo118; have hnb119 := NB694_657.out; have hnc119 := NB657_694.out; have hnb120 := NB694_666.out; have hnc120 := NB666_694.out; have hnb121 := NB694_670.out; have hnc121 := NB670_694.out; have hnb122 := NB694_675.out; have hnc122 := NB675_694.out; have hcz123_0 : w117.cell? ⟨gb694, 0, none⟩ = some (.slice none 0 0) := (blk_cell BK694.out 0).trans rfl; have hfz123_0 := blk_frozen BK694.out 0))
           (try simp only [Act.put, List.setIfInBounds_toArray, List.set_cons_zero, List.set_cons_succ])
           go_cut [87] (fun v87 wc => ∃ (kq : Nat) (x87_102 : Bool), v87 = .bool x87_102 ∧ Aside0 (laws_FnExactHarderPuzzle.j2 kq t684 x87_102 t685 = some r) ∧ Aside0 (kq ≤ kj59) ∧ Aside0 (Kd.R k67 67 wc w.heap.size (fun k_ => some k_ ≠ ((.slice Ao26 t682.length co26) : Value).ownBlock ∧ some k_ ≠ ((.slice Ao32 t671.length co32) : Value).ownBlock ∧ some k_ ≠ ((.slice Ao118 t690.length co118) : Value).ownBlock) (.slice Ao20 t662.length co20) t662) ∧ Aside0 (Kd.R k67 67 wc w.heap.size (fun k_ => some k_ ≠ ((.slice Ao20 t662.length co20) : Value).ownBlock ∧ some k_ ≠ ((.slice Ao32 t671.length co32) : Value).ownBlock ∧ some k_ ≠ ((.slice Ao118 t690.length co118) : Value).ownBlock) (.slice Ao26 t682.length co26) t682) ∧ Aside0 (Kd.R k67 67 wc w.heap.size (fun k_ => some k_ ≠ ((.slice Ao20 t662.length co20) : Value).ownBlock ∧ some k_ ≠ ((.slice Ao26 t682.length co26) : Value).ownBlock ∧ some k_ ≠ ((.slice Ao118 t690.length co118) : Value).ownBlock) (.slice Ao32 t671.length co32) t685) ∧ Aside0 (Kd.R k67 67 wc w.heap.size (fun k_ => some k_ ≠ ((.slice Ao20 t662.length co20) : Value).ownBlock ∧ some k_ ≠ ((.slice Ao26 t682.length co26) : Value).ownBlock ∧ some k_ ≠ ((.slice Ao32 t671.length co32) : Value).ownBlock) (.slice Ao118 t690.length co118) t690) ∧ Aside0 (wc.heap[gb657]? = some (.cells #[(.slice A0_0 l0_0.length c0_0)] 24 (0, 0))) ∧ Aside0 (wc.heap[gb666]? = some (.cells #[(.slice Ao20 t662.length co20)] 30 (0, 0))) ∧ Aside0 (wc.heap[gb670]? = some (.cells #[(.slice Ao26 t682.length co26)] 30 (0, 0))) ∧ Aside0 (wc.heap[gb675]? = some (.cells #[(.slice Ao32 t671.length co32)] 30 (0, 0))) ∧ Aside0 (wc.heap[gb694]? = some (.cells #[(.slice Ao118 t690.length co118)] 30 (0, 0))) ∧ Aside0 (Below w.heap.size w wc))
           case first =>
            have H := HC103.out
            clear HC103
            replace H := bI H
            obtain ⟨t695, A1240, H⟩ := H
            replace H : (if t695 = true then (laws_FnExactHarderPuzzle.j2 kj59 t684 (t693 != t665) t685) else (laws_FnExactHarderPuzzle.j2 kj59 t684 true t685)) = some r := H
            have A124 := Aside0.mk A1240
            clear A1240
            by_cases c125 : t695 = true
            ·subst c125
             have H1 : (laws_FnExactHarderPuzzle.j2 kj59 t684 (t693 != t665) t685) = some r := by rw [if_pos rfl] at H; exact H
             clear H
             have H := H1
             clear H1
             have H' := Aside0.mk H
             clear H
             have hnb126 := NB694_657.out
             have hnc126 := NB657_694.out
             have hnb127 := NB694_666.out
             have hnc127 := NB666_694.out
             have hnb128 := NB694_670.out
             have hnc128 := NB670_694.out
             have hnb129 := NB694_675.out
             have hnc129 := NB675_694.out
             have hcz130_0 : w117.cell? ⟨gb694, 0, none⟩ = some (.slice none 0 0) := (blk_cell BK694.out 0).trans rfl
             have hfz130_0 := blk_frozen BK694.out 0
             have hnb131 := NB666_657.out
             have hnc131 := NB657_666.out
             have hnb132 := NB666_670.out
             have hnc132 := NB670_666.out
             have hnb133 := NB666_675.out
             have hnc133 := NB675_666.out
             have hcz134_0 : w117.cell? ⟨gb666, 0, none⟩ = some (.slice Ao20 t662.length co20) := (blk_cell BK666.out 0).trans rfl
             have hfz134_0 := blk_frozen BK666.out 0
             go_wp2_with (first | ((with_reducible refine gate_callee (f := 16) rfl ?_); refine goesL_ (some 81) rfl rfl Try.func16 (by kernel_rfl) rfl #[.agg #[.slice Ao118 t690.length co118], .agg #[.slice Ao20 t662.length co20]] rfl ar_ ?_; (with_reducible refine (laws_eqPuzzle.calls kj59 _ _ t690 _ _ t662 true _ ?side1 ?side2 ?side3 ?side4 A124.out).mono ?_); (case side1 => refine (Kd.R_reads' (e := 67) (base := w.heap.size) (ok := fun k_ => ((((True ∧ some k_ ≠ (.slice Ao20 t662.length co20 : Value).ownBlock) ∧ some k_ ≠ (.slice Ao26 t682.length co26 : Value).ownBlock) ∧ some k_ ≠ (.slice Ao32 t671.length co32 : Value).ownBlock) ∧ some k_ ≠ (.slice Ao115 t687.length co115 : Value).ownBlock)) (n := t690.length) (c := co118) ?_).2.2; exact (by (with_reducible repeat (first | apply rA | apply rN | apply rD)); exact (Kd.R_mono (Kd.R_far (p := ⟨gb694, 0, none⟩) (Kd.R_types HO692.out BK694.out (by decide)) (fun _ hk => hk.2) (.slice Ao118 t690.length co118)) (fun _ h_ => h_.1)))); (case side2 => exact (Kd.R_reads' HO692.out).2.1); (case side3 => refine (Kd.R_reads' (e := 67) (base := w.heap.size) (ok := fun k_ => (((some k_ ≠ (.slice Ao26 t682.length co26 : Value).ownBlock ∧ some k_ ≠ (.slice Ao32 t671.length co32 : Value).ownBlock) ∧ some k_ ≠ (.slice Ao115 t687.length co115 : Value).ownBlock) ∧ some k_ ≠ (.slice Ao118 t690.length co118 : Value).ownBlock)) (n := t662.length) (c := co20) ?_).2.2; exact (by (with_reducible repeat (first | apply rA | apply rN | apply rD)); exact (Kd.R_mono (Kd.R_far (p := ⟨gb694, 0, none⟩) (Kd.R_types HO_667000.out BK694.out (by decide)) (fun _ hk => hk.2) (.slice Ao118 t690.length co118)) (fun _ h_ => h_.1)))); (case side4 => exact (Kd.R_reads' HO_667000.out).2.1); rintro e w135 ⟨rfl, hb⟩; refine ⟨_, rfl, ?_⟩; have n0_ := Aside0.mk (Kd.R_below (by (with_reducible repeat (first | apply rA | apply rN | apply rD)); exact (Kd.R_mono (Kd.R_far (p := ⟨gb694, 0, none⟩) (Kd.R_types HO_667000.out BK694.out (by decide)) (fun _ hk => hk.2) (.slice Ao118 t690.length co118)) (fun _ h_ => h_.1))) hb); have n1_ := Aside0.mk (Kd.R_below (by (with_reducible repeat (first | apply rA | apply rN | apply rD)); exact (Kd.R_mono (Kd.R_far (p := ⟨gb694, 0, none⟩) (Kd.R_types HO_671000.out BK694.out (by decide)) (fun _ hk => hk.2) (.slice Ao118 t690.length co118)) (fun _ h_ => h_.1))) hb); have n2_ := Aside0.mk (Kd.R_below (by (with_reducible repeat (first | apply rA | apply rN | apply rD)); exact (Kd.R_mono (Kd.R_far (p := ⟨gb694, 0, none⟩) (Kd.R_types HO_676000.out BK694.out (by decide)) (fun _ hk => hk.2) (.slice Ao118 t690.length co118)) (fun _ h_ => h_.1))) hb); have n3_ := Aside0.mk (Kd.R_below (by (with_reducible repeat (first | apply rA | apply rN | apply rD)); exact (Kd.R_mono (Kd.R_far (p := ⟨gb694, 0, none⟩) (Kd.R_types HO689.out BK694.out (by decide)) (fun _ hk => hk.2) (.slice Ao118 t690.length co118)) (fun _ h_ => h_.1))) hb); have n4_ := Aside0.mk (Kd.R_below (by (with_reducible repeat (first | apply rA | apply rN | apply rD)); exact (Kd.R_mono (Kd.R_far (p := ⟨gb694, 0, none⟩) (Kd.R_types HO692.out BK694.out (by decide)) (fun _ hk => hk.2) (.slice Ao118 t690.length co118)) (fun _ h_ => h_.1))) hb); have n5_ := Aside0.mk (blk_below (g := gb657) (o := .cells #[.slice A0_0 l0_0.length c0_0] 24 (0, 0)) (by (with_reducible repeat (first | refine kN ?_ _ | refine kD ?_ | refine kA ?_ _)); refine blk_far ?_ NB657_694.out _; (with_reducible repeat (first | refine kN ?_ _ | refine kD ?_ | refine kA ?_ _)); exact BK657.out) hb); have n6_ := Aside0.mk (blk_below (g := gb666) (o := .cells #[.slice Ao20 t662.length co20] 30 (0, 0)) (by (with_reducible repeat (first | refine kN ?_ _ | refine kD ?_ | refine kA ?_ _)); refine blk_far ?_ NB666_694.out _; (with_reducible repeat (first | refine kN ?_ _ | refine kD ?_ | refine kA ?_ _)); exact BK666.out) hb); have n7_ := Aside0.mk (blk_below (g := gb670) (o := .cells #[.slice Ao26 t682.length co26] 30 (0, 0)) (by (with_reducible repeat (first | refine kN ?_ _ | refine kD ?_ | refine kA ?_ _)); refine blk_far ?_ NB670_694.out _; (with_reducible repeat (first | refine kN ?_ _ | refine kD ?_ | refine kA ?_ _)); exact BK670.out) hb); have n8_ := Aside0.mk (blk_below (g := gb675) (o := .cells #[.slice Ao32 t671.length co32] 30 (0, 0)) (by (with_reducible repeat (first | refine kN ?_ _ | refine kD ?_ | refine kA ?_ _)); refine blk_far ?_ NB675_694.out _; (with_reducible repeat (first | refine kN ?_ _ | refine kD ?_ | refine kA ?_ _)); exact BK675.out) hb); have n9_ := Aside0.mk (blk_below (g := gb694) (o := .cells #[.slice Ao118 t690.length co118] 30 (0, 0)) (by (with_reducible repeat (first | refine kN ?_ _ | refine kD ?_ | refine kA ?_ _)); refine blk_put (cs := #[.slice none 0 0]) ?_ 0 _ rfl; (with_reducible repeat (first | refine kN ?_ _ | refine kD ?_ | refine kA ?_ _)); exact BK694.out) hb); have n10_ := Aside0.mk (below_step (by repeat (first | (with_reducible first | exact HB.out | apply bA | apply bN | apply bD | refine below_set ?_ GE657.out | refine below_set ?_ GE666.out | refine below_set ?_ GE670.out | refine below_set ?_ GE675.out | refine below_set ?_ GE694.out) | exact HB.out)) hb); clear HO_667000; clear HO_671000; clear HO_676000; clear HO689; clear HO692; clear BK657; clear BK666; clear BK670; clear BK675; clear BK694; clear HB; have HO_667000 := n0_; have HO_671000 := n1_; have HO_676000 := n2_; have HO689 := n3_; have HO692 := n4_; have BK657 := n5_; have BK666 := n6_; have BK670 := n7_; have BK675 := n8_; have BK694 := n9_; have HB := n10_; clear n0_ n1_ n2_ n3_ n4_ n5_ n6_ n7_ n8_ n9_ n10_; (try clear hb); (try clear hb2); (try clear hk); (try clear hi)))
             go_meet
             case rel => exact ⟨_, ((t693 != t665)), (by first | rfl | (simp; done) | (simp [*]; done)), H', ⟨by have := HJ10.out; have := HJ59.out; first | omega | exact Nat.le_refl _⟩, ⟨by (try simp only [hl671000_59]); (with_reducible repeat (first | apply rA | apply rN | apply rD)); exact Kd.R_mono HO_667000.out (fun _ hk => ⟨hk.1.1.1, ⟨hk.1.1.2, hk.2⟩⟩)⟩, ⟨by (try simp only [hl671000_59]); (with_reducible repeat (first | apply rA | apply rN | apply rD)); exact Kd.R_mono HO_671000.out (fun _ hk => ⟨hk.1.1.1, ⟨hk.1.1.2, hk.2⟩⟩)⟩, ⟨by (try simp only [hl671000_59]); (with_reducible repeat (first | apply rA | apply rN | apply rD)); exact Kd.R_mono HO_676000.out (fun _ hk => ⟨hk.1.1.1, ⟨hk.1.1.2, hk.2⟩⟩)⟩, ⟨by (try simp only [hl671000_59]); (with_reducible repeat (first | apply rA | apply rN | apply rD)); exact Kd.R_mono HO692.out (fun _ hk => ⟨hk.1.1.1.2, ⟨hk.1.1.2, hk.1.2⟩⟩)⟩, ⟨by (try simp only [hl671000_59]); (with_reducible repeat (first | refine kN ?_ _ | refine kD ?_ | refine kA ?_ _)); exact BK657.out⟩, ⟨by (try simp only [hl671000_59]); (with_reducible repeat (first | refine kN ?_ _ | refine kD ?_ | refine kA ?_ _)); exact BK666.out⟩, ⟨by (try simp only [hl671000_59]); (with_reducible repeat (first | refine kN ?_ _ | refine kD ?_ | refine kA ?_ _)); exact BK670.out⟩, ⟨by (try simp only [hl671000_59]); (with_reducible repeat (first | refine kN ?_ _ | refine kD ?_ | refine kA ?_ _)); exact BK675.out⟩, ⟨by (try simp only [hl671000_59]); (with_reducible repeat (first | refine kN ?_ _ | refine kD ?_ | refine kA ?_ _)); exact BK694.out⟩, ⟨by repeat (first | (with_reducible first | exact HB.out | apply bA | apply bN | apply bD | refine below_set ?_ GE657.out | refine below_set ?_ GE666.out | refine below_set ?_ GE670.out | refine below_set ?_ GE675.out | refine below_set ?_ GE694.out) | exact HB.out)⟩⟩
            ·replace c125 := Bool.eq_false_iff.mpr c125
             subst c125
             have H1 : (laws_FnExactHarderPuzzle.j2 kj59 t684 true t685) = some r := by rw [if_neg (show ¬ (false = true) by decide)] at H; exact H
             clear H
             have H := H1
             clear H1
             have H' := Aside0.mk H
             clear H
             have hnb136 := NB694_657.out
             have hnc136 := NB657_694.out
             have hnb137 := NB694_666.out
             have hnc137 := NB666_694.out
             have hnb138 := NB694_670.out
             have hnc138 := NB670_694.out
             have hnb139 := NB694_675.out
             have hnc139 := NB675_694.out
             have hcz140_0 : w117.cell? ⟨gb694, 0, none⟩ = some (.slice none 0 0) := (blk_cell BK694.out 0).trans rfl
             have hfz140_0 := blk_frozen BK694.out 0
             have hnb141 := NB666_657.out
             have hnc141 := NB657_666.out
             have hnb142 := NB666_670.out
             have hnc142 := NB670_666.out
             have hnb143 := NB666_675.out
             have hnc143 := NB675_666.out
             have hcz144_0 : w117.cell? ⟨gb666, 0, none⟩ = some (.slice Ao20 t662.length co20) := (blk_cell BK666.out 0).trans rfl
             have hfz144_0 := blk_frozen BK666.out 0
             go_wp2_with (first | ((with_reducible refine gate_callee (f := 16) rfl ?_); refine goesL_ (some 81) rfl rfl Try.func16 (by kernel_rfl) rfl #[.agg #[.slice Ao118 t690.length co118], .agg #[.slice Ao20 t662.length co20]] rfl ar_ ?_; (with_reducible refine (laws_eqPuzzle.calls kj59 _ _ t690 _ _ t662 false _ ?side1 ?side2 ?side3 ?side4 A124.out).mono ?_); (case side1 => refine (Kd.R_reads' (e := 67) (base := w.heap.size) (ok := fun k_ => ((((True ∧ some k_ ≠ (.slice Ao20 t662.length co20 : Value).ownBlock) ∧ some k_ ≠ (.slice Ao26 t682.length co26 : Value).ownBlock) ∧ some k_ ≠ (.slice Ao32 t671.length co32 : Value).ownBlock) ∧ some k_ ≠ (.slice Ao115 t687.length co115 : Value).ownBlock)) (n := t690.length) (c := co118) ?_).2.2; exact (by (with_reducible repeat (first | apply rA | apply rN | apply rD)); exact (Kd.R_mono (Kd.R_far (p := ⟨gb694, 0, none⟩) (Kd.R_types HO692.out BK694.out (by decide)) (fun _ hk => hk.2) (.slice Ao118 t690.length co118)) (fun _ h_ => h_.1)))); (case side2 => exact (Kd.R_reads' HO692.out).2.1); (case side3 => refine (Kd.R_reads' (e := 67) (base := w.heap.size) (ok := fun k_ => (((some k_ ≠ (.slice Ao26 t682.length co26 : Value).ownBlock ∧ some k_ ≠ (.slice Ao32 t671.length co32 : Value).ownBlock) ∧ some k_ ≠ (.slice Ao115 t687.length co115 : Value).ownBlock) ∧ some k_ ≠ (.slice Ao118 t690.length co118 : Value).ownBlock)) (n := t662.length) (c := co20) ?_).2.2; exact (by (with_reducible repeat (first | apply rA | apply rN | apply rD)); exact (Kd.R_mono (Kd.R_far (p := ⟨gb694, 0, none⟩) (Kd.R_types HO_667000.out BK694.out (by decide)) (fun _ hk => hk.2) (.slice Ao118 t690.length co118)) (fun _ h_ => h_.1)))); (case side4 => exact (Kd.R_reads' HO_667000.out).2.1); rintro e w145 ⟨rfl, hb⟩; refine ⟨_, rfl, ?_⟩; have n0_ := Aside0.mk (Kd.R_below (by (with_reducible repeat (first | apply rA | apply rN | apply rD)); exact (Kd.R_mono (Kd.R_far (p := ⟨gb694, 0, none⟩) (Kd.R_types HO_667000.out BK694.out (by decide)) (fun _ hk => hk.2) (.slice Ao118 t690.length co118)) (fun _ h_ => h_.1))) hb); have n1_ := Aside0.mk (Kd.R_below (by (with_reducible repeat (first | apply rA | apply rN | apply rD)); exact (Kd.R_mono (Kd.R_far (p := ⟨gb694, 0, none⟩) (Kd.R_types HO_671000.out BK694.out (by decide)) (fun _ hk => hk.2) (.slice Ao118 t690.length co118)) (fun _ h_ => h_.1))) hb); have n2_ := Aside0.mk (Kd.R_below (by (with_reducible repeat (first | apply rA | apply rN | apply rD)); exact (Kd.R_mono (Kd.R_far (p := ⟨gb694, 0, none⟩) (Kd.R_types HO_676000.out BK694.out (by decide)) (fun _ hk => hk.2) (.slice Ao118 t690.length co118)) (fun _ h_ => h_.1))) hb); have n3_ := Aside0.mk (Kd.R_below (by (with_reducible repeat (first | apply rA | apply rN | apply rD)); exact (Kd.R_mono (Kd.R_far (p := ⟨gb694, 0, none⟩) (Kd.R_types HO689.out BK694.out (by decide)) (fun _ hk => hk.2) (.slice Ao118 t690.length co118)) (fun _ h_ => h_.1))) hb); have n4_ := Aside0.mk (Kd.R_below (by (with_reducible repeat (first | apply rA | apply rN | apply rD)); exact (Kd.R_mono (Kd.R_far (p := ⟨gb694, 0, none⟩) (Kd.R_types HO692.out BK694.out (by decide)) (fun _ hk => hk.2) (.slice Ao118 t690.length co118)) (fun _ h_ => h_.1))) hb); have n5_ := Aside0.mk (blk_below (g := gb657) (o := .cells #[.slice A0_0 l0_0.length c0_0] 24 (0, 0)) (by (with_reducible repeat (first | refine kN ?_ _ | refine kD ?_ | refine kA ?_ _)); refine blk_far ?_ NB657_694.out _; (with_reducible repeat (first | refine kN ?_ _ | refine kD ?_ | refine kA ?_ _)); exact BK657.out) hb); have n6_ := Aside0.mk (blk_below (g := gb666) (o := .cells #[.slice Ao20 t662.length co20] 30 (0, 0)) (by (with_reducible repeat (first | refine kN ?_ _ | refine kD ?_ | refine kA ?_ _)); refine blk_far ?_ NB666_694.out _; (with_reducible repeat (first | refine kN ?_ _ | refine kD ?_ | refine kA ?_ _)); exact BK666.out) hb); have n7_ := Aside0.mk (blk_below (g := gb670) (o := .cells #[.slice Ao26 t682.length co26] 30 (0, 0)) (by (with_reducible repeat (first | refine kN ?_ _ | refine kD ?_ | refine kA ?_ _)); refine blk_far ?_ NB670_694.out _; (with_reducible repeat (first | refine kN ?_ _ | refine kD ?_ | refine kA ?_ _)); exact BK670.out) hb); have n8_ := Aside0.mk (blk_below (g := gb675) (o := .cells #[.slice Ao32 t671.length co32] 30 (0, 0)) (by (with_reducible repeat (first | refine kN ?_ _ | refine kD ?_ | refine kA ?_ _)); refine blk_far ?_ NB675_694.out _; (with_reducible repeat (first | refine kN ?_ _ | refine kD ?_ | refine kA ?_ _)); exact BK675.out) hb); have n9_ := Aside0.mk (blk_below (g := gb694) (o := .cells #[.slice Ao118 t690.length co118] 30 (0, 0)) (by (with_reducible repeat (first | refine kN ?_ _ | refine kD ?_ | refine kA ?_ _)); refine blk_put (cs := #[.slice none 0 0]) ?_ 0 _ rfl; (with_reducible repeat (first | refine kN ?_ _ | refine kD ?_ | refine kA ?_ _)); exact BK694.out) hb); have n10_ := Aside0.mk (below_step (by repeat (first | (with_reducible first | exact HB.out | apply bA | apply bN | apply bD | refine below_set ?_ GE657.out | refine below_set ?_ GE666.out | refine below_set ?_ GE670.out | refine below_set ?_ GE675.out | refine below_set ?_ GE694.out) | exact HB.out)) hb); clear HO_667000; clear HO_671000; clear HO_676000; clear HO689; clear HO692; clear BK657; clear BK666; clear BK670; clear BK675; clear BK694; clear HB; have HO_667000 := n0_; have HO_671000 := n1_; have HO_676000 := n2_; have HO689 := n3_; have HO692 := n4_; have BK657 := n5_; have BK666 := n6_; have BK670 := n7_; have BK675 := n8_; have BK694 := n9_; have HB := n10_; clear n0_ n1_ n2_ n3_ n4_ n5_ n6_ n7_ n8_ n9_ n10_; (try clear hb); (try clear hb2); (try clear hk); (try clear hi)))
             go_meet
             case rel => exact ⟨_, (true), (by first | rfl | (simp; done) | (simp [*]; done)), H', ⟨by have := HJ10.out; have := HJ59.out; first | omega | exact Nat.le_refl _⟩, ⟨by (try simp only [hl671000_59]); (with_reducible repeat (first | apply rA | apply rN | apply rD)); exact Kd.R_mono HO_667000.out (fun _ hk => ⟨hk.1.1.1, ⟨hk.1.1.2, hk.2⟩⟩)⟩, ⟨by (try simp only [hl671000_59]); (with_reducible repeat (first | apply rA | apply rN | apply rD)); exact Kd.R_mono HO_671000.out (fun _ hk => ⟨hk.1.1.1, ⟨hk.1.1.2, hk.2⟩⟩)⟩, ⟨by (try simp only [hl671000_59]); (with_reducible repeat (first | apply rA | apply rN | apply rD)); exact Kd.R_mono HO_676000.out (fun _ hk => ⟨hk.1.1.1, ⟨hk.1.1.2, hk.2⟩⟩)⟩, ⟨by (try simp only [hl671000_59]); (with_reducible repeat (first | apply rA | apply rN | apply rD)); exact Kd.R_mono HO692.out (fun _ hk => ⟨hk.1.1.1.2, ⟨hk.1.1.2, hk.1.2⟩⟩)⟩, ⟨by (try simp only [hl671000_59]); (with_reducible repeat (first | refine kN ?_ _ | refine kD ?_ | refine kA ?_ _)); exact BK657.out⟩, ⟨by (try simp only [hl671000_59]); (with_reducible repeat (first | refine kN ?_ _ | refine kD ?_ | refine kA ?_ _)); exact BK666.out⟩, ⟨by (try simp only [hl671000_59]); (with_reducible repeat (first | refine kN ?_ _ | refine kD ?_ | refine kA ?_ _)); exact BK670.out⟩, ⟨by (try simp only [hl671000_59]); (with_reducible repeat (first | refine kN ?_ _ | refine kD ?_ | refine kA ?_ _)); exact BK675.out⟩, ⟨by (try simp only [hl671000_59]); (with_reducible repeat (first | refine kN ?_ _ | refine kD ?_ | refine kA ?_ _)); exact BK694.out⟩, ⟨by repeat (first | (with_reducible first | exact HB.out | apply bA | apply bN | apply bD | refine below_set ?_ GE657.out | refine below_set ?_ GE666.out | refine below_set ?_ GE670.out | refine below_set ?_ GE675.out | refine below_set ?_ GE694.out) | exact HB.out)⟩⟩
           case rest =>
            clear HC103
            try clear c1
            try clear c2
            try clear p2
            try clear c3
            try clear c3b0
            try clear c4
            try clear c5
            try clear c6
            try clear c7
            try clear c8
            try clear c9
            try clear c10
            try clear c11
            try clear c12
            try clear c13
            try clear c14
            try clear c16
            try clear c21
            try clear c27
            try clear c28
            try clear c29
            try clear c33
            try clear c34
            try clear c35
            try clear c37
            try clear c38
            try clear c39
            try clear c40
            try clear c41
            try clear c43
            try clear c44
            try clear c47
            try clear c48
            try clear c49
            try clear c51
            try clear c52
            try clear c55
            try clear c58
            try clear c65
            try clear c66
            try clear c67
            try clear c70
            try clear c70b0
            try clear c72
            try clear c73
            try clear c74
            try clear c75
            try clear c77
            try clear c78
            try clear c81
            try clear c82
            try clear c83
            try clear c85
            try clear c86
            try clear c89
            try clear c92
            try clear c92b0
            try clear c93
            try clear c94
            try clear c95
            try clear c100
            try clear c100b0
            try clear c100b1
            try clear c104
            try clear c105
            try clear c106
            try clear c111
            try clear c112
            try clear c119
            try clear c120
            try clear c121
            try clear c122
            try clear c125
            try clear c126
            try clear c127
            try clear c128
            try clear c129
            try clear c131
            try clear c132
            try clear c133
            try clear c136
            try clear c137
            try clear c138
            try clear c139
            try clear c141
            try clear c142
            try clear c143
            try clear hcz107_0
            try clear hcz109_0
            try clear hcz113_0
            try clear hcz123_0
            try clear hcz130_0
            try clear hcz134_0
            try clear hcz13_0
            try clear hcz140_0
            try clear hcz144_0
            try clear hcz15_0
            try clear hcz22_0
            try clear hcz23_0
            try clear hcz29_0
            try clear hcz36_0
            try clear hcz42_0
            try clear hcz45_0
            try clear hcz50_0
            try clear hcz53_0
            try clear hcz5_0
            try clear hcz68_0
            try clear hcz76_0
            try clear hcz79_0
            try clear hcz84_0
            try clear hcz87_0
            try clear hcz96_0
            try clear hcz98_0
            try clear hfz107_0
            try clear hfz109_0
            try clear hfz113_0
            try clear hfz123_0
            try clear hfz130_0
            try clear hfz134_0
            try clear hfz13_0
            try clear hfz140_0
            try clear hfz144_0
            try clear hfz15_0
            try clear hfz22_0
            try clear hfz23_0
            try clear hfz29_0
            try clear hfz36_0
            try clear hfz42_0
            try clear hfz45_0
            try clear hfz50_0
            try clear hfz53_0
            try clear hfz5_0
            try clear hfz68_0
            try clear hfz76_0
            try clear hfz79_0
            try clear hfz84_0
            try clear hfz87_0
            try clear hfz96_0
            try clear hfz98_0
            try clear p2
            obtain ⟨kq, x87_102, rfl, HA, HJ102, HO_667000, HO_671000, HO_676000, HO_695000, BK657, BK666, BK670, BK675, BK694, HB⟩ := hcut
            have hl676000_102 := (Kd.R_reads' HO_676000.out).1
            rw [hl676000_102] at HO_676000
            (try simp only [hl676000_102])
            (try simp only [hl676000_102] at BK657)
            (try simp only [hl676000_102] at BK666)
            (try simp only [hl676000_102] at BK670)
            (try simp only [hl676000_102] at BK675)
            (try simp only [hl676000_102] at BK694)
            (try simp only [hl676000_102] at HO_667000)
            (try simp only [hl676000_102] at HO_671000)
            (try simp only [hl676000_102] at HO_695000)
            cases kq with
            | zero => exact absurd HA.out (by simp [laws_FnExactHarderPuzzle.j2])
            | succ kj102 =>
             have H := HA.out
             clear HA
             simp only [laws_FnExactHarderPuzzle.j2] at H
             by_cases c146 : x87_102 = true
             ·subst c146
              have H1 : (some false) = some r := by rw [if_pos rfl] at H; exact H
              clear H
              have H := H1
              clear H1
              obtain rfl := oI H
              go_wp2
              go_ret
              exact ⟨by first | rfl | (simp [errW_none, errW_some] <;> rfl) | (simp [*, errW_none, errW_some] <;> rfl), by repeat (first | (with_reducible first | exact HB.out | apply bA | apply bN | apply bD | refine below_set ?_ GE657.out | refine below_set ?_ GE666.out | refine below_set ?_ GE670.out | refine below_set ?_ GE675.out | refine below_set ?_ GE694.out) | exact HB.out)⟩
             ·replace c146 := Bool.eq_false_iff.mpr c146
              subst c146
              have H1 : ((laws_heldPuzzle.f kj102 t685 1).bind fun t696 => (if t696 < 0 then (some false) else (if t696 = t684 then (some true) else (some false)))) = some r := by rw [if_neg (show ¬ (false = true) by decide)] at H; exact H
              clear H
              have H := H1
              clear H1
              replace H := bI H
              obtain ⟨t696, A1470, H⟩ := H
              replace H : (if t696 < 0 then (some false) else (if t696 = t684 then (some true) else (some false))) = some r := H
              have A147 := Aside0.mk A1470
              clear A1470
              by_cases c148 : t696 < 0
              ·rw [if_pos c148] at H
               have c148b0 : decide (t696 < 0) = true := decide_eq_true c148
               clear c148
               obtain rfl := oI H
               have hnb149 := NB675_657.out
               have hnc149 := NB657_675.out
               have hnb150 := NB675_666.out
               have hnc150 := NB666_675.out
               have hnb151 := NB675_670.out
               have hnc151 := NB670_675.out
               have hnb152 := NB675_694.out
               have hnc152 := NB694_675.out
               have hcz153_0 : wc.cell? ⟨gb675, 0, none⟩ = some (.slice Ao32 t685.length co32) := (blk_cell BK675.out 0).trans rfl
               have hfz153_0 := blk_frozen BK675.out 0
               go_wp2_with (first | ((with_reducible refine gate_callee (f := 39) rfl ?_); refine goesL_ (some 90) rfl rfl Try.func39 (by kernel_rfl) rfl #[.agg #[.slice Ao32 t685.length co32], .int .i64 1] rfl ar_ ?_; (with_reducible refine (laws_heldPuzzle.calls kj102 _ _ t685 1 t696 _ ?side1 ?side2 A147.out).mono ?_); (case side1 => repeat (first | exact (Kd.R_reads' HO_676000.out).2.2 | (with_reducible refine Kd.C_alloc ?_ _) | (with_reducible refine Kd.C_drewN ?_ _) | (with_reducible refine Kd.C_drew ?_))); (case side2 => exact (Kd.R_reads' HO_676000.out).2.1); rintro e w154 ⟨rfl, hb⟩; refine ⟨_, rfl, ?_⟩; have n0_ := Aside0.mk (Kd.R_below (by (with_reducible repeat (first | apply rA | apply rN | apply rD)); exact HO_667000.out) hb); have n1_ := Aside0.mk (Kd.R_below (by (with_reducible repeat (first | apply rA | apply rN | apply rD)); exact HO_671000.out) hb); have n2_ := Aside0.mk (Kd.R_below (by (with_reducible repeat (first | apply rA | apply rN | apply rD)); exact HO_676000.out) hb); have n3_ := Aside0.mk (Kd.R_below (by (with_reducible repeat (first | apply rA | apply rN | apply rD)); exact HO_695000.out) hb); have n4_ := Aside0.mk (blk_below (g := gb657) (o := .cells #[.slice A0_0 l0_0.length c0_0] 24 (0, 0)) (kx_ BK657.out) hb); have n5_ := Aside0.mk (blk_below (g := gb666) (o := .cells #[.slice Ao20 t662.length co20] 30 (0, 0)) (kx_ BK666.out) hb); have n6_ := Aside0.mk (blk_below (g := gb670) (o := .cells #[.slice Ao26 t682.length co26] 30 (0, 0)) (kx_ BK670.out) hb); have n7_ := Aside0.mk (blk_below (g := gb675) (o := .cells #[.slice Ao32 t685.length co32] 30 (0, 0)) (kx_ BK675.out) hb); have n8_ := Aside0.mk (blk_below (g := gb694) (o := .cells #[.slice Ao118 t690.length co118] 30 (0, 0)) (kx_ BK694.out) hb); have n9_ := Aside0.mk (below_step (by repeat (first | (with_reducible first | exact HB.out | apply bA | apply bN | apply bD | refine below_set ?_ GE657.out | refine below_set ?_ GE666.out | refine below_set ?_ GE670.out | refine below_set ?_ GE675.out | refine below_set ?_ GE694.out) | exact HB.out)) hb); clear HO_667000; clear HO_671000; clear HO_676000; clear HO_695000; clear BK657; clear BK666; clear BK670; clear BK675; clear BK694; clear HB; have HO_667000 := n0_; have HO_671000 := n1_; have HO_676000 := n2_; have HO_695000 := n3_; have BK657 := n4_; have BK666 := n5_; have BK670 := n6_; have BK675 := n7_; have BK694 := n8_; have HB := n9_; clear n0_ n1_ n2_ n3_ n4_ n5_ n6_ n7_ n8_ n9_; (try clear hb); (try clear hb2); (try clear hk); (try clear hi)))
               go_ret
               exact ⟨by first | rfl | (simp [errW_none, errW_some] <;> rfl) | (simp [*, errW_none, errW_some] <;> rfl), by repeat (first | (with_reducible first | exact HB.out | apply bA | apply bN | apply bD | refine below_set ?_ GE657.out | refine below_set ?_ GE666.out | refine below_set ?_ GE670.out | refine below_set ?_ GE675.out | refine below_set ?_ GE694.out) | exact HB.out)⟩
              ·rw [if_neg c148] at H
               have c148b0 : decide (t696 < 0) = false := decide_eq_false c148
               clear c148
               by_cases c155 : t696 = t684
               ·rw [if_pos c155] at H
                have c155b0 : (t696 == t684) = true := beq_iff_eq.mpr c155
                have c155b1 : (t696 != t684) = false := bne_eq_false_iff_eq.mpr c155
                clear c155
                obtain rfl := oI H
                have hnb156 := NB675_657.out
                have hnc156 := NB657_675.out
                have hnb157 := NB675_666.out
                have hnc157 := NB666_675.out
                have hnb158 := NB675_670.out
                have hnc158 := NB670_675.out
                have hnb159 := NB675_694.out
                have hnc159 := NB694_675.out
                have hcz160_0 : wc.cell? ⟨gb675, 0, none⟩ = some (.slice Ao32 t685.length co32) := (blk_cell BK675.out 0).trans rfl
                have hfz160_0 := blk_frozen BK675.out 0
                go_wp2_with (first | ((with_reducible refine gate_callee (f := 39) rfl ?_); refine goesL_ (some 90) rfl rfl Try.func39 (by kernel_rfl) rfl #[.agg #[.slice Ao32 t685.length co32], .int .i64 1] rfl ar_ ?_; (with_reducible refine (laws_heldPuzzle.calls kj102 _ _ t685 1 t696 _ ?side1 ?side2 A147.out).mono ?_); (case side1 => repeat (first | exact (Kd.R_reads' HO_676000.out).2.2 | (with_reducible refine Kd.C_alloc ?_ _) | (with_reducible refine Kd.C_drewN ?_ _) | (with_reducible refine Kd.C_drew ?_))); (case side2 => exact (Kd.R_reads' HO_676000.out).2.1); rintro e w161 ⟨rfl, hb⟩; refine ⟨_, rfl, ?_⟩; have n0_ := Aside0.mk (Kd.R_below (by (with_reducible repeat (first | apply rA | apply rN | apply rD)); exact HO_667000.out) hb); have n1_ := Aside0.mk (Kd.R_below (by (with_reducible repeat (first | apply rA | apply rN | apply rD)); exact HO_671000.out) hb); have n2_ := Aside0.mk (Kd.R_below (by (with_reducible repeat (first | apply rA | apply rN | apply rD)); exact HO_676000.out) hb); have n3_ := Aside0.mk (Kd.R_below (by (with_reducible repeat (first | apply rA | apply rN | apply rD)); exact HO_695000.out) hb); have n4_ := Aside0.mk (blk_below (g := gb657) (o := .cells #[.slice A0_0 l0_0.length c0_0] 24 (0, 0)) (kx_ BK657.out) hb); have n5_ := Aside0.mk (blk_below (g := gb666) (o := .cells #[.slice Ao20 t662.length co20] 30 (0, 0)) (kx_ BK666.out) hb); have n6_ := Aside0.mk (blk_below (g := gb670) (o := .cells #[.slice Ao26 t682.length co26] 30 (0, 0)) (kx_ BK670.out) hb); have n7_ := Aside0.mk (blk_below (g := gb675) (o := .cells #[.slice Ao32 t685.length co32] 30 (0, 0)) (kx_ BK675.out) hb); have n8_ := Aside0.mk (blk_below (g := gb694) (o := .cells #[.slice Ao118 t690.length co118] 30 (0, 0)) (kx_ BK694.out) hb); have n9_ := Aside0.mk (below_step (by repeat (first | (with_reducible first | exact HB.out | apply bA | apply bN | apply bD | refine below_set ?_ GE657.out | refine below_set ?_ GE666.out | refine below_set ?_ GE670.out | refine below_set ?_ GE675.out | refine below_set ?_ GE694.out) | exact HB.out)) hb); clear HO_667000; clear HO_671000; clear HO_676000; clear HO_695000; clear BK657; clear BK666; clear BK670; clear BK675; clear BK694; clear HB; have HO_667000 := n0_; have HO_671000 := n1_; have HO_676000 := n2_; have HO_695000 := n3_; have BK657 := n4_; have BK666 := n5_; have BK670 := n6_; have BK675 := n7_; have BK694 := n8_; have HB := n9_; clear n0_ n1_ n2_ n3_ n4_ n5_ n6_ n7_ n8_ n9_; (try clear hb); (try clear hb2); (try clear hk); (try clear hi)))
                go_ret
                exact ⟨by first | rfl | (simp [errW_none, errW_some] <;> rfl) | (simp [*, errW_none, errW_some] <;> rfl), by repeat (first | (with_reducible first | exact HB.out | apply bA | apply bN | apply bD | refine below_set ?_ GE657.out | refine below_set ?_ GE666.out | refine below_set ?_ GE670.out | refine below_set ?_ GE675.out | refine below_set ?_ GE694.out) | exact HB.out)⟩
               ·rw [if_neg c155] at H
                have c155b0 : (t696 == t684) = false := beq_eq_false_iff_ne.mpr c155
                have c155b1 : (t696 != t684) = true := bne_iff_ne.mpr c155
                obtain rfl := oI H
                have hnb162 := NB675_657.out
                have hnc162 := NB657_675.out
                have hnb163 := NB675_666.out
                have hnc163 := NB666_675.out
                have hnb164 := NB675_670.out
                have hnc164 := NB670_675.out
                have hnb165 := NB675_694.out
                have hnc165 := NB694_675.out
                have hcz166_0 : wc.cell? ⟨gb675, 0, none⟩ = some (.slice Ao32 t685.length co32) := (blk_cell BK675.out 0).trans rfl
                have hfz166_0 := blk_frozen BK675.out 0
                go_wp2_with (first | ((with_reducible refine gate_callee (f := 39) rfl ?_); refine goesL_ (some 90) rfl rfl Try.func39 (by kernel_rfl) rfl #[.agg #[.slice Ao32 t685.length co32], .int .i64 1] rfl ar_ ?_; (with_reducible refine (laws_heldPuzzle.calls kj102 _ _ t685 1 t696 _ ?side1 ?side2 A147.out).mono ?_); (case side1 => repeat (first | exact (Kd.R_reads' HO_676000.out).2.2 | (with_reducible refine Kd.C_alloc ?_ _) | (with_reducible refine Kd.C_drewN ?_ _) | (with_reducible refine Kd.C_drew ?_))); (case side2 => exact (Kd.R_reads' HO_676000.out).2.1); rintro e w167 ⟨rfl, hb⟩; refine ⟨_, rfl, ?_⟩; have n0_ := Aside0.mk (Kd.R_below (by (with_reducible repeat (first | apply rA | apply rN | apply rD)); exact HO_667000.out) hb); have n1_ := Aside0.mk (Kd.R_below (by (with_reducible repeat (first | apply rA | apply rN | apply rD)); exact HO_671000.out) hb); have n2_ := Aside0.mk (Kd.R_below (by (with_reducible repeat (first | apply rA | apply rN | apply rD)); exact HO_676000.out) hb); have n3_ := Aside0.mk (Kd.R_below (by (with_reducible repeat (first | apply rA | apply rN | apply rD)); exact HO_695000.out) hb); have n4_ := Aside0.mk (blk_below (g := gb657) (o := .cells #[.slice A0_0 l0_0.length c0_0] 24 (0, 0)) (kx_ BK657.out) hb); have n5_ := Aside0.mk (blk_below (g := gb666) (o := .cells #[.slice Ao20 t662.length co20] 30 (0, 0)) (kx_ BK666.out) hb); have n6_ := Aside0.mk (blk_below (g := gb670) (o := .cells #[.slice Ao26 t682.length co26] 30 (0, 0)) (kx_ BK670.out) hb); have n7_ := Aside0.mk (blk_below (g := gb675) (o := .cells #[.slice Ao32 t685.length co32] 30 (0, 0)) (kx_ BK675.out) hb); have n8_ := Aside0.mk (blk_below (g := gb694) (o := .cells #[.slice Ao118 t690.length co118] 30 (0, 0)) (kx_ BK694.out) hb); have n9_ := Aside0.mk (below_step (by repeat (first | (with_reducible first | exact HB.out | apply bA | apply bN | apply bD | refine below_set ?_ GE657.out | refine below_set ?_ GE666.out | refine below_set ?_ GE670.out | refine below_set ?_ GE675.out | refine below_set ?_ GE694.out) | exact HB.out)) hb); clear HO_667000; clear HO_671000; clear HO_676000; clear HO_695000; clear BK657; clear BK666; clear BK670; clear BK675; clear BK694; clear HB; have HO_667000 := n0_; have HO_671000 := n1_; have HO_676000 := n2_; have HO_695000 := n3_; have BK657 := n4_; have BK666 := n5_; have BK670 := n6_; have BK675 := n7_; have BK694 := n8_; have HB := n9_; clear n0_ n1_ n2_ n3_ n4_ n5_ n6_ n7_ n8_ n9_; (try clear hb); (try clear hb2); (try clear hk); (try clear hi)))
                go_ret
                exact ⟨by first | rfl | (simp [errW_none, errW_some] <;> rfl) | (simp [*, errW_none, errW_some] <;> rfl), by repeat (first | (with_reducible first | exact HB.out | apply bA | apply bN | apply bD | refine below_set ?_ GE657.out | refine below_set ?_ GE666.out | refine below_set ?_ GE670.out | refine below_set ?_ GE675.out | refine below_set ?_ GE694.out) | exact HB.out)⟩
          ·rw [if_neg c100] at H
           have c100b0 : (t686 == t684) = false := beq_eq_false_iff_ne.mpr c100
           have c100b1 : (t686 != t684) = true := bne_iff_ne.mpr c100
           obtain rfl := oI H
           have hnb168 := NB675_657.out
           have hnc168 := NB657_675.out
           have hnb169 := NB675_666.out
           have hnc169 := NB666_675.out
           have hnb170 := NB675_670.out
           have hnc170 := NB670_675.out
           have hcz171_0 : wc.cell? ⟨gb675, 0, none⟩ = some (.slice Ao32 t671.length co32) := (blk_cell BK675.out 0).trans rfl
           have hfz171_0 := blk_frozen BK675.out 0
           go_wp2_with (first | ((with_reducible refine gate_callee (f := 29) rfl ?_); refine goesL_ (some 64) rfl rfl Try.func29 (by kernel_rfl) rfl #[.agg #[.slice Ao32 t671.length co32], .int .i64 1] rfl ar_ ?_; (with_reducible refine (laws_markPuzzle.calls kj59 (fun k_ => some k_ = (.slice Ao32 t671.length co32 : Value).ownBlock) (.slice Ao32 t671.length co32) t671 1 t684 t685 w _ ?side1 ?side2 A90.out).mono ?_); (case side1 => repeat (first | (with_reducible first | exact HB.out | apply bA | apply bN | apply bD | refine below_set ?_ GE657.out | refine below_set ?_ GE666.out | refine below_set ?_ GE670.out | refine below_set ?_ GE675.out) | exact HB.out)); (case side2 => exact Kd.R_tight rfl HO_676000.out); rintro e w172 ⟨rfl, hy0, hb, hkp⟩; refine ⟨_, rfl, ?_⟩; have n0_ := Aside0.mk (Kd.R_mono (ok' := fun k_ => some k_ ≠ (.slice Ao26 t682.length co26 : Value).ownBlock ∧ some k_ ≠ (.slice Ao32 t671.length co32 : Value).ownBlock) (Kd.R_keptB (HO_667000.out) hkp (fun k_ hk_ hs_ => (hk_.2) hs_)) (fun k_ hk_ => ⟨hk_.1.1, hk_.1.2⟩)); have n1_ := Aside0.mk (Kd.R_mono (ok' := fun k_ => some k_ ≠ (.slice Ao20 t662.length co20 : Value).ownBlock ∧ some k_ ≠ (.slice Ao32 t671.length co32 : Value).ownBlock) (Kd.R_keptB (HO_671000.out) hkp (fun k_ hk_ hs_ => (hk_.2) hs_)) (fun k_ hk_ => ⟨hk_.1.1, hk_.1.2⟩)); have n2_ := Aside0.mk (Kd.R_reok rfl hy0 (fun k_ e_ => HO_676000.out.1 k_ e_)); have n3_ := Aside0.mk (blk_kept (kx_ BK657.out) hkp (fun hs_ => (fun e_ => (Kd.R_ne HO_676000.out BK657.out (by decide)) e_) hs_)); have n4_ := Aside0.mk (blk_kept (kx_ BK666.out) hkp (fun hs_ => (fun e_ => (Kd.R_ne HO_676000.out BK666.out (by decide)) e_) hs_)); have n5_ := Aside0.mk (blk_kept (kx_ BK670.out) hkp (fun hs_ => (fun e_ => (Kd.R_ne HO_676000.out BK670.out (by decide)) e_) hs_)); have n6_ := Aside0.mk (blk_kept (kx_ BK675.out) hkp (fun hs_ => (fun e_ => (Kd.R_ne HO_676000.out BK675.out (by decide)) e_) hs_)); have n7_ := Aside0.mk (hb); clear HO_667000; clear HO_671000; clear HO_676000; clear BK657; clear BK666; clear BK670; clear BK675; clear HB; have HO_667000 := n0_; have HO_671000 := n1_; have HO_676000 := n2_; have BK657 := n3_; have BK666 := n4_; have BK670 := n5_; have BK675 := n6_; have HB := n7_; clear n0_ n1_ n2_ n3_ n4_ n5_ n6_ n7_; (try clear hb); (try clear hkp); (try clear hy0); have hcz173_0 : w172.cell? ⟨gb675, 0, none⟩ = some (.slice Ao32 t671.length co32) := (blk_cell BK675.out 0).trans rfl; have hfz173_0 := blk_frozen BK675.out 0) | ((with_reducible refine gate_callee (f := 39) rfl ?_); refine goesL_ (some 67) rfl rfl Try.func39 (by kernel_rfl) rfl #[.agg #[.slice Ao32 t685.length co32], .int .i64 1] rfl (by (try simp only [mT, mC, mN]); first | done | (rw [show t685.length = t671.length from (Kd.R_reads' HO_676000.out).1.symm] <;> rfl) | rfl | (simp only [List.length_drop, List.length_take]; rfl)) ?_; (with_reducible refine (laws_heldPuzzle.calls kj59 _ _ t685 1 t686 _ ?side1 ?side2 A91.out).mono ?_); (case side1 => repeat (first | exact (Kd.R_reads' HO_676000.out).2.2 | (with_reducible refine Kd.C_alloc ?_ _) | (with_reducible refine Kd.C_drewN ?_ _) | (with_reducible refine Kd.C_drew ?_))); (case side2 => rw [show t685.length = t671.length from (Kd.R_reads' HO_676000.out).1.symm]; exact (Kd.R_reads' HO_676000.out).2.1); rintro e w174 ⟨rfl, hb⟩; refine ⟨_, rfl, ?_⟩; have n0_ := Aside0.mk (Kd.R_below (by (with_reducible repeat (first | apply rA | apply rN | apply rD)); exact HO_667000.out) hb); have n1_ := Aside0.mk (Kd.R_below (by (with_reducible repeat (first | apply rA | apply rN | apply rD)); exact HO_671000.out) hb); have n2_ := Aside0.mk (Kd.R_below (by (with_reducible repeat (first | apply rA | apply rN | apply rD)); exact HO_676000.out) hb); have n3_ := Aside0.mk (blk_below (g := gb657) (o := .cells #[.slice A0_0 l0_0.length c0_0] 24 (0, 0)) (kx_ BK657.out) hb); have n4_ := Aside0.mk (blk_below (g := gb666) (o := .cells #[.slice Ao20 t662.length co20] 30 (0, 0)) (kx_ BK666.out) hb); have n5_ := Aside0.mk (blk_below (g := gb670) (o := .cells #[.slice Ao26 t682.length co26] 30 (0, 0)) (kx_ BK670.out) hb); have n6_ := Aside0.mk (blk_below (g := gb675) (o := .cells #[.slice Ao32 t671.length co32] 30 (0, 0)) (kx_ BK675.out) hb); have n7_ := Aside0.mk (below_step (by repeat (first | (with_reducible first | exact HB.out | apply bA | apply bN | apply bD | refine below_set ?_ GE657.out | refine below_set ?_ GE666.out | refine below_set ?_ GE670.out | refine below_set ?_ GE675.out) | exact HB.out)) hb); clear HO_667000; clear HO_671000; clear HO_676000; clear BK657; clear BK666; clear BK670; clear BK675; clear HB; have HO_667000 := n0_; have HO_671000 := n1_; have HO_676000 := n2_; have BK657 := n3_; have BK666 := n4_; have BK670 := n5_; have BK675 := n6_; have HB := n7_; clear n0_ n1_ n2_ n3_ n4_ n5_ n6_ n7_; (try clear hb); (try clear hb2); (try clear hk); (try clear hi)))
           go_ret
           exact ⟨by first | rfl | (simp [errW_none, errW_some] <;> rfl) | (simp [*, errW_none, errW_some] <;> rfl), by repeat (first | (with_reducible first | exact HB.out | apply bA | apply bN | apply bD | refine below_set ?_ GE657.out | refine below_set ?_ GE666.out | refine below_set ?_ GE670.out | refine below_set ?_ GE675.out) | exact HB.out)⟩
     ·replace c58 := Bool.eq_false_iff.mpr c58
      subst c58
      have H1 : (some false) = some r := by rw [if_neg (show ¬ (false = true) by decide)] at H; exact H
      clear H
      have H := H1
      clear H1
      obtain rfl := oI H
      try go_wp2
      have n0_ := Aside0.mk (Kd.R_drew HO_667000.out)
      have n1_ := Aside0.mk (Kd.R_drew HO_671000.out)
      have n2_ := Aside0.mk (Kd.R_drew HO_676000.out)
      have n3_ := Aside0.mk (blk_drew BK657.out)
      have n4_ := Aside0.mk (blk_drew BK666.out)
      have n5_ := Aside0.mk (blk_drew BK670.out)
      have n6_ := Aside0.mk (blk_drew BK675.out)
      have n7_ := Aside0.mk (below_drew1 HB.out)
      clear HO_667000
      clear HO_671000
      clear HO_676000
      clear BK657
      clear BK666
      clear BK670
      clear BK675
      clear HB
      have HO_667000 := n0_
      have HO_671000 := n1_
      have HO_676000 := n2_
      have BK657 := n3_
      have BK666 := n4_
      have BK670 := n5_
      have BK675 := n6_
      have HB := n7_
      clear n0_ n1_ n2_ n3_ n4_ n5_ n6_ n7_
      refine start_ (n := 5) (S := fun w' => w'.cell? ⟨gb670, 0, none⟩ = some (.slice Ao26 t667.length co26) ∧ w'.cell? ⟨gb657, 0, none⟩ = some (.slice A0_0 l0_0.length c0_0)) (ds := []) #[false, false, false, false, false] (by kernel_rfl) rfl rfl ⟨(blk_cell BK670.out 0).trans rfl, (blk_cell BK657.out 0).trans rfl⟩ (fun hHeld => ?_)
      generalize wc.drew = w175 at HO_667000 HO_671000 HO_676000 BK657 BK666 BK670 BK675 HB hHeld ⊢
      refine take_ (i := 0) (N := some 41) (v := ?_) (a' := ?_) #[true, false, false, false, false] rfl rfl (by kernel_rfl) (fun _ _ _ h => h) (Or.inl ⟨by rfl, ?_⟩) hHeld ?_ ?_
      rotate_left
      ·rintro w' ⟨s0, s1⟩
       go_simp
       with_reducible rfl
      rotate_left
      ·simp only [Act.put, sT, sZ, sS, i64_w, i32_w]
       rfl
      refine take_ (i := 1) (N := some 42) (v := ?_) (a' := ?_) #[true, true, false, false, false] rfl rfl (by kernel_rfl) (fun _ _ _ h => h) (Or.inl ⟨by rfl, ?_⟩) hHeld ?_ ?_
      rotate_left
      ·rintro w' ⟨s0, s1⟩
       go_simp
       with_reducible rfl
      rotate_left
      ·simp only [Act.put, sT, sZ, sS, i64_w, i32_w]
       rfl
      refine one_ (i := 2) (N := some 43) #[true, true, true, false, false] rfl rfl (by kernel_rfl) (by decide) (fun K hK => ?_)
      refine goes_ Try.func14 (by kernel_rfl) rfl #[.agg #[.slice A0_0 l0_0.length c0_0]] (by rfl) rfl rfl ar_ ?_
      with_reducible refine (laws_toPuzzle.calls kj10 _ _ l0_0 t677 _ ?side1 ?side2 A56.out).mono ?_
      (case side1 => repeat (first | exact (Kd.C_below HR0_0.out HB.out) | (with_reducible refine Kd.C_alloc ?_ _) | (with_reducible refine Kd.C_drewN ?_ _) | (with_reducible refine Kd.C_drew ?_)))
      (case side2 => exact HC0_0.out)
      rintro e w176 ⟨v678, rfl, ho0, hb⟩
      refine ⟨_, rfl, ?_⟩
      have n0_ := Aside0.mk (Kd.R_elder' (by (with_reducible repeat (first | apply rA | apply rN | apply rD)); exact HO_667000.out) (Kd.R_base ho0) hb)
      have n1_ := Aside0.mk (Kd.R_elder' (by (with_reducible repeat (first | apply rA | apply rN | apply rD)); exact HO_671000.out) (Kd.R_base ho0) hb)
      have n2_ := Aside0.mk (Kd.R_elder' (by (with_reducible repeat (first | apply rA | apply rN | apply rD)); exact HO_676000.out) (Kd.R_base ho0) hb)
      have n3_ := Aside0.mk (Kd.R_lower (Kd.R_new' (Kd.R_new' (Kd.R_new' ho0 (Kd.R_lt (by (with_reducible repeat (first | apply rA | apply rN | apply rD)); exact HO_667000.out))) (Kd.R_lt (by (with_reducible repeat (first | apply rA | apply rN | apply rD)); exact HO_671000.out))) (Kd.R_lt (by (with_reducible repeat (first | apply rA | apply rN | apply rD)); exact HO_676000.out))) (below_size (by repeat (first | (with_reducible first | exact HB.out | apply bA | apply bN | apply bD | refine below_set ?_ GE657.out | refine below_set ?_ GE666.out | refine below_set ?_ GE670.out | refine below_set ?_ GE675.out) | exact HB.out))))
      have n4_ := Aside0.mk (blk_below (g := gb657) (o := .cells #[.slice A0_0 l0_0.length c0_0] 24 (0, 0)) (kx_ BK657.out) hb)
      have n5_ := Aside0.mk (blk_below (g := gb666) (o := .cells #[.slice Ao20 t662.length co20] 30 (0, 0)) (kx_ BK666.out) hb)
      have n6_ := Aside0.mk (blk_below (g := gb670) (o := .cells #[.slice Ao26 t667.length co26] 30 (0, 0)) (kx_ BK670.out) hb)
      have n7_ := Aside0.mk (blk_below (g := gb675) (o := .cells #[.slice Ao32 t671.length co32] 30 (0, 0)) (kx_ BK675.out) hb)
      have n8_ := Aside0.mk (below_step (by repeat (first | (with_reducible first | exact HB.out | apply bA | apply bN | apply bD | refine below_set ?_ GE657.out | refine below_set ?_ GE666.out | refine below_set ?_ GE670.out | refine below_set ?_ GE675.out) | exact HB.out)) hb)
      clear HO_667000
      clear HO_671000
      clear HO_676000
      clear BK657
      clear BK666
      clear BK670
      clear BK675
      clear HB
      have HO_667000 := n0_
      have HO_671000 := n1_
      have HO_676000 := n2_
      have HO679 := n3_
      have BK657 := n4_
      have BK666 := n5_
      have BK670 := n6_
      have BK675 := n7_
      have HB := n8_
      clear n0_ n1_ n2_ n3_ n4_ n5_ n6_ n7_ n8_
      (try clear hb)
      (try clear hb2)
      (try clear hk)
      (try clear hi)
      (try clear ho0)
      obtain ⟨Ao177, co177, eo177⟩ := Kd.R_slice HO679.out
      (first | subst eo177 | (injection eo177 with f1_ f2_ f3_; have f4_ := f1_.symm; have f5_ := f3_.symm; clear f1_ f2_ f3_; subst f4_; subst f5_))
      refine hK.out _ _ ⟨(blk_cell BK670.out 0).trans rfl, (blk_cell BK657.out 0).trans rfl⟩ (fun hHeld => ?_)
      clear hK K
      refine norm_ (a' := ?_) ?_ ?_
      rotate_left
      ·show Act.put _ (some 43) _ = _
       simp only [Act.put, sT, sZ, sS, i64_w, i32_w]
       rfl
      refine one_ (i := 3) (N := some 44) #[true, true, true, true, false] rfl rfl (by kernel_rfl) (by decide) (fun K hK => ?_)
      refine goes_ Try.func16 (by kernel_rfl) rfl #[.agg #[.slice Ao26 t667.length co26], .agg #[.slice Ao177 t677.length co177]] (by rfl) rfl rfl ar_ ?_
      with_reducible refine (laws_eqPuzzle.calls kj10 _ _ t667 _ _ t677 false _ ?side1 ?side2 ?side3 ?side4 A57.out).mono ?_
      (case side1 => repeat (first | exact (Kd.R_reads' HO_671000.out).2.2 | (with_reducible refine Kd.C_alloc ?_ _) | (with_reducible refine Kd.C_drewN ?_ _) | (with_reducible refine Kd.C_drew ?_)))
      (case side2 => exact (Kd.R_reads' HO_671000.out).2.1)
      (case side3 => repeat (first | exact (Kd.R_reads' HO679.out).2.2 | (with_reducible refine Kd.C_alloc ?_ _) | (with_reducible refine Kd.C_drewN ?_ _) | (with_reducible refine Kd.C_drew ?_)))
      (case side4 => exact (Kd.R_reads' HO679.out).2.1)
      rintro e w178 ⟨rfl, hb⟩
      refine ⟨_, rfl, ?_⟩
      have n0_ := Aside0.mk (Kd.R_below (by (with_reducible repeat (first | apply rA | apply rN | apply rD)); exact HO_667000.out) hb)
      have n1_ := Aside0.mk (Kd.R_below (by (with_reducible repeat (first | apply rA | apply rN | apply rD)); exact HO_671000.out) hb)
      have n2_ := Aside0.mk (Kd.R_below (by (with_reducible repeat (first | apply rA | apply rN | apply rD)); exact HO_676000.out) hb)
      have n3_ := Aside0.mk (Kd.R_below (by (with_reducible repeat (first | apply rA | apply rN | apply rD)); exact HO679.out) hb)
      have n4_ := Aside0.mk (blk_below (g := gb657) (o := .cells #[.slice A0_0 l0_0.length c0_0] 24 (0, 0)) (kx_ BK657.out) hb)
      have n5_ := Aside0.mk (blk_below (g := gb666) (o := .cells #[.slice Ao20 t662.length co20] 30 (0, 0)) (kx_ BK666.out) hb)
      have n6_ := Aside0.mk (blk_below (g := gb670) (o := .cells #[.slice Ao26 t667.length co26] 30 (0, 0)) (kx_ BK670.out) hb)
      have n7_ := Aside0.mk (blk_below (g := gb675) (o := .cells #[.slice Ao32 t671.length co32] 30 (0, 0)) (kx_ BK675.out) hb)
      have n8_ := Aside0.mk (below_step (by repeat (first | (with_reducible first | exact HB.out | apply bA | apply bN | apply bD | refine below_set ?_ GE657.out | refine below_set ?_ GE666.out | refine below_set ?_ GE670.out | refine below_set ?_ GE675.out) | exact HB.out)) hb)
      clear HO_667000
      clear HO_671000
      clear HO_676000
      clear HO679
      clear BK657
      clear BK666
      clear BK670
      clear BK675
      clear HB
      have HO_667000 := n0_
      have HO_671000 := n1_
      have HO_676000 := n2_
      have HO679 := n3_
      have BK657 := n4_
      have BK666 := n5_
      have BK670 := n6_
      have BK675 := n7_
      have HB := n8_
      clear n0_ n1_ n2_ n3_ n4_ n5_ n6_ n7_ n8_
      (try clear hb)
      (try clear hb2)
      (try clear hk)
      (try clear hi)
      refine hK.out _ _ ⟨(blk_cell BK670.out 0).trans rfl, (blk_cell BK657.out 0).trans rfl⟩ (fun hHeld => ?_)
      clear hK K
      refine norm_ (a' := ?_) ?_ ?_
      rotate_left
      ·show Act.put _ (some 44) _ = _
       simp only [Act.put, sT, sZ, sS, i64_w, i32_w]
       rfl
      refine pure_ (i := 4) (N := some 45) (v := ?_) (a' := ?_) #[true, true, true, true, true] rfl rfl (by kernel_rfl) (fun _ _ _ h => h) (Or.inl ⟨by rfl, ?_⟩) ?_ ?_
      rotate_left
      ·intro w'
       go_simp
       with_reducible rfl
      rotate_left
      ·simp only [Act.put, sT, sZ, sS, i64_w, i32_w]
       rfl
      refine done_ (by kernel_rfl) ?_
      try go_wp2
      go_ret
      exact ⟨by first | rfl | (simp [errW_none, errW_some] <;> rfl) | (simp [*, errW_none, errW_some] <;> rfl), by repeat (first | (with_reducible first | exact HB.out | apply bA | apply bN | apply bD | refine below_set ?_ GE657.out | refine below_set ?_ GE666.out | refine below_set ?_ GE670.out | refine below_set ?_ GE675.out) | exact HB.out)⟩
end Go.Proofs.Ytkgaljocaapobaa.Pr
/- The statements' own helpers on lists of clues: the size, the copies and the comparison. -/
namespace Go.Proofs.Ytkgaljocaapobaa.M
open Go.RowKit Go.Proofs.YtkgaljocaapobaaW.PrintWords Go.Proofs.Ytkgaljocaapobaa.Pr
abbrev Cl := S67
abbrev LCl := S72
def toCl (c : LCl) : Cl := ⟨c.f0, c.f1, c.f2⟩
theorem rd_cl (l : List Cl) (i : Nat) (h : i < l.length) : rd_T67 l (i : Int) = l[i] := by
  unfold rd_T67
  simp [List.getD_eq_getElem?_getD, List.getElem?_eq_getElem h]
theorem rd_lcl (l : List LCl) (i : Nat) (h : i < l.length) : rd_T72 l (i : Int) = l[i] := by
  unfold rd_T72
  simp [List.getD_eq_getElem?_getD, List.getElem?_eq_getElem h]
theorem szClS_small (l : List LCl) (n : Int) (hn : 0 ≤ n ∧ n ≤ 1048576) (h : (l.length : Int) ≤ n) : laws_szClueS.f l n = some (n - (l.length : Int)) := by
  unfold laws_szClueS.f
  rw [w64 (by omega) (by omega), if_neg (by omega)]
theorem szClS_big (l : List LCl) (n : Int) (hn : 0 ≤ n ∧ n ≤ 1048576) (h : n < (l.length : Int)) (hm : l.length ≤ maxLen) : laws_szClueS.f l n = some (-1) := by
  unfold maxLen at hm
  unfold laws_szClueS.f
  rw [w64 (by omega) (by omega), if_pos (by omega)]
theorem szP_small (l : List LCl) (h : l.length ≤ 1048576) : laws_szPuzzle.f l 1048576 = some (1048576 - (l.length : Int)) := by
  unfold laws_szPuzzle.f
  rw [szClS_small l _ (by omega) (by omega)]
  simp only [Option.bind_some]
  rw [if_neg (by omega)]
theorem szP_big (l : List LCl) (h : 1048576 < l.length) (hm : l.length ≤ maxLen) : laws_szPuzzle.f l 1048576 = some (-1) := by
  unfold laws_szPuzzle.f
  rw [szClS_big l _ (by omega) (by omega) hm]
  simp
theorem toClS_ev (l : List LCl) (hl : l.length ≤ 1048576) : Ev (fun k => laws_toClueS.f k l) (l.map toCl) := by
  unfold laws_toClueS.f
  refine Ev.pos (by omega) (Ev.pos (by simp; omega) ?_)
  rw [Int.toNat_natCast]
  refine Ev.scan0 (fun k i acc => laws_toClueS.l0 k l acc i) l (fun rest acc => l.map toCl) (fun i acc => acc = (l.take i).map toCl ++ List.replicate (l.length - i) z67)
    (fun acc hp => by
      refine Ev.step (fun k => by rw [laws_toClueS.l0]) ?_
      refine Ev.neg (by omega) (Ev.val ?_)
      rw [hp]
      simp)
    (fun i h acc hp => by
      have hr := rd_lcl l i h
      have hal : acc.length = l.length := by rw [hp]; simp; omega
      refine .inl ⟨acc.set i (toCl l[i]), ?_, rfl, fun r hr2 => ?_⟩
      · rw [hp, List.take_succ_eq_append_getElem h, List.map_append, List.append_assoc]
        have ht : ((l.take i).map toCl).length = i := by simp; omega
        rw [List.set_append_right i _ (by omega), ht, Nat.sub_self]
        congr 1
        obtain ⟨q, hq⟩ : ∃ q, l.length - i = q + 1 := ⟨l.length - i - 1, by omega⟩
        rw [hq, show l.length - (i + 1) = q by omega, List.replicate_succ, List.set_cons_zero]
        rfl
      · refine Ev.step (fun k => by rw [laws_toClueS.l0]) ?_
        refine Ev.pos (by omega) (Ev.pos (by omega) ?_)
        rw [hr]
        refine Ev.bindc (a := (l[i].f0, l[i].f1, l[i].f2)) rfl (Ev.pos (by omega) ?_)
        rw [w64 (x := (i : Int) + 1) (by omega) (by omega), Int.toNat_natCast]
        exact hr2)
    _ (by simp)
theorem toP_ev (l : List LCl) (hl : l.length ≤ 1048576) : Ev (fun k => laws_toPuzzle.f k l) (l.map toCl) := by
  unfold laws_toPuzzle.f
  exact Ev.bindk (toClS_ev l hl) (Ev.val rfl)
theorem eqClS_ev (l : List Cl) (hl : l.length ≤ 9223372036854775806) : Ev (fun k => laws_eqClueS.f k l l) true := by
  unfold laws_eqClueS.f
  refine Ev.pos rfl ?_
  have e := Ev.scan0 (fun k i (_ : Unit) => laws_eqClueS.l0 k l l i) l (fun _ _ => true) (fun _ _ => True)
    (fun acc _ => by
      refine Ev.step (fun k => by rw [laws_eqClueS.l0]) ?_
      exact Ev.neg (by omega) (Ev.now true))
    (fun i h acc _ => by
      refine .inl ⟨(), trivial, rfl, fun r hr2 => ?_⟩
      refine Ev.step (fun k => by rw [laws_eqClueS.l0]) ?_
      refine Ev.pos (by omega) (Ev.pos (by omega) (Ev.pos (by omega) ?_))
      refine Ev.bindc (a := true) (by unfold laws_eqClue.f; simp) (Ev.pos rfl ?_)
      rw [w64 (x := (i : Int) + 1) (by omega) (by omega)]
      exact hr2) () trivial
  exact e
theorem eqP_ev (l : List Cl) (hl : l.length ≤ 9223372036854775806) : Ev (fun k => laws_eqPuzzle.f k l l) true := by
  unfold laws_eqPuzzle.f
  exact Ev.bindk (eqClS_ev l hl) (Ev.pos rfl (Ev.val rfl))
end Go.Proofs.Ytkgaljocaapobaa.M
/- A puzzle of the reference is one of the program. -/
namespace Go.Proofs.Ytkgaljocaapobaa.M
open Go.RowKit Go.Proofs.YtkgaljocaapobaaW.PrintWords Go.Proofs.Ytkgaljocaapobaa.Pr
/-- A puzzle: six clues at most, each of them one. -/
def puzB (l : List Cl) : Bool := decide (l.length ≤ 6) && !(l.any noCl)
theorem isPuzzle_eq (l : List Cl) : impl_IsPuzzle.f l = some (puzB l) := rfl
theorem pzGood_ev (l : List Cl) : Ev (fun k => spec_pzGood.f k l) (puzB l) := by
  unfold spec_pzGood.f puzB
  by_cases h6 : l.length ≤ 6
  · refine Ev.neg (by omega) ?_
    rw [decide_eq_true h6, Bool.true_and]
    refine Ev.scan0 (fun k i (_ : Unit) => spec_pzGood.l0 k l (l.length : Int) i) l (fun rest _ => !(rest.any noCl)) (fun _ _ => True)
      (fun acc _ => by
        refine Ev.step (fun k => by rw [spec_pzGood.l0]) ?_
        exact Ev.neg (by omega) (Ev.val (by simp)))
      (fun i h acc _ => by
        have hr := rd_cl l i h
        by_cases hc : clN l[i].f0 l[i].f1 l[i].f2 = true
        · refine .inl ⟨(), trivial, by rw [List.any_cons]; unfold noCl; rw [hc]; rfl, fun r hr2 => ?_⟩
          refine Ev.step (fun k => by rw [spec_pzGood.l0]) ?_
          refine Ev.pos (by omega) (Ev.pos (by omega) (Ev.pos (by omega) ?_))
          rw [hr]
          refine Ev.bindk (clue_ev _ _ _) (Ev.pos hc ?_)
          rw [w64 (x := (i : Int) + 1) (by omega) (by omega)]
          exact hr2
        · refine .inr ?_
          refine Ev.step (fun k => by rw [spec_pzGood.l0]) ?_
          refine Ev.pos (by omega) (Ev.pos (by omega) (Ev.pos (by omega) ?_))
          rw [hr]
          refine Ev.bindk (clue_ev _ _ _) (Ev.neg hc (Ev.val ?_))
          rw [List.any_cons]
          have : noCl l[i] = true := by unfold noCl; rw [Bool.eq_false_iff.mpr hc]; rfl
          rw [this]
          rfl) () trivial
  · refine Ev.pos (by omega) (Ev.val ?_)
    rw [decide_eq_false h6]
    rfl
end Go.Proofs.Ytkgaljocaapobaa.M
namespace Go.Proofs.Ytkgaljocaapobaa.Pr
open Go.RowKit Go.Proofs.YtkgaljocaapobaaW.PrintWords Go.Proofs.YtkgaljocaapobaaW.PrintLast Go.Proofs.YtkgaljocaapobaaW.PrintMore
attribute [local go_sem] max2_int min2_int max_two min_two max_three min_three max_four min_four
def impl_Solutions.f (l0_0 : List (S67)) : Option ((List (S37)) × Bool) := (impl_IsPuzzle.f l0_0).bind fun t347 => (if t347 = true then ((impl_solutions.f l0_0).bind fun t348 => (some (t348, true))) else (some (([] : List (S37)), false)))
set_option maxHeartbeats 8000000 in
set_option maxRecDepth 100000 in
theorem impl_Solutions.calls (A0_0 : Option Addr) (c0_0 : Nat) (l0_0 : List (S67)) (r1 : List (S37)) (r2 : Bool) (w : World) (hr0_0 : Kd.C k67 w A0_0 l0_0.length l0_0) (hc0_0 : l0_0.length ≤ c0_0) (h : impl_Solutions.f l0_0 = some (r1, r2)) :
  Calls Try.prog 33 #[.agg #[.slice A0_0 l0_0.length c0_0]] w fun e w' => ∃ v0_ : Value, e = .returned (.tuple #[v0_, .bool r2]) ∧ Kd.R k37 37 w' w.heap.size (fun _ => True) v0_ r1 ∧ Below w.heap.size w w' := by
 have hu30 := Try.underlying30
 have HR0_0 := Aside0.mk hr0_0
 have HC0_0 := Aside0.mk hc0_0
 clear hr0_0 hc0_0
 have HB := Aside0.mk (Below.refl w.heap.size w)
 have H : ((impl_IsPuzzle.f l0_0).bind fun t347 => (if t347 = true then ((impl_solutions.f l0_0).bind fun t348 => (some (t348, true))) else (some (([] : List (S37)), false)))) = some (r1, r2) := h
 clear h
 replace H := bI H
 obtain ⟨t347, A20, H⟩ := H
 replace H : (if t347 = true then ((impl_solutions.f l0_0).bind fun t348 => (some (t348, true))) else (some (([] : List (S37)), false))) = some (r1, r2) := H
 have A2 := Aside0.mk A20
 clear A20
 by_cases c3 : t347 = true
 ·subst c3
  have H1 : ((impl_solutions.f l0_0).bind fun t348 => (some (t348, true))) = some (r1, r2) := by rw [if_pos rfl] at H; exact H
  clear H
  have H := H1
  clear H1
  replace H := bI H
  obtain ⟨t348, A40, H⟩ := H
  replace H : (some (t348, true)) = some (r1, r2) := H
  have A4 := Aside0.mk A40
  clear A40
  simp only [Option.some.injEq, Prod.mk.injEq] at H
  obtain ⟨rfl, rfl⟩ := H
  go_enter Try.func33, Try.ntmps33
  go_wp2_with (first | ((with_reducible refine gate_dst (N := 1) rfl ?_); refine box_event ?hg (N := 1) ?hd (cs := #[.slice A0_0 l0_0.length c0_0]) (t := 30) ?hr ?_; (case hd => rfl); (case hg => rfl); (case hr => first | (go_simp; done) | (go_simp; rfl)); intro gb346 hg w5 hbox hb; have n0_ := Aside0.mk (below_step hb_ hb); have n1_ := Aside0.mk (hbox); have n2_ := Aside0.mk ((by rw [hg]; exact (below_size hb_) : w.heap.size ≤ gb346)); have n3_ := Aside0.mk ((by rw [hg]; exact (below_size hb_) : w.heap.size ≤ gb346)); clear HB; have HB := n0_; have BK346 := n1_; have GW346 := n2_; have GE346 := n3_; clear n0_ n1_ n2_ n3_; clear hb hbox hg; have hcz6_0 : w5.cell? ⟨gb346, 0, none⟩ = some (.slice A0_0 l0_0.length c0_0) := (blk_cell BK346.out 0).trans rfl; have hfz6_0 := blk_frozen BK346.out 0) | ((with_reducible refine gate_callee (f := 46) rfl ?_); refine goesL_ (some 5) rfl rfl Try.func46 (by kernel_rfl) rfl #[.agg #[.slice A0_0 l0_0.length c0_0]] rfl ar_ ?_; (with_reducible refine (impl_IsPuzzle.calls _ _ l0_0 true _ ?side1 ?side2 A2.out).mono ?_); (case side1 => repeat (first | exact (Kd.C_below HR0_0.out HB.out) | (with_reducible refine Kd.C_alloc ?_ _) | (with_reducible refine Kd.C_drewN ?_ _) | (with_reducible refine Kd.C_drew ?_))); (case side2 => exact HC0_0.out); rintro e w7 ⟨rfl, hb⟩; refine ⟨_, rfl, ?_⟩; have n0_ := Aside0.mk (blk_below (g := gb346) (o := .cells #[.slice A0_0 l0_0.length c0_0] 30 (0, 0)) (kx_ BK346.out) hb); have n1_ := Aside0.mk (below_step (hs_ GE346.out) hb); clear BK346; clear HB; have BK346 := n0_; have HB := n1_; clear n0_ n1_; (try clear hb); (try clear hb2); (try clear hk); (try clear hi); have hcz8_0 : w7.cell? ⟨gb346, 0, none⟩ = some (.slice A0_0 l0_0.length c0_0) := (blk_cell BK346.out 0).trans rfl; have hfz8_0 := blk_frozen BK346.out 0) | ((with_reducible refine gate_callee (f := 50) rfl ?_); refine goesL_ (some 9) rfl rfl Try.func50 (by kernel_rfl) rfl #[.slice A0_0 l0_0.length c0_0] rfl ar_ ?_; (with_reducible refine (impl_solutions.calls _ _ l0_0 t348 _ ?side1 ?side2 A4.out).mono ?_); (case side1 => repeat (first | exact (Kd.C_below HR0_0.out HB.out) | (with_reducible refine Kd.C_alloc ?_ _) | (with_reducible refine Kd.C_drewN ?_ _) | (with_reducible refine Kd.C_drew ?_))); (case side2 => exact HC0_0.out); rintro e w9 ⟨v349, rfl, ho0, hb⟩; refine ⟨_, rfl, ?_⟩; have n0_ := Aside0.mk (Kd.R_lower ho0 (below_size (hs_ GE346.out))); have n1_ := Aside0.mk (blk_below (g := gb346) (o := .cells #[.slice A0_0 l0_0.length c0_0] 30 (0, 0)) (kx_ BK346.out) hb); have n2_ := Aside0.mk (below_step (hs_ GE346.out) hb); clear BK346; clear HB; have HO350 := n0_; have BK346 := n1_; have HB := n2_; clear n0_ n1_ n2_; (try clear hb); (try clear hb2); (try clear hk); (try clear hi); (try clear ho0)))
  go_ret2
  exact ⟨_, by first | rfl | (simp [errW_none, errW_some] <;> rfl) | (simp [*, errW_none, errW_some] <;> rfl), by (with_reducible repeat (first | apply rA | apply rN | apply rD)); exact HO350.out, hs_ GE346.out⟩
 ·replace c3 := Bool.eq_false_iff.mpr c3
  subst c3
  have H1 : (some (([] : List (S37)), false)) = some (r1, r2) := by rw [if_neg (show ¬ (false = true) by decide)] at H; exact H
  clear H
  have H := H1
  clear H1
  simp only [Option.some.injEq, Prod.mk.injEq] at H
  obtain ⟨rfl, rfl⟩ := H
  go_enter Try.func33, Try.ntmps33
  go_wp2_with (first | ((with_reducible refine gate_dst (N := 1) rfl ?_); refine box_event ?hg (N := 1) ?hd (cs := #[.slice A0_0 l0_0.length c0_0]) (t := 30) ?hr ?_; (case hd => rfl); (case hg => rfl); (case hr => first | (go_simp; done) | (go_simp; rfl)); intro gb346 hg w10 hbox hb; have n0_ := Aside0.mk (below_step hb_ hb); have n1_ := Aside0.mk (hbox); have n2_ := Aside0.mk ((by rw [hg]; exact (below_size hb_) : w.heap.size ≤ gb346)); have n3_ := Aside0.mk ((by rw [hg]; exact (below_size hb_) : w.heap.size ≤ gb346)); clear HB; have HB := n0_; have BK346 := n1_; have GW346 := n2_; have GE346 := n3_; clear n0_ n1_ n2_ n3_; clear hb hbox hg; have hcz11_0 : w10.cell? ⟨gb346, 0, none⟩ = some (.slice A0_0 l0_0.length c0_0) := (blk_cell BK346.out 0).trans rfl; have hfz11_0 := blk_frozen BK346.out 0) | ((with_reducible refine gate_callee (f := 46) rfl ?_); refine goesL_ (some 5) rfl rfl Try.func46 (by kernel_rfl) rfl #[.agg #[.slice A0_0 l0_0.length c0_0]] rfl ar_ ?_; (with_reducible refine (impl_IsPuzzle.calls _ _ l0_0 false _ ?side1 ?side2 A2.out).mono ?_); (case side1 => repeat (first | exact (Kd.C_below HR0_0.out HB.out) | (with_reducible refine Kd.C_alloc ?_ _) | (with_reducible refine Kd.C_drewN ?_ _) | (with_reducible refine Kd.C_drew ?_))); (case side2 => exact HC0_0.out); rintro e w12 ⟨rfl, hb⟩; refine ⟨_, rfl, ?_⟩; have n0_ := Aside0.mk (blk_below (g := gb346) (o := .cells #[.slice A0_0 l0_0.length c0_0] 30 (0, 0)) (kx_ BK346.out) hb); have n1_ := Aside0.mk (below_step (hs_ GE346.out) hb); clear BK346; clear HB; have BK346 := n0_; have HB := n1_; clear n0_ n1_; (try clear hb); (try clear hb2); (try clear hk); (try clear hi)))
  go_ret2
  exact ⟨_, by first | rfl | (simp [errW_none, errW_some] <;> rfl) | (simp [*, errW_none, errW_some] <;> rfl), by first | exact Kd.R_nil _ _ _ _ _ | exact Kd.N_nil _ _ _ _ _ | exact Kd.V_nil _ _ _ _ _ | exact Kd.Q_nil _ _ _ _ _ | exact Kd.S_nil _ _ _ _ _, hs_ GE346.out⟩
end Go.Proofs.Ytkgaljocaapobaa.Pr
/- The reference finds the same hidden stars as the program. -/
namespace Go.Proofs.Ytkgaljocaapobaa.M
open Go.RowKit Go.Proofs.YtkgaljocaapobaaW.PrintWords Go.Proofs.Ytkgaljocaapobaa.Pr
abbrev St := S37
theorem pzAll_l2 (l : List Cl) (hl : l.length ≤ 1048576) (n s : Int) (hh : hidB n s = true) (acc : List St) (hacc : (acc.length : Int) ≤ 1000) (r : List St)
    (hr : Ev (fun k => spec_pzAll.l1 k l (if l.any (misF n s) = true then acc else acc ++ [⟨n, s⟩]) n (s + 1)) r) :
    Ev (fun k => spec_pzAll.l2 k l acc n s true l (l.length : Int) 0 n s) r := by
  have hh2 := hid_in hh
  have e := Ev.cps (fun k i (fl : Bool) => spec_pzAll.l2 k l acc n s fl l (l.length : Int) i n s)
    (fun k fl => spec_pzAll.l1 k l (if fl = true then acc ++ [⟨n, s⟩] else acc) n (s + 1)) l
    (fun rest fl => fl && !(rest.any (misF n s))) (fun _ _ => True)
    (fun fl r _ hr => by
      refine Ev.step (fun k => by rw [spec_pzAll.l2]) ?_
      refine Ev.neg (by omega) ?_
      rw [w64 (x := s + 1) (by omega) (by omega)]
      cases fl with
      | true => exact Ev.pos rfl (Ev.pos (by omega) (by simpa using hr))
      | false => exact Ev.neg (by simp) (by simpa using hr))
    (fun i hi fl _ => by
      have hrd := rd_cl l i hi
      cases fl with
      | true =>
        refine ⟨fitB l[i].f0 l[i].f1 l[i].f2 n s, trivial, ?_, fun r hr2 => ?_⟩
        · rw [List.any_cons]
          unfold misF
          cases fitB l[i].f0 l[i].f1 l[i].f2 n s <;> simp
        · refine Ev.step (fun k => by rw [spec_pzAll.l2]) ?_
          refine Ev.pos (by omega) (Ev.pos (by omega) (Ev.pos (by omega) (Ev.pos rfl ?_)))
          rw [hrd, w64 (x := (i : Int) + 1) (by omega) (by omega)]
          exact Ev.bindk (pzFits_ev _ _ _ n s hh) hr2
      | false =>
        refine ⟨false, trivial, by simp, fun r hr2 => ?_⟩
        refine Ev.step (fun k => by rw [spec_pzAll.l2]) ?_
        refine Ev.pos (by omega) (Ev.pos (by omega) (Ev.pos (by omega) (Ev.neg (by simp) ?_)))
        rw [w64 (x := (i : Int) + 1) (by omega) (by omega)]
        exact hr2)
    l.length 0 true r (by omega) trivial (by
      rw [List.drop_zero]
      cases h : l.any (misF n s) with
      | true => rw [h] at hr; simpa using hr
      | false => rw [h] at hr; simpa using hr)
  simpa using e
theorem pzAll_l1 (l : List Cl) (hl : l.length ≤ 1048576) (n : Int) (hn : 3 ≤ n ∧ n ≤ 14) (d : Nat)
    (ih : ∀ acc : List St, (acc.length : Int) ≤ 14 * (n + 1) → Ev (fun k => spec_pzAll.l0 k l acc (n + 1)) (acc ++ solsFrom l d (n + 1))) :
    ∀ (e : Nat) (s : Int) (acc : List St), s + e = n → 1 ≤ s → (acc.length : Int) ≤ 14 * n + s → Ev (fun k => spec_pzAll.l1 k l acc n s) (acc ++ (solsStep l n e s ++ solsFrom l d (n + 1)))
  | 0, s, acc, h1, h2, h3 => by
    refine Ev.step (fun k => by rw [spec_pzAll.l1]) ?_
    refine Ev.neg (by omega) ?_
    rw [w64 (x := n + 1) (by omega) (by omega)]
    have := ih acc (by omega)
    simpa [solsStep] using this
  | e + 1, s, acc, h1, h2, h3 => by
    refine Ev.step (fun k => by rw [spec_pzAll.l1]) ?_
    refine Ev.pos (by omega) ?_
    refine pzAll_l2 l hl n s (hid_of hn.1 hn.2 h2 (by omega)) acc (by omega) _ ?_
    rw [solsStep]
    by_cases h : l.any (misF n s) = true
    · rw [if_pos h, if_pos h]
      exact pzAll_l1 l hl n hn d ih e (s + 1) acc (by omega) (by omega) (by omega)
    · rw [if_neg h, if_neg h]
      have := pzAll_l1 l hl n hn d ih e (s + 1) (acc ++ [⟨n, s⟩]) (by omega) (by omega) (by simp; omega)
      simpa [List.append_assoc] using this
theorem pzAll_l0 (l : List Cl) (hl : l.length ≤ 1048576) : ∀ (d : Nat) (n : Int) (acc : List St), n + d = 15 → 3 ≤ n → (acc.length : Int) ≤ 14 * n → Ev (fun k => spec_pzAll.l0 k l acc n) (acc ++ solsFrom l d n)
  | 0, n, acc, h1, h2, h3 => by
    refine Ev.step (fun k => by rw [spec_pzAll.l0]) ?_
    refine Ev.neg (by omega) (Ev.val ?_)
    simp [solsFrom]
  | d + 1, n, acc, h1, h2, h3 => by
    refine Ev.step (fun k => by rw [spec_pzAll.l0]) ?_
    refine Ev.pos (by omega) ?_
    rw [solsFrom]
    exact pzAll_l1 l hl n ⟨h2, by omega⟩ d (fun acc' ha => pzAll_l0 l hl d (n + 1) acc' (by omega) (by omega) ha) (n - 1).toNat 1 acc (by omega) (by omega) (by omega)
theorem pzAll_ev (l : List Cl) (hl : l.length ≤ 1048576) : Ev (fun k => spec_pzAll.f k l) (sols l) := by
  unfold spec_pzAll.f sols
  have := pzAll_l0 l hl 12 3 [] (by omega) (by omega) (by simp)
  simpa using this
theorem solsStep_len (l : List Cl) (n : Int) : ∀ (e : Nat) (s : Int), (solsStep l n e s).length ≤ e
  | 0, _ => by simp [solsStep]
  | e + 1, s => by
    have := solsStep_len l n e (s + 1)
    unfold solsStep
    split
    · omega
    · simp; omega
theorem solsFrom_len (l : List Cl) : ∀ (d : Nat) (n : Int), n + d = 15 → 3 ≤ n → (solsFrom l d n).length ≤ d * 14
  | 0, _, _, _ => by simp [solsFrom]
  | d + 1, n, h1, h2 => by
    have i1 := solsFrom_len l d (n + 1) (by omega) (by omega)
    have i2 := solsStep_len l n (n - 1).toNat 1
    rw [solsFrom, List.length_append]
    omega
theorem sols_len (l : List Cl) : (sols l).length ≤ 168 := solsFrom_len l 12 3 (by omega) (by omega)
/-- What Solutions tells. -/
def solR (l : List Cl) : List St × Bool := if puzB l = true then (sols l, true) else ([], false)
theorem solutions_eq (l : List Cl) : impl_Solutions.f l = some (solR l) := by
  unfold impl_Solutions.f impl_solutions.f solR
  rw [isPuzzle_eq, Option.bind_some]
  by_cases h : puzB l = true
  · rw [if_pos h, if_pos h]; rfl
  · rw [if_neg h, if_neg h]
theorem solR_len (l : List Cl) : (solR l).1.length ≤ 168 := by
  unfold solR
  split
  · exact sols_len l
  · simp
end Go.Proofs.Ytkgaljocaapobaa.M
/- The statements' own helpers on lists of clues: marked and held. -/
namespace Go.Proofs.Ytkgaljocaapobaa.M
open Go.RowKit Go.Proofs.YtkgaljocaapobaaW.PrintWords Go.Proofs.Ytkgaljocaapobaa.Pr
def upT (m : Int) (n : Nat) : List Cl := (List.range n).map fun (i : Nat) => ⟨m + 3 * (i : Int), m + 3 * (i : Int) + 1, m + 3 * (i : Int) + 2⟩
theorem upT_length (m : Int) (n : Nat) : (upT m n).length = n := by simp [upT]
theorem upT_succ (m : Int) (n : Nat) : upT m (n + 1) = upT m n ++ [⟨m + 3 * (n : Int), m + 3 * (n : Int) + 1, m + 3 * (n : Int) + 2⟩] := by
  unfold upT
  rw [List.range_succ, List.map_append]
  rfl
theorem upT_get (m : Int) (n i : Nat) (h : i < (upT m n).length) : (upT m n)[i] = ⟨m + 3 * (i : Int), m + 3 * (i : Int) + 1, m + 3 * (i : Int) + 2⟩ := by
  simp [upT]
theorem setT_mid (A : List Cl) (x v : Cl) (r : List Cl) : (A ++ x :: r).set A.length v = A ++ v :: r := by
  rw [List.set_append_right _ _ (Nat.le_refl _), Nat.sub_self, List.set_cons_zero]
theorem markClS_ev (l : List Cl) (m : Int) (hm : 0 ≤ m) (hb : m + 3 * l.length ≤ 9223372036854775806) : Ev (fun k => laws_markClueS.f k l m) (m + 3 * (l.length : Int), upT m l.length) := by
  unfold laws_markClueS.f
  exact Ev.scan0 (fun k i (acc : List Cl × Int) => laws_markClueS.l0 k acc.1 acc.2 i) l (fun _ _ => (m + 3 * (l.length : Int), upT m l.length)) (fun i acc => acc = (upT m i ++ l.drop i, m + 3 * (i : Int)))
    (fun acc hp => by
      refine Ev.step (fun k => by rw [laws_markClueS.l0]) ?_
      rw [hp]
      refine Ev.neg (by simp [upT_length]) (Ev.val ?_)
      simp)
    (fun i h acc hp => by
      refine .inl ⟨(upT m (i + 1) ++ l.drop (i + 1), m + 3 * ((i + 1 : Nat) : Int)), rfl, rfl, fun r hr2 => ?_⟩
      refine Ev.step (fun k => by rw [laws_markClueS.l0]) ?_
      rw [hp]
      have hll : (upT m i ++ l.drop i).length = l.length := by simp [upT_length]; omega
      refine Ev.pos (by rw [hll]; omega) (Ev.pos (by omega) ?_)
      simp only [Option.bind_some]
      have h2 : ∀ u v : Cl, (upT m i ++ u :: l.drop (i + 1)).set i v = upT m i ++ v :: l.drop (i + 1) := by
        intro u v
        have := setT_mid (upT m i) u v (l.drop (i + 1))
        rwa [upT_length] at this
      have hg : ∀ u : Cl, rd_T67 (upT m i ++ u :: l.drop (i + 1)) (i : Int) = u := by
        intro u
        have hlt : i < (upT m i ++ u :: l.drop (i + 1)).length := by simp [upT_length]
        rw [rd_cl _ i hlt, List.getElem_append_right (by rw [upT_length]; exact Nat.le_refl _)]
        simp [upT_length]
      rw [Int.toNat_natCast, List.drop_eq_getElem_cons h]
      simp only [h2, hg]
      rw [w64 (x := (i : Int) + 1) (by omega) (by omega), w64 (x := m + 3 * (i : Int) + 1) (by omega) (by omega), w64 (x := m + 3 * (i : Int) + 1 + 1) (by omega) (by omega), w64 (x := m + 3 * (i : Int) + 1 + 1 + 1) (by omega) (by omega)]
      rw [upT_succ, List.append_assoc] at hr2
      have e2 : m + 3 * ((i + 1 : Nat) : Int) = m + 3 * (i : Int) + 1 + 1 + 1 := by omega
      have e3 : m + 3 * (i : Int) + 2 = m + 3 * (i : Int) + 1 + 1 := by omega
      rw [e2, e3] at hr2
      exact hr2)
    (l, m) (by simp [upT])
theorem heldClS_ev (n : Nat) (m : Int) (hm : 0 ≤ m) (hb : m + 3 * n ≤ 9223372036854775806) : Ev (fun k => laws_heldClueS.f k (upT m n) m) (m + 3 * (n : Int)) := by
  unfold laws_heldClueS.f
  have e := Ev.scan0 (fun k i (acc : Int) => laws_heldClueS.l0 k (upT m n) acc i) (upT m n) (fun _ _ => m + 3 * (n : Int)) (fun i acc => acc = m + 3 * (i : Int))
    (fun acc hp => by
      refine Ev.step (fun k => by rw [laws_heldClueS.l0]) ?_
      refine Ev.neg (by omega) (Ev.val ?_)
      rw [hp, upT_length])
    (fun i h acc hp => by
      refine .inl ⟨m + 3 * ((i + 1 : Nat) : Int), rfl, rfl, fun r hr2 => ?_⟩
      have hn : i < n := by rw [upT_length] at h; exact h
      refine Ev.step (fun k => by rw [laws_heldClueS.l0]) ?_
      refine Ev.pos (by omega) (Ev.pos (by omega) ?_)
      rw [rd_cl _ i h, upT_get, hp]
      rw [w64 (x := (i : Int) + 1) (by omega) (by omega), w64 (x := m + 3 * (i : Int) + 1) (by omega) (by omega), w64 (x := m + 3 * (i : Int) + 1 + 1) (by omega) (by omega), w64 (x := m + 3 * (i : Int) + 1 + 1 + 1) (by omega) (by omega)]
      refine Ev.pos rfl (Ev.pos rfl (Ev.pos (by show m + 3 * (i : Int) + 2 = _; omega) ?_))
      have e2 : m + 3 * ((i + 1 : Nat) : Int) = m + 3 * (i : Int) + 1 + 1 + 1 := by omega
      rw [e2] at hr2
      exact hr2)
    m (by simp)
  exact e
theorem markP_ev (l : List Cl) (hb : l.length ≤ 1048576) : Ev (fun k => laws_markPuzzle.f k l 1) (1 + 3 * (l.length : Int), upT 1 l.length) := by
  unfold laws_markPuzzle.f
  exact Ev.bindk (markClS_ev l 1 (by omega) (by omega)) (Ev.val rfl)
theorem heldP_ev (n : Nat) (hb : n ≤ 1048576) : Ev (fun k => laws_heldPuzzle.f k (upT 1 n) 1) (1 + 3 * (n : Int)) := by
  unfold laws_heldPuzzle.f
  exact Ev.bindk (heldClS_ev n 1 (by omega) (by omega)) (Ev.neg (by omega) (Ev.val rfl))
end Go.Proofs.Ytkgaljocaapobaa.M
/- HarderPuzzle: the plain law. -/
namespace Go.Proofs.Ytkgaljocaapobaa.Pure
open Go.RowKit Go.Proofs.Ytkgaljocaapobaa.Pr Go.Proofs.YtkgaljocaapobaaW.PrintWords Go.Proofs.YtkgaljocaapobaaW.PrintLast Go.Proofs.Ytkgaljocaapobaa.M
/-- Clues without one. -/
def lessL (l : List Cl) (k : Nat) : List Cl := l.take k ++ l.drop (k + 1)
def solvedB (l : List Cl) : Bool := (((sols l).length : Int) == 1)
/-- Clues are left out, one after the other. -/
def harder : Nat → List Cl → Nat → List Cl
  | 0, l, _ => l
  | d + 1, l, k => if solvedB (lessL l k) = true then harder d (lessL l k) k else harder d l (k + 1)
theorem less_len (l : List Cl) (k : Nat) (h : k < l.length) : (lessL l k).length + 1 = l.length := by
  unfold lessL
  simp
  omega
theorem harder_len : ∀ (d : Nat) (l : List Cl) (k : Nat), k + d = l.length → (harder d l k).length ≤ l.length
  | 0, l, k, _ => Nat.le_refl _
  | d + 1, l, k, h => by
    have hl := less_len l k (by omega)
    unfold harder
    split
    · have := harder_len d (lessL l k) k (by omega)
      omega
    · exact harder_len d l (k + 1) (by omega)
theorem harder_puz {l : List Cl} (h : puzB l = true) : l.length ≤ 6 := by
  unfold puzB at h
  simp only [Bool.and_eq_true, decide_eq_true_eq] at h
  exact h.1
def hardR (l : List Cl) : List Cl × Bool := if puzB l = true ∧ solvedB l = true then (harder l.length l 0, true) else ([], false)
theorem hard_small (l : List Cl) : (hardR l).1.length ≤ 1048576 := by
  unfold hardR
  split
  · rename_i h
    have := harder_puz h.1
    have := harder_len l.length l 0 (by omega)
    dsimp only
    omega
  · simp
theorem lessOne_eq (l : List Cl) (k : Nat) (hk : k < l.length) (hl : l.length ≤ 6) : impl_lessOne.f l (k : Int) = some (lessL l k) := by
  unfold impl_lessOne.f impl_Clue_55.f impl_Clue_69.f
  rw [if_pos (by omega), w64 (x := (k : Int) + 1) (by omega) (by omega)]
  simp only [Option.bind_some]
  rw [if_pos (by omega)]
  simp only [Option.bind_some]
  unfold lessL
  rw [Int.toNat_natCast, show ((k : Int) + 1).toNat = k + 1 by omega]
theorem without_eq (l : List Cl) (k : Nat) (hk : k < l.length) (hl : l.length ≤ 6) : spec_pzWithout.f l (k : Int) = some (lessL l k) := by
  unfold spec_pzWithout.f
  rw [w64 (x := (k : Int) + 1) (by omega) (by omega), Option.bind_some, if_pos (by omega), if_pos (by omega), Option.bind_some, if_pos (by simp; omega), Option.bind_some, if_pos (by omega), if_pos (by omega), Option.bind_some, if_pos (by simp; omega)]
  unfold lessL
  rw [Int.toNat_natCast, show ((k : Int) + 1).toNat = k + 1 by omega]
  simp
theorem isSolved_eq (l : List Cl) : impl_isSolved.f l = some (solvedB l) := rfl
theorem pzSolved_ev (l : List Cl) (hl : l.length ≤ 1048576) : Ev (fun k => spec_pzSolved.f k l) (solvedB l) := by
  unfold spec_pzSolved.f solvedB
  exact Ev.bindk (pzAll_ev l hl) (Ev.val rfl)
theorem harder_l0i : ∀ (d k : Nat) (l : List Cl), k + d = l.length → l.length ≤ 6 → Ev (fun q => impl_HarderPuzzle.l0 q l (k : Int)) (harder d l k, true)
  | 0, k, l, h, hl => by
    refine Ev.step (fun q => by rw [impl_HarderPuzzle.l0]) ?_
    exact Ev.neg (by omega) (Ev.val rfl)
  | d + 1, k, l, h, hl => by
    have hn := less_len l k (by omega)
    refine Ev.step (fun q => by rw [impl_HarderPuzzle.l0]) ?_
    refine Ev.pos (by omega) (Ev.bindc (lessOne_eq l k (by omega) hl) (Ev.bindc (isSolved_eq _) ?_))
    rw [harder, w64 (x := (k : Int) + 1) (by omega) (by omega)]
    by_cases hs : solvedB (lessL l k) = true
    · refine Ev.pos hs ?_
      rw [if_pos hs]
      exact harder_l0i d k _ (by omega) (by omega)
    · refine Ev.neg hs ?_
      rw [if_neg hs]
      exact harder_l0i d (k + 1) l (by omega) hl
theorem harder_l0s : ∀ (d k : Nat) (l : List Cl), k + d = l.length → l.length ≤ 6 → Ev (fun q => spec_HarderPuzzle.l0 q l (k : Int)) (harder d l k, true)
  | 0, k, l, h, hl => by
    refine Ev.step (fun q => by rw [spec_HarderPuzzle.l0]) ?_
    exact Ev.neg (by omega) (Ev.val rfl)
  | d + 1, k, l, h, hl => by
    have hn := less_len l k (by omega)
    refine Ev.step (fun q => by rw [spec_HarderPuzzle.l0]) ?_
    refine Ev.pos (by omega) (Ev.bindc (without_eq l k (by omega) hl) (Ev.bindk (pzSolved_ev _ (by omega)) ?_))
    rw [harder, w64 (x := (k : Int) + 1) (by omega) (by omega)]
    by_cases hs : solvedB (lessL l k) = true
    · refine Ev.pos hs ?_
      rw [if_pos hs]
      exact harder_l0s d k _ (by omega) (by omega)
    · refine Ev.neg hs ?_
      rw [if_neg hs]
      exact harder_l0s d (k + 1) l (by omega) hl
theorem hard_impl (l : List Cl) : Ev (fun k => impl_HarderPuzzle.f k l) (hardR l) := by
  unfold impl_HarderPuzzle.f
  refine Ev.bindc (isPuzzle_eq l) ?_
  by_cases h : puzB l = true
  · refine Ev.pos h (Ev.bindc (isSolved_eq l) (Ev.step (fun k => by rw [impl_HarderPuzzle.j0]) ?_))
    by_cases hs : solvedB l = true
    · rw [hardR, if_pos ⟨h, hs⟩]
      refine Ev.neg (by rw [hs]; simp) (Ev.bindc (a := l) ?_ ?_)
      · unfold impl_Clue_55.f
        have := harder_puz h
        rw [if_pos (by omega)]
      · exact harder_l0i l.length 0 l (by omega) (harder_puz h)
    · rw [hardR, if_neg (fun e => hs e.2)]
      refine Ev.pos ?_ (Ev.val rfl)
      cases h2 : solvedB l with
      | true => exact absurd h2 hs
      | false => rfl
  · refine Ev.neg h (Ev.step (fun k => by rw [impl_HarderPuzzle.j0]) ?_)
    rw [hardR, if_neg (fun e => h e.1)]
    exact Ev.pos rfl (Ev.val rfl)
theorem hard_spec (l : List Cl) (hl : l.length ≤ 1048576) : Ev (fun k => spec_HarderPuzzle.f k l) (hardR l) := by
  unfold spec_HarderPuzzle.f
  refine Ev.bindk (pzGood_ev l) ?_
  by_cases h : puzB l = true
  · refine Ev.pos h (Ev.bindk (pzSolved_ev l hl) (Ev.step (fun k => by rw [spec_HarderPuzzle.j0]) ?_))
    by_cases hs : solvedB l = true
    · rw [hardR, if_pos ⟨h, hs⟩]
      refine Ev.neg (by rw [hs]; simp) (Ev.bindc (a := []) rfl (Ev.pos (by have := harder_puz h; simp; omega) ?_))
      exact harder_l0s l.length 0 l (by omega) (harder_puz h)
    · rw [hardR, if_neg (fun e => hs e.2)]
      refine Ev.pos ?_ (Ev.val rfl)
      cases h2 : solvedB l with
      | true => exact absurd h2 hs
      | false => rfl
  · refine Ev.neg h (Ev.step (fun k => by rw [spec_HarderPuzzle.j0]) ?_)
    rw [hardR, if_neg (fun e => h e.1)]
    exact Ev.pos rfl (Ev.val rfl)
theorem FnExactHarderPuzzle : ∀ (l0_0 : List S72), l0_0.length ≤ maxLen → (∀ x ∈ l0_0, (Lit.int .i64 x.f0).wf = true ∧ (Lit.int .i64 x.f1).wf = true ∧ (Lit.int .i64 x.f2).wf = true) → ∃ k, laws_FnExactHarderPuzzle.f k l0_0 = some true := by
  intro l hm _
  refine Ev.rounds ?_
  unfold laws_FnExactHarderPuzzle.f
  by_cases hb : l.length ≤ 1048576
  · have hml : (l.map toCl).length ≤ 1048576 := by simpa using hb
    have hs := hard_small (l.map toCl)
    have hi := hard_impl (l.map toCl)
    refine Ev.bindc (szP_small l hb) (Ev.neg (by omega) (Ev.bindk (toP_ev l hb) (Ev.bindk (hard_spec _ hml) (Ev.bindk (toP_ev l hb) (Ev.bindk hi ?_)))))
    generalize hardR (l.map toCl) = y at hs hi
    refine Ev.bindk (eqP_ev y.1 (by omega)) (Ev.pos rfl (Ev.step (fun k => by rw [laws_FnExactHarderPuzzle.j0]) ?_))
    refine Ev.neg (by simp) (Ev.bindk (toP_ev l hb) (Ev.bindk (eqP_ev _ (by omega)) (Ev.pos rfl ?_)))
    refine Ev.bindk (markP_ev _ hml) (Ev.neg (by omega) (Ev.bindk (eqP_ev y.1 (by omega)) (Ev.pos rfl (Ev.step (fun k => by rw [laws_FnExactHarderPuzzle.j1]) ?_))))
    refine Ev.neg (by simp) (Ev.bindk (markP_ev y.1 hs) (Ev.bindk (heldP_ev _ hs) (Ev.neg (by omega) (Ev.pos rfl ?_))))
    refine Ev.bindk (toP_ev l hb) (Ev.bindk hi (Ev.bindk (eqP_ev y.1 (by omega)) (Ev.pos rfl (Ev.step (fun k => by rw [laws_FnExactHarderPuzzle.j2]) ?_))))
    exact Ev.neg (by simp) (Ev.bindk (heldP_ev _ hs) (Ev.neg (by omega) (Ev.pos rfl (Ev.val rfl))))
  · exact Ev.bindc (szP_big l (by omega) hm) (Ev.pos (by omega) (Ev.val rfl))
end Go.Proofs.Ytkgaljocaapobaa.Pure
/- Shared steps of the rows: an argument that is a slice of structs of whole numbers, read as a list of lists of numbers. -/
namespace Go.Proofs.Ytkgaljocaapobaa.RowA
open Go.ChangeShapes Go.WideShapes Go.Deep Go.RowKit Go.Proofs.YtkgaljocaapobaaW.PrintWords
section
variable {H : Type} {enc : TypeId × Value → H} {P : Program} {w : World} {base : Nat} {spare : Nat → Bool} {held : Bool}
/-- A slice of structs whose fields are one cell each: nil, or an address with, for each element and each field, the cell and the field's own reading. -/
theorem open_cells {t e : TypeId} {fs : Array Field} {fuel : Nat} {cs : List Value} {x : DataW H × List MemPlace} (ht : P.underlying t = some (.slice e)) (he : P.underlying e = some (.struct fs))
    (hone : oneCellFields P fs = true) (hC : P.cellsOf e = fs.size) (h : DataW.trod enc P w base spare held fuel t cs = some x) :
    cs = [.slice none 0 0] ∨
    ∃ (a : Addr) (len cap : Nat), cs = [.slice (some a) len cap] ∧ len ≤ cap ∧ cap ≤ maxLen ∧
      ∀ i, i < len → ∃ n, ∀ (j : Nat) (f : Field), fs[j]? = some f → ∃ (v : Value) (y : DataW H × List MemPlace), w.cell? (a.add (i * fs.size + j)) = some v ∧ DataW.trod enc P w base spare held n f.type [v] = some y := by
  rcases open_slice ht h with h0 | ⟨a, len, cap, m, n, D, Pl, hcs, hb, hl, hm, hmm, hx, hi⟩
  · exact .inl h0.1
  · refine .inr ⟨a, len, cap, hcs, hl, hm, fun i hil => ?_⟩
    have him : i < m := by
      rw [hmm]
      split
      · omega
      · exact hil
    obtain ⟨cs', hc, ht'⟩ := hi i him
    rw [hC] at hc
    obtain ⟨ys, n', hn', hy, hlen, hyl, hf⟩ := DataW.trod_struct he ht'
    obtain ⟨_, hcl, hat⟩ := World.cells?_some hc
    refine ⟨n', fun j f hj => ?_⟩
    obtain ⟨ho, hk⟩ := hone_of hone j f hj
    have hjl : j < fs.size := (Array.getElem?_eq_some_iff.1 hj).1
    have hcell := hat j hjl
    have hv : cs'[j]? = some (cs'[j]'(by omega)) := List.getElem?_eq_getElem (by omega)
    have h1 := hf j f hj
    rw [ho, hk] at h1
    have hone' : (cs'.drop j).take 1 = [cs'[j]'(by omega)] := by
      rw [List.drop_eq_getElem_cons (by omega)]
      rfl
    rw [hone'] at h1
    have hys : ys[j]? = some (ys[j]'(by omega)) := List.getElem?_eq_getElem (by omega)
    refine ⟨_, _, ?_, h1.trans hys⟩
    rw [← Go.Deep.add_add, hcell, hv]
/-- One whole number's reading. -/
theorem read_i64 {t : TypeId} {n : Nat} {v : Value} {y : DataW H × List MemPlace} (hu : P.underlying t = some (.int .i64)) (h : DataW.trod enc P w base spare held n t [v] = some y) :
    ∃ z : Int, v = .int .i64 z ∧ (Lit.int .i64 z).wf = true := by
  obtain ⟨z, hz, _, hw⟩ := DataW.trod_int hu h
  simp at hz
  exact ⟨z, hz, hw⟩
/-- A slice of structs of m whole numbers, as it is handed over: the numbers by element and field. -/
theorem open_nums {t e : TypeId} {fs : Array Field} {a : Option Addr} {len cap : Nat} {d : DataW H} {ps : List MemPlace} (ht : P.underlying t = some (.slice e)) (he : P.underlying e = some (.struct fs))
    (hone : oneCellFields P fs = true) (hC : P.cellsOf e = fs.size) (hi : ∀ (j : Nat) (f : Field), fs[j]? = some f → P.underlying f.type = some (.int .i64))
    (h : DataW.Trod enc P w base spare held t (.slice a len cap) d ps) :
    len ≤ cap ∧ len ≤ maxLen ∧ ∃ z : Nat → Nat → Int, (∀ i j, i < len → j < fs.size → (Lit.int .i64 (z i j)).wf = true) ∧
      (0 < len → ∃ ad, a = some ad ∧ ∀ i j, i < len → j < fs.size → w.cell? (ad.add (i * fs.size + j)) = some (.int .i64 (z i j))) := by
  obtain ⟨fuel, hf⟩ := h
  rcases open_cells ht he hone hC hf with hcs | ⟨x, l, c, hcs, hl, hm, hcell⟩
  · simp [Value.cells] at hcs
    obtain ⟨rfl, rfl, rfl⟩ := hcs
    exact ⟨Nat.le_refl _, Nat.zero_le _, fun _ _ => 0, fun i j h => absurd h (Nat.not_lt_zero _), fun h => absurd h (Nat.not_lt_zero _)⟩
  · simp [Value.cells] at hcs
    obtain ⟨rfl, rfl, rfl⟩ := hcs
    refine ⟨hl, Nat.le_trans hl hm, ?_⟩
    have hz : ∀ i j, ∃ z : Int, i < len → j < fs.size → w.cell? (x.add (i * fs.size + j)) = some (.int .i64 z) ∧ (Lit.int .i64 z).wf = true := by
      intro i j
      by_cases h1 : i < len
      · by_cases h2 : j < fs.size
        · obtain ⟨n, hn⟩ := hcell i h1
          obtain ⟨v, y, hv, hy⟩ := hn j fs[j] (Array.getElem?_eq_getElem h2)
          obtain ⟨z, rfl, hw⟩ := read_i64 (hi j fs[j] (Array.getElem?_eq_getElem h2)) hy
          exact ⟨z, fun _ _ => ⟨hv, hw⟩⟩
        · exact ⟨0, fun _ h => absurd h h2⟩
      · exact ⟨0, fun h _ => absurd h h1⟩
    exact ⟨fun i j => (hz i j).choose, fun i j h1 h2 => ((hz i j).choose_spec h1 h2).2, fun _ => ⟨x, rfl, fun i j h1 h2 => ((hz i j).choose_spec h1 h2).1⟩⟩
/-- The same, of one reading. -/
theorem open_nums_at {t e : TypeId} {fs : Array Field} {a : Option Addr} {len cap fuel : Nat} {x : DataW H × List MemPlace} (ht : P.underlying t = some (.slice e)) (he : P.underlying e = some (.struct fs))
    (hone : oneCellFields P fs = true) (hC : P.cellsOf e = fs.size) (hi : ∀ (j : Nat) (f : Field), fs[j]? = some f → P.underlying f.type = some (.int .i64))
    (hf : DataW.trod enc P w base spare held fuel t [.slice a len cap] = some x) :
    len ≤ cap ∧ len ≤ maxLen ∧ ∃ z : Nat → Nat → Int, (∀ i j, i < len → j < fs.size → (Lit.int .i64 (z i j)).wf = true) ∧
      (0 < len → ∃ ad, a = some ad ∧ ∀ i j, i < len → j < fs.size → w.cell? (ad.add (i * fs.size + j)) = some (.int .i64 (z i j))) :=
  open_nums (d := x.1) (ps := x.2) ht he hone hC hi ⟨fuel, by simpa [Value.cells] using hf⟩
/-- A struct of one slice. -/
theorem open_one {r : Reach} {b0 : Nat} {t e : TypeId} {f0 : Field} {v : Value} {d : DataW H} {p : List MemPlace} (hs : P.underlying t = some (.struct #[f0])) (hf0 : P.underlying f0.type = some (.slice e)) (hone : oneCellFields P #[f0] = true) (hC : P.cellsOf t = 1)
    (hv : Value.okWide P w r b0 t v) (h : DataW.Trod enc P w base spare held t v d p) :
    ∃ (a : Option Addr) (len cap : Nat) (y : DataW H × List MemPlace) (n : Nat), v = .agg #[.slice a len cap] ∧ DataW.trod enc P w base spare held n f0.type [.slice a len cap] = some y := by
  obtain ⟨cs, rfl, hsz⟩ := okWide_struct hs hv
  rw [hC] at hsz
  obtain ⟨c0, rfl⟩ : ∃ c, cs = #[c] := Array.size_eq_one_iff.mp hsz
  obtain ⟨fuel, hf⟩ := h
  obtain ⟨ys, n', hn', hy, hlen, hyl, hg⟩ := DataW.trod_struct hs hf
  obtain ⟨o0, k0⟩ := hone_of hone 0 f0 rfl
  have h1 := hg 0 f0 rfl
  rw [o0, k0] at h1
  have hv1 : (List.drop 0 (Value.agg #[c0]).cells.toList).take 1 = [c0] := rfl
  have h2 : DataW.trod enc P w base spare held n' f0.type [c0] = ys[0]? := h1
  have hys : ys[0]? = some (ys[0]'(by rw [hyl]; exact Nat.zero_lt_one)) := List.getElem?_eq_getElem _
  rw [hys] at h2
  rcases open_slice hf0 h2 with h0 | ⟨a, len, cap, m, n, D, Pl, hcs, _⟩
  · have := h0.1
    simp at this
    subst this
    exact ⟨none, 0, 0, _, n', rfl, h2⟩
  · simp at hcs
    subst hcs
    exact ⟨some a, len, cap, _, n', rfl, h2⟩
end
end Go.Proofs.Ytkgaljocaapobaa.RowA
/- The row of the law FnExactHarderPuzzle: The program's HarderPuzzle returns what the reference's returns, for all arguments. -/
namespace Go.Proofs.Ytkgaljocaapobaa.fnExactHarderPuzzle
open Go.ChangeShapes Go.WideShapes Go.ChangeAt Go.RowKit Go.Proofs.Ytkgaljocaapobaa.Pr Go.Proofs.YtkgaljocaapobaaW.PrintWords
open Go.ChangeMaps (open_string shut_string)
theorem own : ownKnob Try.prog.godebug = none := by kernel_rfl
theorem laidOut : laidOutB Try.prog = true := by kernel_rfl
theorem rows72 {W : World} {a : Option Addr} {len cap : Nat} {z : Nat → Nat → Int} (hm : len ≤ maxLen) (hz : 0 < len → ∃ ad, a = some ad ∧ ∀ i j, i < len → j < 3 → W.cell? (ad.add (i * 3 + j)) = some (.int .i64 (z i j)))
    (hw : ∀ i j, i < len → j < 3 → (Lit.int .i64 (z i j)).wf = true) : ∃ l : List S72, l.length = len ∧ Kd.C k72 W a l.length l ∧ ∀ x ∈ l, (Lit.int .i64 x.f0).wf = true ∧ (Lit.int .i64 x.f1).wf = true ∧ (Lit.int .i64 x.f2).wf = true := by
  have hl : ((List.range len).map fun i => (⟨z i 0, z i 1, z i 2⟩ : S72)).length = len := by simp
  refine ⟨(List.range len).map fun i => (⟨z i 0, z i 1, z i 2⟩ : S72), hl, ⟨rfl, by rw [hl]; unfold maxLen at hm; omega, fun hn => ?_⟩, fun x hx => ?_⟩
  · obtain ⟨ad, e, hc⟩ := hz (by rw [hl] at hn; exact hn)
    refine ⟨ad, e, fun j p hj => ?_⟩
    have hjl : j < len := by have := (List.getElem?_eq_some_iff.1 hj).1; rw [hl] at this; exact this
    have hp : p = (⟨z j 0, z j 1, z j 2⟩ : S72) := by
      rw [List.getElem?_map, List.getElem?_range hjl] at hj
      exact (Option.some.inj hj).symm
    subst hp
    refine ⟨[.int .i64 (z j 0), .int .i64 (z j 1), .int .i64 (z j 2)], rfl, k72_mk W (⟨z j 0, z j 1, z j 2⟩ : S72), fun i u hi => ?_⟩
    have hi2 : i < 3 := by have := (List.getElem?_eq_some_iff.1 hi).1; exact this
    have hcell := hc j i hjl hi2
    match i, hi2, hi with
    | 0, _, hi => (obtain rfl := Option.some.inj hi; exact hcell)
    | 1, _, hi => (obtain rfl := Option.some.inj hi; exact hcell)
    | 2, _, hi => (obtain rfl := Option.some.inj hi; exact hcell)
  · obtain ⟨i, hi, rfl⟩ := List.mem_map.1 hx
    have hil := List.mem_range.1 hi
    exact ⟨hw i 0 hil (by decide), hw i 1 hil (by decide), hw i 2 hil (by decide)⟩
set_option maxRecDepth 100000 in
theorem lifted (os : Os) (started : os.Started) (H : Type) (enc : TypeId × Value → H) :
    ReturnsInHanded {} Try.checked os 10 .any (Rows.fnExactHarderPuzzleSpec.pre6 enc Try.prog Try.f10 Rows.fnExactHarderPuzzleRow.domain false) (Rows.fnExactHarderPuzzleSpec.post enc Try.prog Try.f10 false true false false) := by
  refine returnsInHanded_of_change_sized (C := Try.checked) own started (by kernel_rfl) Try.func10
    (ChangeSpec.witness6 (enc := enc) (C := Try.checked) false ⟨#[], #[.agg #[.slice none 0 0]], []⟩ 8 (by kernel_rfl) (by kernel_rfl) (by kernel_rfl) (by kernel_rfl)) ?_
  intro W base args ds gs before hval0 hW hcnd hsz0 _
  have hsz : (DataW.weightsEach Try.prog (Try.f10.params.toList ++ Rows.fnExactHarderPuzzleSpec.plain.varTypes Try.prog) (ds ++ gs)).all (· ≤ reachBytes) = true := hsz0
  have hval : ∀ (j : Nat) t v, Try.f10.params[j]? = some t → args[j]? = some v → Value.okWide Try.prog W .any base t v := hval0
  have hW' := hW
  obtain ⟨p, q, hA0, hV, rfl, hfz, hnd⟩ := hW
  have hA : DataW.TrodAll enc Try.prog W 0 (fun _ => true) true Try.f10.params.toList args.toList ds p := hA0
  rw [Try.params10] at hA hval hsz
  obtain ⟨v0, vs0, d0, ds0, p0, q0, hargs, rfl, rfl, h0, r0⟩ := trodAll_cons hA
  obtain ⟨rfl, rfl, rfl⟩ := trodAll_nil r0
  obtain rfl : args = #[v0] := by cases args; simp_all
  obtain ⟨rfl, rfl⟩ := trodVars_none hV
  have lt0 : ∀ x ∈ p0, x.block < W.heap.size := by obtain ⟨m, hm⟩ := h0; exact DataW.trod_lt m _ _ _ hm
  have hh0 := h0
  obtain ⟨b0, len0, cap0, y0, n0, rfl, g0⟩ := RowA.open_one Try.underlying24 Try.underlying22 (by kernel_rfl) (by kernel_rfl) (hval 0 24 v0 rfl rfl) h0
  obtain ⟨hl0, hm0, z0, hw0, hz0⟩ := RowA.open_nums_at Try.underlying22 Try.underlying72 (by kernel_rfl) (by kernel_rfl) (fun j f hj => by first | (match j, hj with | 0, hj => (cases hj; exact Try.underlying3) | 1, hj => (cases hj; exact Try.underlying3) | 2, hj => (cases hj; exact Try.underlying3) | j + 3, hj => simp at hj) | skip) g0
  obtain ⟨l0, hn0, hr0, hf0⟩ := rows72 (cap := cap0) hm0 hz0 hw0
  subst hn0
  clear hA0 hval0 hsz0 hsz
  obtain ⟨k, hk⟩ := Pure.FnExactHarderPuzzle l0 hm0 hf0
  refine (laws_FnExactHarderPuzzle.calls k _ _ l0 true W hr0 hl0 hk).mono fun e W' he => ?_
  obtain ⟨he, bel0⟩ := he
  have bel : Below W.heap.size W W' := bel0
  subst he
  exact ⟨_, rfl, _, _, _, [], _, [], hW', trodAll_mk1 (shut_bool Try.underlying4 _), (trodAll_cons_mk (Below.trod laidOut (by kernel_rfl) (of_decide_eq_true (by kernel_rfl)) hh0 bel lt0) trodAll_mk0), rfl, bel.frame _, fun h => by cases h⟩
theorem over : Rows.fnExactHarderPuzzleRow.holds Try.pinned (OpenSpec.ofChange Rows.fnExactHarderPuzzleSpec) :=
  OpenClaim.holds_of_wide 10 Try.f10 rfl rfl rfl rfl rfl rfl rfl ⟨rfl, rfl, rfl, rfl, rfl⟩ rfl rfl rfl rfl rfl (by kernel_rfl) Try.func10 (by kernel_rfl)
    (of_decide_eq_true (by kernel_rfl)) (by unfold Func.isWrapper; first | (rw [if_pos (by decide +kernel)]; kernel_rfl) | (rw [if_neg (by decide +kernel)]; exact ⟨rfl, rfl⟩))
    (fun os started H enc _ => lifted os started H enc)
theorem proved : Rows.FnExactHarderPuzzleSaid := over
end Go.Proofs.Ytkgaljocaapobaa.fnExactHarderPuzzle
namespace Go.Proofs.Ytkgaljocaapobaa
/-- The row, under a short name, for the claim. -/
theorem fnExactHarderPuzzle_holds : Rows.FnExactHarderPuzzleSaid := fnExactHarderPuzzle.proved
#print axioms fnExactHarderPuzzle_holds
end Go.Proofs.Ytkgaljocaapobaa
