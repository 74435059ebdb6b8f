/- The program's RegionsOfStar returns what the reference's returns, for all arguments. Condition: none. -/
import Derived.Sort.Grow
import Derived.Shelf.SlSortCmp.InsertionK
import Derived.Shelf.GgSortFunc.RowK
import Derived.Shelf.SlSortFuncK.RowK2
import Derived.RegionTactic
import Derived.Lib.SlicesCompact
import Derived.Lib.SliceRun
import Derived.Sort.WalkB12
import Derived.Shelf.SlGeneric
import Derived.Shelf.SlSortCmp.WholeK
import Derived.Ground.SlsfProg
import Derived.Test.YtijhoifcpijeiaaProg
import Derived.RowKit
import Derived.Test.YtijhoifcpijeiaaWWords
import Derived.Shelf.SlSortCmp.NoneTotal
import Derived.Sort.LotA
import Derived.Deep.Slices
import Derived.Deep.Fields
import Derived.ChangeSame
import Derived.ChangeShapes
import Derived.Below
import Derived.Carry
import Derived.Lib.SmallJoins
import Derived.OpenShut
import Derived.Test.YtijhoifcpijeiaaRows
import Derived.WalkKit
import Derived.ProofKit
import Derived.ShutString
import Derived.ChangeOld
import Derived.SizedLaws
import Derived.ChangeSlices
import Derived.Test.YtijhoifcpijeiaaKFnExactRegionsOfStar0
import Derived.Test.YtijhoifcpijeiaaKFnExactRegionsOfStar1
-- Written by a program for this claim.
namespace Go.Proofs.Ytijhoifcpijeiaa.Pr
open Go.RowKit Go.Proofs.YtijhoifcpijeiaaW.PrintWords Go.Proofs.YtijhoifcpijeiaaW.PrintLast Go.Proofs.YtijhoifcpijeiaaW.PrintMore
attribute [local go_sem] max2_int min2_int max_two min_two max_three min_three max_four min_four   -- for this text's walks alone
set_option linter.unusedVariables false
set_option linter.unusedSimpArgs false

/-! ### impl_IsStar: function 77 -/
def impl_IsStar.f (a0_0 : Int) (a0_1 : Int) : Option (Bool) := (impl_isCircle.f a0_0).bind fun t548 => (if t548 = true then ((impl_within.f a0_1 1 (wrap64 (a0_0 - 1))).bind fun t549 => (some t549)) else (some false))
set_option maxHeartbeats 8000000 in
set_option maxRecDepth 100000 in
theorem impl_IsStar.calls (a0_0 : Int) (a0_1 : Int) (r : Bool) (w : World) (h : impl_IsStar.f a0_0 a0_1 = some r) :
    Calls Try.prog 77 #[.agg #[.int .i64 a0_0, .int .i64 a0_1]] w fun e w' => e = .returned (.bool r) ∧ Below w.heap.size w w' := by
  have hu52 := Try.underlying52
  have HB := Aside0.mk (Below.refl w.heap.size w)
  have H : ((impl_isCircle.f a0_0).bind fun t548 => (if t548 = true then ((impl_within.f a0_1 1 (wrap64 (a0_0 - 1))).bind fun t549 => (some t549)) else (some false))) = some r := h
  clear h
  replace H := Option.bind_eq_some_iff.mp H
  obtain ⟨t548, A20, H⟩ := H
  replace H : (if t548 = true then ((impl_within.f a0_1 1 (wrap64 (a0_0 - 1))).bind fun t549 => (some t549)) else (some false)) = some r := H
  have A2 := Aside0.mk A20
  clear A20
  by_cases c3 : t548 = true
  · subst c3
    have H1 : ((impl_within.f a0_1 1 (wrap64 (a0_0 - 1))).bind fun t549 => (some t549)) = some r := by rw [if_pos rfl] at H; exact H
    clear H
    have H := H1
    clear H1
    replace H := Option.bind_eq_some_iff.mp H
    obtain ⟨t549, A40, H⟩ := H
    replace H : (some t549) = some r := H
    have A4 := Aside0.mk A40
    clear A40
    obtain rfl := Option.some.inj H
    go_enter Try.func77, Try.ntmps77
    go_wp2_with (first | ((with_reducible refine gate_dst (N := 1) rfl ?_); refine box_event ?hg (N := 1) ?hd (cs := #[.int .i64 a0_0, .int .i64 a0_1]) (t := 52) ?hr ?_; (case hd => rfl); (case hg => rfl); (case hr => first | (go_simp; done) | (go_simp; rfl)); intro gb547 hg w5 hbox hb; have n0_ := Aside0.mk (below_step (by repeat (first | (with_reducible first | exact HB.out | apply below_alloc | apply pw_below_drewN | apply below_drew1) | exact HB.out)) hb); have n1_ := Aside0.mk (hbox); have n2_ := Aside0.mk ((by rw [hg]; exact (below_size (by repeat (first | (with_reducible first | exact HB.out | apply below_alloc | apply pw_below_drewN | apply below_drew1) | exact HB.out))) : w.heap.size ≤ gb547)); have n3_ := Aside0.mk ((by rw [hg]; exact (below_size (by repeat (first | (with_reducible first | exact HB.out | apply below_alloc | apply pw_below_drewN | apply below_drew1) | exact HB.out))) : w.heap.size ≤ gb547)); clear HB; have HB := n0_; have BK547 := n1_; have GW547 := n2_; have GE547 := n3_; clear n0_ n1_ n2_ n3_; clear hb hbox hg; have hcz6_0 : w5.cell? ⟨gb547, 0, none⟩ = some (.int .i64 a0_0) := (blk_cell BK547.out 0).trans rfl; have hcz6_1 : w5.cell? ⟨gb547, 1, none⟩ = some (.int .i64 a0_1) := (blk_cell BK547.out 1).trans rfl; have hfz6_0 := blk_frozen BK547.out 0; have hfz6_1 := blk_frozen BK547.out 1) | ((with_reducible refine gate_callee (f := 70) rfl ?_); refine goesL_ (some 5) rfl rfl Try.func70 (by kernel_rfl) rfl #[.int .i64 a0_0] rfl (by (try simp only [List.map_toArray, List.map_cons, List.map_nil]); first | done | rfl | (simp only [List.length_drop, List.length_take]; rfl)) ?_; (with_reducible refine (impl_isCircle.calls a0_0 true _ A2.out).mono ?_); rintro e w' ⟨rfl, ⟨nd, rfl⟩⟩; refine ⟨_, rfl, ?_⟩) | (go_at_call 46; (with_reducible refine (impl_within.calls a0_1 1 (wrap64 (a0_0 - 1)) t549 _ A4.out).mono ?_); rintro e w' ⟨rfl, ⟨nd, rfl⟩⟩))
    go_ret
    exact ⟨by first | rfl | (simp [errW_none, errW_some] <;> rfl) | (simp [*, errW_none, errW_some] <;> rfl), by repeat (first | (with_reducible first | exact HB.out | apply below_alloc | apply pw_below_drewN | apply below_drew1 | refine below_set ?_ GE547.out) | exact HB.out)⟩
  · replace c3 := Bool.eq_false_iff.mpr c3
    subst c3
    have H1 : (some false) = some r := by rw [if_neg (show ¬ (false = true) by decide)] at H; exact H
    clear H
    have H := H1
    clear H1
    obtain rfl := Option.some.inj H
    go_enter Try.func77, Try.ntmps77
    go_wp2_with (first | ((with_reducible refine gate_dst (N := 1) rfl ?_); refine box_event ?hg (N := 1) ?hd (cs := #[.int .i64 a0_0, .int .i64 a0_1]) (t := 52) ?hr ?_; (case hd => rfl); (case hg => rfl); (case hr => first | (go_simp; done) | (go_simp; rfl)); intro gb547 hg w7 hbox hb; have n0_ := Aside0.mk (below_step (by repeat (first | (with_reducible first | exact HB.out | apply below_alloc | apply pw_below_drewN | apply below_drew1) | exact HB.out)) hb); have n1_ := Aside0.mk (hbox); have n2_ := Aside0.mk ((by rw [hg]; exact (below_size (by repeat (first | (with_reducible first | exact HB.out | apply below_alloc | apply pw_below_drewN | apply below_drew1) | exact HB.out))) : w.heap.size ≤ gb547)); have n3_ := Aside0.mk ((by rw [hg]; exact (below_size (by repeat (first | (with_reducible first | exact HB.out | apply below_alloc | apply pw_below_drewN | apply below_drew1) | exact HB.out))) : w.heap.size ≤ gb547)); clear HB; have HB := n0_; have BK547 := n1_; have GW547 := n2_; have GE547 := n3_; clear n0_ n1_ n2_ n3_; clear hb hbox hg; have hcz8_0 : w7.cell? ⟨gb547, 0, none⟩ = some (.int .i64 a0_0) := (blk_cell BK547.out 0).trans rfl; have hcz8_1 : w7.cell? ⟨gb547, 1, none⟩ = some (.int .i64 a0_1) := (blk_cell BK547.out 1).trans rfl; have hfz8_0 := blk_frozen BK547.out 0; have hfz8_1 := blk_frozen BK547.out 1) | ((with_reducible refine gate_callee (f := 70) rfl ?_); refine goesL_ (some 5) rfl rfl Try.func70 (by kernel_rfl) rfl #[.int .i64 a0_0] rfl (by (try simp only [List.map_toArray, List.map_cons, List.map_nil]); first | done | rfl | (simp only [List.length_drop, List.length_take]; rfl)) ?_; (with_reducible refine (impl_isCircle.calls a0_0 false _ A2.out).mono ?_); rintro e w' ⟨rfl, ⟨nd, rfl⟩⟩; refine ⟨_, rfl, ?_⟩))
    go_ret
    exact ⟨by first | rfl | (simp [errW_none, errW_some] <;> rfl) | (simp [*, errW_none, errW_some] <;> rfl), by repeat (first | (with_reducible first | exact HB.out | apply below_alloc | apply pw_below_drewN | apply below_drew1 | refine below_set ?_ GE547.out) | exact HB.out)⟩

end Go.Proofs.Ytijhoifcpijeiaa.Pr

-- Written by a program for this claim.
namespace Go.Proofs.Ytijhoifcpijeiaa.Pr
open Go.RowKit Go.Proofs.YtijhoifcpijeiaaW.PrintWords Go.Proofs.YtijhoifcpijeiaaW.PrintLast Go.Proofs.YtijhoifcpijeiaaW.PrintMore
attribute [local go_sem] max2_int min2_int max_two min_two max_three min_three max_four min_four   -- for this text's walks alone
set_option linter.unusedVariables false
set_option linter.unusedSimpArgs false

/-! ### impl_chord: function 71 -/
def impl_chord.f (a0 : Int) (a1 : Int) : Option (Int × Int) := some (mn a0 a1, mx a0 a1)
set_option maxHeartbeats 8000000 in
set_option maxRecDepth 100000 in
theorem impl_chord.calls (a0 : Int) (a1 : Int) (r1 : Int) (r2 : Int) (w : World) (h : impl_chord.f a0 a1 = some (r1, r2)) :
    Calls Try.prog 71 #[.int .i64 a0, .int .i64 a1] w fun e w' => e = .returned (.agg #[.int .i64 r1, .int .i64 r2]) ∧ Below w.heap.size w w' := by
  have hu60 := Try.underlying60
  have HB := Aside0.mk (Below.refl w.heap.size w)
  have H : (some (mn a0 a1, mx a0 a1)) = some (r1, r2) := h
  clear h
  obtain ⟨ji3, hji3⟩ : ∃ j_ : Int, (mn a0 a1) = j_ := ⟨_, rfl⟩
  replace H : (some (ji3, mx a0 a1)) = some (r1, r2) := by first | (rw [hji3] at H; exact H) | (simp only [hji3] at H ⊢; exact H)
  have hji3_ : (if a1 < a0 then a1 else a0) = ji3 := hji3
  obtain ⟨ji4, hji4⟩ : ∃ j_ : Int, (mx a0 a1) = j_ := ⟨_, rfl⟩
  replace H : (some (ji3, ji4)) = some (r1, r2) := by first | (rw [hji4] at H; exact H) | (simp only [hji4] at H ⊢; exact H)
  have hji4_ : (if a0 < a1 then a1 else a0) = ji4 := hji4
  simp only [Option.some.injEq, Prod.mk.injEq] at H
  obtain ⟨rfl, rfl⟩ := H
  go_enter Try.func71, Try.ntmps71
  go_wp2_with (first | ((with_reducible refine gate_dst (N := 4) rfl ?_); refine box_event ?hg (N := 4) ?hd (cs := #[.int .i64 0, .int .i64 0]) (t := 60) ?hr ?_; (case hd => rfl); (case hg => rfl); (case hr => first | (go_simp; done) | (go_simp; rfl)); intro gb467 hg w5 hbox hb; have n0_ := Aside0.mk (below_step (by repeat (first | (with_reducible first | exact HB.out | apply below_alloc | apply pw_below_drewN | apply below_drew1) | exact HB.out)) hb); have n1_ := Aside0.mk (hbox); have n2_ := Aside0.mk ((by rw [hg]; exact (below_size (by repeat (first | (with_reducible first | exact HB.out | apply below_alloc | apply pw_below_drewN | apply below_drew1) | exact HB.out))) : w.heap.size ≤ gb467)); have n3_ := Aside0.mk ((by rw [hg]; exact (below_size (by repeat (first | (with_reducible first | exact HB.out | apply below_alloc | apply pw_below_drewN | apply below_drew1) | exact HB.out))) : w.heap.size ≤ gb467)); clear HB; have HB := n0_; have BK467 := n1_; have GW467 := n2_; have GE467 := n3_; clear n0_ n1_ n2_ n3_; clear hb hbox hg; have hcz6_0 : w5.cell? ⟨gb467, 0, none⟩ = some (.int .i64 0) := (blk_cell BK467.out 0).trans rfl; have hcz6_1 : w5.cell? ⟨gb467, 1, none⟩ = some (.int .i64 0) := (blk_cell BK467.out 1).trans rfl; have hfz6_0 := blk_frozen BK467.out 0; have hfz6_1 := blk_frozen BK467.out 1))
  refine bodyPost_ret (results_cell_row rfl _ _ gb467 60 #[.int .i64 ji3, .int .i64 ji4] (0, 0) _ rfl (by (with_reducible repeat (first | refine blk_drewN ?_ _ | refine blk_drew ?_ | refine blk_alloc ?_ _)); refine blk_put (cs := #[.int .i64 ji3, .int .i64 0]) ?_ 1 _ rfl; (with_reducible repeat (first | refine blk_drewN ?_ _ | refine blk_drew ?_ | refine blk_alloc ?_ _)); refine blk_put (cs := #[.int .i64 0, .int .i64 0]) ?_ 0 _ rfl; (with_reducible repeat (first | refine blk_drewN ?_ _ | refine blk_drew ?_ | refine blk_alloc ?_ _)); exact BK467.out) Try.underlying60 rfl (by kernel_rfl)) rfl ?_
  exact ⟨by first | rfl | (simp [errW_none, errW_some] <;> rfl) | (simp only [← hji3, ← hji4]; first | rfl | (simp [errW_none, errW_some] <;> rfl)) | (simp [*, errW_none, errW_some] <;> rfl), by repeat (first | (with_reducible first | exact HB.out | apply below_alloc | apply pw_below_drewN | apply below_drew1 | refine below_set ?_ GE467.out) | exact HB.out)⟩

end Go.Proofs.Ytijhoifcpijeiaa.Pr

-- Written by a program for this claim.
namespace Go.Proofs.Ytijhoifcpijeiaa.Pr
open Go.RowKit Go.Proofs.YtijhoifcpijeiaaW.PrintWords Go.Proofs.YtijhoifcpijeiaaW.PrintLast Go.Proofs.YtijhoifcpijeiaaW.PrintMore
attribute [local go_sem] max2_int min2_int max_two min_two max_three min_three max_four min_four   -- for this text's walks alone
set_option linter.unusedVariables false
set_option linter.unusedSimpArgs false

/-! ### cmp_Or_int: function 99 -/
def cmp_Or_int.l0 : Nat → Int → List Int → Int → Int → Option (Int)
  | 0, _, _, _, _ => none
  | k + 1, x3, x6, x7, x8 => if x8 < x7 then (if 0 ≤ x8 then (if x8 < (x6.length : Int) then (if (rd x6 x8) = x3 then (cmp_Or_int.l0 k x3 x6 x7 (wrap64 (x8 + 1))) else (some (rd x6 x8))) else (none)) else (none)) else (some x3)
def cmp_Or_int.f (k : Nat) (l0 : List Int) : Option (Int) := cmp_Or_int.l0 k 0 l0 (l0.length : Int) 0
theorem cmp_Or_int.mono_l : ∀ k, (∀ y0 y1 y2 y3, LeO (cmp_Or_int.l0 k y0 y1 y2 y3) (cmp_Or_int.l0 (k + 1) y0 y1 y2 y3))
  | 0 => fun _ _ _ _ r h => by simp [cmp_Or_int.l0] at h
  | k + 1 => by
    have ih0 := cmp_Or_int.mono_l k
    · intro y0 y1 y2 y3
      unfold cmp_Or_int.l0
      repeat' first
      | (with_reducible exact ih0 _ _ _ _)
      | (with_reducible exact LeO.refl _)
      | (with_reducible exact LeO.none _)
      | (with_reducible refine LeO.ite ?_ ?_)
      | (with_reducible refine LeO.bind ?_ (fun _ => ?_))
      | exact ih0 _ _ _ _
      | exact LeO.none _
      | refine LeO.ite ?_ ?_
      | refine LeO.bind ?_ (fun _ => ?_)
theorem cmp_Or_int.mono : ∀ a0 k, LeO (cmp_Or_int.f k a0) (cmp_Or_int.f (k + 1) a0) := by
  intro a0 k
  have ih0 := cmp_Or_int.mono_l k
  unfold cmp_Or_int.f
  repeat' first
      | (with_reducible exact ih0 _ _ _ _)
      | (with_reducible exact LeO.refl _)
      | (with_reducible exact LeO.none _)
      | (with_reducible refine LeO.ite ?_ ?_)
      | (with_reducible refine LeO.bind ?_ (fun _ => ?_))
      | exact ih0 _ _ _ _
      | exact LeO.none _
      | refine LeO.ite ?_ ?_
      | refine LeO.bind ?_ (fun _ => ?_)
set_option maxHeartbeats 8000000 in
set_option maxRecDepth 100000 in
theorem cmp_Or_int.calls (k : Nat) (A0 : Option Addr) (c0 : Nat) (l0 : List Int) (r : Int) (w : World) (hr0 : Kd.C (Kd.int .i64) w A0 l0.length l0) (hc0 : l0.length ≤ c0) (h : cmp_Or_int.f k l0 = some r) :
    Calls Try.prog 99 #[.slice A0 l0.length c0] w fun e w' => e = .returned (.int .i64 r) ∧ Drawn0 w w' := by
  have HR0 := Aside0.mk hr0
  have HC0 := Aside0.mk hc0
  clear hr0 hc0
  have H : (cmp_Or_int.l0 k 0 l0 (l0.length : Int) 0) = some r := h
  clear h
  have H' := Aside0.mk H
  clear H
  go_enter Try.func99, Try.ntmps99
  go_wp2
  go_loopg [8] k (fun kq v8 w' => ∃ (x8_1 : Int), v8 = .int .i64 x8_1 ∧ Aside0 (cmp_Or_int.l0 kq 0 l0 (l0.length : Int) x8_1 = some r) ∧ Aside0 (kq ≤ k) ∧ Drawn0 w w')
  case atStart => exact ⟨(0), (by first | rfl | (simp; done) | (simp [*]; done)), H', ⟨Nat.le_refl _⟩, by repeat (first | exact Drawn0.refl _ | apply Drawn0.step)⟩
  case round =>
    clear H'
    obtain ⟨x8_1, rfl, HA, HK1, ⟨m1, rfl⟩⟩ := hrel
    cases gk with
    | zero => exact absurd HA.out (by simp [cmp_Or_int.l0])
    | succ k1 =>
      have H := HA.out
      clear HA
      simp only [cmp_Or_int.l0] at H
      by_cases c2 : x8_1 < (l0.length : Int)
      · rw [if_pos c2] at H
        have c2b0 : decide (x8_1 < (l0.length : Int)) = true := decide_eq_true c2
        clear c2
        by_cases c3 : 0 ≤ x8_1
        · rw [if_pos c3] at H
          have c3b0 : decide (0 ≤ x8_1) = true := decide_eq_true c3
          clear c3
          by_cases c4 : x8_1 < (l0.length : Int)
          · rw [if_pos c4] at H
            have c4b0 : decide (x8_1 < (l0.length : Int)) = true := decide_eq_true c4
            clear c4
            by_cases c5 : (rd l0 x8_1) = 0
            · rw [if_pos c5] at H
              have c5b0 : ((rd l0 x8_1) == 0) = true := beq_iff_eq.mpr c5
              have c5b1 : ((rd l0 x8_1) != 0) = false := bne_eq_false_iff_eq.mpr c5
              clear c5
              have H' := Aside0.mk H
              clear H
              have p158 : 0 ≤ (x8_1 : Int) := of_decide_eq_true (by first | (with_reducible assumption) | assumption)
              have q158 : x8_1 < (l0.length : Int) := of_decide_eq_true (by first | (with_reducible assumption) | assumption)
              obtain ⟨ad158, e158, hx158_0⟩ := Kd.at_int HR0.out x8_1 p158 q158
              cases e158
              replace p158 := eq_true p158
              replace q158 := eq_true q158
              go_wp2
              go_roundg k1
              case measure => have := HK1.out; omega
              case rel => exact ⟨(wrap64 (x8_1 + 1)), (by first | rfl | (simp; done) | (simp [*]; done)), H', ⟨by have := HK1.out; omega⟩, by repeat (first | exact Drawn0.refl _ | apply Drawn0.step)⟩
            · rw [if_neg c5] at H
              have c5b0 : ((rd l0 x8_1) == 0) = false := beq_eq_false_iff_ne.mpr c5
              have c5b1 : ((rd l0 x8_1) != 0) = true := bne_iff_ne.mpr c5
              obtain rfl := Option.some.inj H
              have p158 : 0 ≤ (x8_1 : Int) := of_decide_eq_true (by first | (with_reducible assumption) | assumption)
              have q158 : x8_1 < (l0.length : Int) := of_decide_eq_true (by first | (with_reducible assumption) | assumption)
              obtain ⟨ad158, e158, hx158_0⟩ := Kd.at_int HR0.out x8_1 p158 q158
              cases e158
              replace p158 := eq_true p158
              replace q158 := eq_true q158
              go_wp2
              go_ret
              exact ⟨by first | rfl | (simp; done) | (simp [*]; done), by repeat (first | exact Drawn0.refl _ | apply Drawn0.step)⟩
          · rw [if_neg c4] at H
            exact absurd H (by simp)
        · rw [if_neg c3] at H
          exact absurd H (by simp)
      · rw [if_neg c2] at H
        have c2b0 : decide (x8_1 < (l0.length : Int)) = false := decide_eq_false c2
        clear c2
        obtain rfl := Option.some.inj H
        go_wp2
        go_ret
        exact ⟨by first | rfl | (simp; done) | (simp [*]; done), by repeat (first | exact Drawn0.refl _ | apply Drawn0.step)⟩

end Go.Proofs.Ytijhoifcpijeiaa.Pr

-- Written by a program for this claim.
namespace Go.Proofs.Ytijhoifcpijeiaa.Pr
open Go.RowKit Go.Proofs.YtijhoifcpijeiaaW.PrintWords Go.Proofs.YtijhoifcpijeiaaW.PrintLast Go.Proofs.YtijhoifcpijeiaaW.PrintMore
attribute [local go_sem] max2_int min2_int max_two min_two max_three min_three max_four min_four   -- for this text's walks alone
set_option linter.unusedVariables false
set_option linter.unusedSimpArgs false

/-! ### cmp_isNaN_int: function 111 -/
def cmp_isNaN_int.f (a0 : Int) : Option (Bool) := some (a0 != a0)
set_option maxHeartbeats 8000000 in
set_option maxRecDepth 100000 in
theorem cmp_isNaN_int.calls (a0 : Int) (r : Bool) (w : World) (h : cmp_isNaN_int.f a0 = some r) :
    Calls Try.prog 111 #[.int .i64 a0] w fun e w' => e = .returned (.bool r) ∧ Drawn0 w w' := by
  have H : (some (a0 != a0)) = some r := h
  clear h
  obtain rfl := Option.some.inj H
  go_enter Try.func111, Try.ntmps111
  go_wp2
  go_ret
  exact ⟨by first | rfl | (simp; done) | (simp [*]; done), by repeat (first | exact Drawn0.refl _ | apply Drawn0.step)⟩

end Go.Proofs.Ytijhoifcpijeiaa.Pr

-- Written by a program for this claim.
namespace Go.Proofs.Ytijhoifcpijeiaa.Pr
open Go.RowKit Go.Proofs.YtijhoifcpijeiaaW.PrintWords Go.Proofs.YtijhoifcpijeiaaW.PrintLast Go.Proofs.YtijhoifcpijeiaaW.PrintMore
attribute [local go_sem] max2_int min2_int max_two min_two max_three min_three max_four min_four   -- for this text's walks alone
set_option linter.unusedVariables false
set_option linter.unusedSimpArgs false

/-! ### cmp_Compare_int: function 100 -/
def cmp_Compare_int.f (a0 : Int) (a1 : Int) : Option (Int) := (cmp_isNaN_int.f a0).bind fun t159 => ((cmp_isNaN_int.f a1).bind fun t160 => (if t159 = true then (if t160 = true then (some 0) else (some (-1))) else (if t160 = true then (some 1) else (if a0 < a1 then (some (-1)) else (if a0 > a1 then (some 1) else (some 0))))))
set_option maxHeartbeats 8000000 in
set_option maxRecDepth 100000 in
theorem cmp_Compare_int.calls (a0 : Int) (a1 : Int) (r : Int) (w : World) (h : cmp_Compare_int.f a0 a1 = some r) :
    Calls Try.prog 100 #[.int .i64 a0, .int .i64 a1] w fun e w' => e = .returned (.int .i64 r) ∧ Drawn0 w w' := by
  have H : ((cmp_isNaN_int.f a0).bind fun t159 => ((cmp_isNaN_int.f a1).bind fun t160 => (if t159 = true then (if t160 = true then (some 0) else (some (-1))) else (if t160 = true then (some 1) else (if a0 < a1 then (some (-1)) else (if a0 > a1 then (some 1) else (some 0))))))) = some r := h
  clear h
  replace H := Option.bind_eq_some_iff.mp H
  obtain ⟨t159, A30, H⟩ := H
  replace H : ((cmp_isNaN_int.f a1).bind fun t160 => (if t159 = true then (if t160 = true then (some 0) else (some (-1))) else (if t160 = true then (some 1) else (if a0 < a1 then (some (-1)) else (if a0 > a1 then (some 1) else (some 0)))))) = some r := H
  have A3 := Aside0.mk A30
  clear A30
  replace H := Option.bind_eq_some_iff.mp H
  obtain ⟨t160, A40, H⟩ := H
  replace H : (if t159 = true then (if t160 = true then (some 0) else (some (-1))) else (if t160 = true then (some 1) else (if a0 < a1 then (some (-1)) else (if a0 > a1 then (some 1) else (some 0))))) = some r := H
  have A4 := Aside0.mk A40
  clear A40
  by_cases c5 : t159 = true
  · subst c5
    have H1 : (if t160 = true then (some 0) else (some (-1))) = some r := by rw [if_pos rfl] at H; exact H
    clear H
    have H := H1
    clear H1
    by_cases c6 : t160 = true
    · subst c6
      have H1 : (some 0) = some r := by rw [if_pos rfl] at H; exact H
      clear H
      have H := H1
      clear H1
      obtain rfl := Option.some.inj H
      go_enter Try.func100, Try.ntmps100
      go_wp2_with (first | ((with_reducible refine gate_callee (f := 111) rfl ?_); refine goesL_ (some 8) rfl rfl Try.func111 (by kernel_rfl) rfl #[.int .i64 a0] rfl (by (try simp only [List.map_toArray, List.map_cons, List.map_nil]); first | done | rfl | (simp only [List.length_drop, List.length_take]; rfl)) ?_; (with_reducible refine (cmp_isNaN_int.calls a0 true _ A3.out).mono ?_); rintro e w' ⟨rfl, ⟨nd, rfl⟩⟩; refine ⟨_, rfl, ?_⟩) | ((with_reducible refine gate_callee (f := 111) rfl ?_); refine goesL_ (some 10) rfl rfl Try.func111 (by kernel_rfl) rfl #[.int .i64 a1] rfl (by (try simp only [List.map_toArray, List.map_cons, List.map_nil]); first | done | rfl | (simp only [List.length_drop, List.length_take]; rfl)) ?_; (with_reducible refine (cmp_isNaN_int.calls a1 true _ A4.out).mono ?_); rintro e w' ⟨rfl, ⟨nd, rfl⟩⟩; refine ⟨_, rfl, ?_⟩))
      go_ret
      exact ⟨by first | rfl | (simp; done) | (simp [*]; done), by repeat (first | exact Drawn0.refl _ | apply Drawn0.step)⟩
    · replace c6 := Bool.eq_false_iff.mpr c6
      subst c6
      have H1 : (some (-1)) = some r := by rw [if_neg (show ¬ (false = true) by decide)] at H; exact H
      clear H
      have H := H1
      clear H1
      obtain rfl := Option.some.inj H
      go_enter Try.func100, Try.ntmps100
      go_wp2_with (first | ((with_reducible refine gate_callee (f := 111) rfl ?_); refine goesL_ (some 8) rfl rfl Try.func111 (by kernel_rfl) rfl #[.int .i64 a0] rfl (by (try simp only [List.map_toArray, List.map_cons, List.map_nil]); first | done | rfl | (simp only [List.length_drop, List.length_take]; rfl)) ?_; (with_reducible refine (cmp_isNaN_int.calls a0 true _ A3.out).mono ?_); rintro e w' ⟨rfl, ⟨nd, rfl⟩⟩; refine ⟨_, rfl, ?_⟩) | ((with_reducible refine gate_callee (f := 111) rfl ?_); refine goesL_ (some 10) rfl rfl Try.func111 (by kernel_rfl) rfl #[.int .i64 a1] rfl (by (try simp only [List.map_toArray, List.map_cons, List.map_nil]); first | done | rfl | (simp only [List.length_drop, List.length_take]; rfl)) ?_; (with_reducible refine (cmp_isNaN_int.calls a1 false _ A4.out).mono ?_); rintro e w' ⟨rfl, ⟨nd, rfl⟩⟩; refine ⟨_, rfl, ?_⟩))
      go_ret
      exact ⟨by first | rfl | (simp; done) | (simp [*]; done), by repeat (first | exact Drawn0.refl _ | apply Drawn0.step)⟩
  · replace c5 := Bool.eq_false_iff.mpr c5
    subst c5
    have H1 : (if t160 = true then (some 1) else (if a0 < a1 then (some (-1)) else (if a0 > a1 then (some 1) else (some 0)))) = some r := by rw [if_neg (show ¬ (false = true) by decide)] at H; exact H
    clear H
    have H := H1
    clear H1
    by_cases c7 : t160 = true
    · subst c7
      have H1 : (some 1) = some r := by rw [if_pos rfl] at H; exact H
      clear H
      have H := H1
      clear H1
      obtain rfl := Option.some.inj H
      go_enter Try.func100, Try.ntmps100
      go_wp2_with (first | ((with_reducible refine gate_callee (f := 111) rfl ?_); refine goesL_ (some 8) rfl rfl Try.func111 (by kernel_rfl) rfl #[.int .i64 a0] rfl (by (try simp only [List.map_toArray, List.map_cons, List.map_nil]); first | done | rfl | (simp only [List.length_drop, List.length_take]; rfl)) ?_; (with_reducible refine (cmp_isNaN_int.calls a0 false _ A3.out).mono ?_); rintro e w' ⟨rfl, ⟨nd, rfl⟩⟩; refine ⟨_, rfl, ?_⟩) | ((with_reducible refine gate_callee (f := 111) rfl ?_); refine goesL_ (some 10) rfl rfl Try.func111 (by kernel_rfl) rfl #[.int .i64 a1] rfl (by (try simp only [List.map_toArray, List.map_cons, List.map_nil]); first | done | rfl | (simp only [List.length_drop, List.length_take]; rfl)) ?_; (with_reducible refine (cmp_isNaN_int.calls a1 true _ A4.out).mono ?_); rintro e w' ⟨rfl, ⟨nd, rfl⟩⟩; refine ⟨_, rfl, ?_⟩))
      go_ret
      exact ⟨by first | rfl | (simp; done) | (simp [*]; done), by repeat (first | exact Drawn0.refl _ | apply Drawn0.step)⟩
    · replace c7 := Bool.eq_false_iff.mpr c7
      subst c7
      have H1 : (if a0 < a1 then (some (-1)) else (if a0 > a1 then (some 1) else (some 0))) = some r := by rw [if_neg (show ¬ (false = true) by decide)] at H; exact H
      clear H
      have H := H1
      clear H1
      by_cases c8 : a0 < a1
      · rw [if_pos c8] at H
        have c8b0 : decide (a0 < a1) = true := decide_eq_true c8
        clear c8
        obtain rfl := Option.some.inj H
        go_enter Try.func100, Try.ntmps100
        go_wp2_with (first | ((with_reducible refine gate_callee (f := 111) rfl ?_); refine goesL_ (some 8) rfl rfl Try.func111 (by kernel_rfl) rfl #[.int .i64 a0] rfl (by (try simp only [List.map_toArray, List.map_cons, List.map_nil]); first | done | rfl | (simp only [List.length_drop, List.length_take]; rfl)) ?_; (with_reducible refine (cmp_isNaN_int.calls a0 false _ A3.out).mono ?_); rintro e w' ⟨rfl, ⟨nd, rfl⟩⟩; refine ⟨_, rfl, ?_⟩) | ((with_reducible refine gate_callee (f := 111) rfl ?_); refine goesL_ (some 10) rfl rfl Try.func111 (by kernel_rfl) rfl #[.int .i64 a1] rfl (by (try simp only [List.map_toArray, List.map_cons, List.map_nil]); first | done | rfl | (simp only [List.length_drop, List.length_take]; rfl)) ?_; (with_reducible refine (cmp_isNaN_int.calls a1 false _ A4.out).mono ?_); rintro e w' ⟨rfl, ⟨nd, rfl⟩⟩; refine ⟨_, rfl, ?_⟩))
        go_ret
        exact ⟨by first | rfl | (simp; done) | (simp [*]; done), by repeat (first | exact Drawn0.refl _ | apply Drawn0.step)⟩
      · rw [if_neg c8] at H
        have c8b0 : decide (a0 < a1) = false := decide_eq_false c8
        clear c8
        by_cases c9 : a0 > a1
        · rw [if_pos c9] at H
          have c9b0 : decide (a1 < a0) = true := decide_eq_true c9
          clear c9
          obtain rfl := Option.some.inj H
          go_enter Try.func100, Try.ntmps100
          go_wp2_with (first | ((with_reducible refine gate_callee (f := 111) rfl ?_); refine goesL_ (some 8) rfl rfl Try.func111 (by kernel_rfl) rfl #[.int .i64 a0] rfl (by (try simp only [List.map_toArray, List.map_cons, List.map_nil]); first | done | rfl | (simp only [List.length_drop, List.length_take]; rfl)) ?_; (with_reducible refine (cmp_isNaN_int.calls a0 false _ A3.out).mono ?_); rintro e w' ⟨rfl, ⟨nd, rfl⟩⟩; refine ⟨_, rfl, ?_⟩) | ((with_reducible refine gate_callee (f := 111) rfl ?_); refine goesL_ (some 10) rfl rfl Try.func111 (by kernel_rfl) rfl #[.int .i64 a1] rfl (by (try simp only [List.map_toArray, List.map_cons, List.map_nil]); first | done | rfl | (simp only [List.length_drop, List.length_take]; rfl)) ?_; (with_reducible refine (cmp_isNaN_int.calls a1 false _ A4.out).mono ?_); rintro e w' ⟨rfl, ⟨nd, rfl⟩⟩; refine ⟨_, rfl, ?_⟩))
          go_ret
          exact ⟨by first | rfl | (simp; done) | (simp [*]; done), by repeat (first | exact Drawn0.refl _ | apply Drawn0.step)⟩
        · rw [if_neg c9] at H
          have c9b0 : decide (a1 < a0) = false := decide_eq_false c9
          clear c9
          obtain rfl := Option.some.inj H
          go_enter Try.func100, Try.ntmps100
          go_wp2_with (first | ((with_reducible refine gate_callee (f := 111) rfl ?_); refine goesL_ (some 8) rfl rfl Try.func111 (by kernel_rfl) rfl #[.int .i64 a0] rfl (by (try simp only [List.map_toArray, List.map_cons, List.map_nil]); first | done | rfl | (simp only [List.length_drop, List.length_take]; rfl)) ?_; (with_reducible refine (cmp_isNaN_int.calls a0 false _ A3.out).mono ?_); rintro e w' ⟨rfl, ⟨nd, rfl⟩⟩; refine ⟨_, rfl, ?_⟩) | ((with_reducible refine gate_callee (f := 111) rfl ?_); refine goesL_ (some 10) rfl rfl Try.func111 (by kernel_rfl) rfl #[.int .i64 a1] rfl (by (try simp only [List.map_toArray, List.map_cons, List.map_nil]); first | done | rfl | (simp only [List.length_drop, List.length_take]; rfl)) ?_; (with_reducible refine (cmp_isNaN_int.calls a1 false _ A4.out).mono ?_); rintro e w' ⟨rfl, ⟨nd, rfl⟩⟩; refine ⟨_, rfl, ?_⟩))
          go_ret
          exact ⟨by first | rfl | (simp; done) | (simp [*]; done), by repeat (first | exact Drawn0.refl _ | apply Drawn0.step)⟩

end Go.Proofs.Ytijhoifcpijeiaa.Pr

-- Written by a program for this claim.
namespace Go.Proofs.Ytijhoifcpijeiaa.Pr
open Go.RowKit Go.Proofs.YtijhoifcpijeiaaW.PrintWords Go.Proofs.YtijhoifcpijeiaaW.PrintLast Go.Proofs.YtijhoifcpijeiaaW.PrintMore
attribute [local go_sem] max2_int min2_int max_two min_two max_three min_three max_four min_four   -- for this text's walks alone
set_option linter.unusedVariables false
set_option linter.unusedSimpArgs false

/-! ### impl_compareChords: function 93 -/
def impl_compareChords.f (k : Nat) (a0_0 : Int) (a0_1 : Int) (a1_0 : Int) (a1_1 : Int) : Option (Int) := (cmp_Compare_int.f a0_0 a1_0).bind fun t163 => ((cmp_Compare_int.f a0_1 a1_1).bind fun t164 => ((cmp_Or_int.f k (([t163, t164] : List Int))).bind fun t168 => (some t168)))
theorem impl_compareChords.mono : ∀ a0 a1 a2 a3 k, LeO (impl_compareChords.f k a0 a1 a2 a3) (impl_compareChords.f (k + 1) a0 a1 a2 a3) := by
  intro a0 a1 a2 a3 k
  unfold impl_compareChords.f
  repeat' first
      | (with_reducible exact cmp_Or_int.mono _ _)
      | (with_reducible exact LeO.refl _)
      | (with_reducible exact LeO.none _)
      | (with_reducible refine LeO.ite ?_ ?_)
      | (with_reducible refine LeO.bind ?_ (fun _ => ?_))
      | exact cmp_Or_int.mono _ _
      | exact LeO.none _
      | refine LeO.ite ?_ ?_
      | refine LeO.bind ?_ (fun _ => ?_)
def impl_compareChords.T1 : Bool × List (List Nat × List Nat) := (true, [([], []), ([0], [0]), ([], []), ([2], [2]), ([1, 3], [1, 3]), ([], []), ([5], [5]), ([], []), ([7], [7]), ([6, 8, 4], [6, 8]), ([4, 9], [4, 9]), ([10, 9], [10]), ([11, 11, 0, 1, 2, 3, 4, 5, 6, 7, 8, 9, 10, 11], [11])])
def impl_compareChords.B1 : List Nat := [0, 1, 0, 4, 15, 0, 32, 0, 128, 511, 1023, 2047, 4095]
theorem impl_compareChords.tab1 : rtab .any (opsOf Try.f93 1) = impl_compareChords.T1 := by kernel_rfl
theorem impl_compareChords.bits1 : waitsOk impl_compareChords.T1.2 impl_compareChords.B1 = true := by kernel_rfl
set_option maxHeartbeats 8000000 in
set_option maxRecDepth 100000 in
theorem impl_compareChords.calls (k : Nat) (a0_0 : Int) (a0_1 : Int) (a1_0 : Int) (a1_1 : Int) (r : Int) (w : World) (h : impl_compareChords.f k a0_0 a0_1 a1_0 a1_1 = some r) :
    Calls Try.prog 93 #[.agg #[.int .i64 a0_0, .int .i64 a0_1], .agg #[.int .i64 a1_0, .int .i64 a1_1]] w fun e w' => e = .returned (.int .i64 r) ∧ Below w.heap.size w w' := by
  have hu60 := Try.underlying60
  have HB := Aside0.mk (Below.refl w.heap.size w)
  have H : ((cmp_Compare_int.f a0_0 a1_0).bind fun t163 => ((cmp_Compare_int.f a0_1 a1_1).bind fun t164 => ((cmp_Or_int.f k (([t163, t164] : List Int))).bind fun t168 => (some t168)))) = some r := h
  clear h
  replace H := Option.bind_eq_some_iff.mp H
  obtain ⟨t163, A30, H⟩ := H
  replace H : ((cmp_Compare_int.f a0_1 a1_1).bind fun t164 => ((cmp_Or_int.f k (([t163, t164] : List Int))).bind fun t168 => (some t168))) = some r := H
  have A3 := Aside0.mk A30
  clear A30
  replace H := Option.bind_eq_some_iff.mp H
  obtain ⟨t164, A40, H⟩ := H
  replace H : ((cmp_Or_int.f k (([t163, t164] : List Int))).bind fun t168 => (some t168)) = some r := H
  have A4 := Aside0.mk A40
  clear A40
  obtain ⟨y165, hy165⟩ : ∃ y_ : List Int, y_ = (([t163, t164] : List Int)) := ⟨_, rfl⟩
  replace H : ((cmp_Or_int.f k y165).bind fun t168 => (some t168)) = some r := by first | (rw [hy165]; with_reducible exact H) | (have H2_ := (Option.bind_some _ _).symm.trans H; rw [hy165]; with_reducible exact H2_) | (have H2_ := (Option.bind_some _ _).symm.trans H; with_reducible exact H2_) | with_reducible exact H | (rw [hy165]; exact H) | exact H
  have Ny165 := Aside0.mk hy165
  clear hy165
  replace H := Option.bind_eq_some_iff.mp H
  obtain ⟨t168, A50, H⟩ := H
  replace H : (some t168) = some r := H
  have A5 := Aside0.mk A50
  clear A50
  obtain rfl := Option.some.inj H
  go_enter Try.func93, Try.ntmps93
  try go_wp2_with (first | ((with_reducible refine gate_dst (N := 2) rfl ?_); refine box_event ?hg (N := 2) ?hd (cs := #[.int .i64 a0_0, .int .i64 a0_1]) (t := 60) ?hr ?_; (case hd => rfl); (case hg => rfl); (case hr => first | (go_simp; done) | (go_simp; rfl)); intro gb161 hg w6 hbox hb; have n0_ := Aside0.mk (below_step (by repeat (first | (with_reducible first | exact HB.out | apply below_alloc | apply pw_below_drewN | apply below_drew1) | exact HB.out)) hb); have n1_ := Aside0.mk (hbox); have n2_ := Aside0.mk ((by rw [hg]; exact (below_size (by repeat (first | (with_reducible first | exact HB.out | apply below_alloc | apply pw_below_drewN | apply below_drew1) | exact HB.out))) : w.heap.size ≤ gb161)); have n3_ := Aside0.mk ((by rw [hg]; exact (below_size (by repeat (first | (with_reducible first | exact HB.out | apply below_alloc | apply pw_below_drewN | apply below_drew1) | exact HB.out))) : w.heap.size ≤ gb161)); clear HB; have HB := n0_; have BK161 := n1_; have GW161 := n2_; have GE161 := n3_; clear n0_ n1_ n2_ n3_; clear hb hbox hg) | ((with_reducible refine gate_dst (N := 3) rfl ?_); refine box_event ?hg (N := 3) ?hd (cs := #[.int .i64 a1_0, .int .i64 a1_1]) (t := 60) ?hr ?_; (case hd => rfl); (case hg => rfl); (case hr => first | (go_simp; done) | (go_simp; rfl)); intro gb162 hg w7 hbox hb; have n0_ := Aside0.mk (blk_below (g := gb161) (o := .cells #[.int .i64 a0_0, .int .i64 a0_1] 60 (0, 0)) (by (with_reducible repeat (first | refine blk_drewN ?_ _ | refine blk_drew ?_ | refine blk_alloc ?_ _)); exact BK161.out) hb); have n1_ := Aside0.mk (below_step (by repeat (first | (with_reducible first | exact HB.out | apply below_alloc | apply pw_below_drewN | apply below_drew1 | refine below_set ?_ GE161.out) | exact HB.out)) hb); have n2_ := Aside0.mk (hbox); have n3_ := Aside0.mk ((by rw [hg]; exact (below_size (by repeat (first | (with_reducible first | exact HB.out | apply below_alloc | apply pw_below_drewN | apply below_drew1 | refine below_set ?_ GE161.out) | exact HB.out))) : w.heap.size ≤ gb162)); have n4_ := Aside0.mk ((by rw [hg]; exact (below_size (by repeat (first | (with_reducible first | exact HB.out | apply below_alloc | apply pw_below_drewN | apply below_drew1 | refine below_set ?_ GE161.out) | exact HB.out))) : w.heap.size ≤ gb162)); have n5_ := Aside0.mk ((by rw [hg]; exact Nat.ne_of_lt (blk_lt (g := gb161) (o := .cells #[.int .i64 a0_0, .int .i64 a0_1] 60 (0, 0)) (by (with_reducible repeat (first | refine blk_drewN ?_ _ | refine blk_drew ?_ | refine blk_alloc ?_ _)); exact BK161.out)) : gb161 ≠ gb162)); have n6_ := Aside0.mk ((by rw [hg]; exact Nat.ne_of_gt (blk_lt (g := gb161) (o := .cells #[.int .i64 a0_0, .int .i64 a0_1] 60 (0, 0)) (by (with_reducible repeat (first | refine blk_drewN ?_ _ | refine blk_drew ?_ | refine blk_alloc ?_ _)); exact BK161.out)) : gb162 ≠ gb161)); clear BK161; clear HB; have BK161 := n0_; have HB := n1_; have BK162 := n2_; have GW162 := n3_; have GE162 := n4_; have NB161_162 := n5_; have NB162_161 := n6_; clear n0_ n1_ n2_ n3_ n4_ n5_ n6_; clear hb hbox hg))
  have n0_ := Aside0.mk (blk_drew BK161.out)
  have n1_ := Aside0.mk (blk_drew BK162.out)
  have n2_ := Aside0.mk (below_drew1 HB.out)
  clear BK161
  clear BK162
  clear HB
  have BK161 := n0_
  have BK162 := n1_
  have HB := n2_
  clear n0_ n1_ n2_
  refine start_ (n := 13) (S := fun w' => w'.cell? ⟨gb161, 0, none⟩ = some (.int .i64 a0_0) ∧ w'.cell? ⟨gb161, 1, none⟩ = some (.int .i64 a0_1) ∧ w'.cell? ⟨gb162, 0, none⟩ = some (.int .i64 a1_0) ∧ w'.cell? ⟨gb162, 1, none⟩ = some (.int .i64 a1_1)) (ds := []) #[false, false, false, false, false, false, false, false, false, false, false, false, false] (by kernel_rfl) rfl rfl ⟨(blk_cell BK161.out 0).trans rfl, (blk_cell BK161.out 1).trans rfl, (blk_cell BK162.out 0).trans rfl, (blk_cell BK162.out 1).trans rfl⟩ (fun hHeld => ?_); refine with_tabW impl_compareChords.tab1 impl_compareChords.bits1 (fun HT_ HW_ => ?_)
  generalize w7.drew = w8 at BK161 BK162 HB hHeld ⊢
  refine pure_ (i := 0) (N := some 5) (v := ?_) (a' := ?_) #[true, false, false, false, false, false, false, false, false, false, false, false, false] rfl rfl (any_of HT_.out (by kernel_rfl)) (fun _ _ _ h => h) (Or.inl ⟨by rfl, ?_⟩) ?_ ?_
  rotate_left
  · intro w'
    go_simp
    with_reducible rfl
  rotate_left
  · simp only [Act.put, List.setIfInBounds_toArray, List.set_cons_zero, List.set_cons_succ, i64_w, i32_w]
    rfl
  refine pure_ (i := 2) (N := some 7) (v := ?_) (a' := ?_) #[true, false, true, false, false, false, false, false, false, false, false, false, false] rfl rfl (any_of HT_.out (by kernel_rfl)) (fun _ _ _ h => h) (Or.inl ⟨by rfl, ?_⟩) ?_ ?_
  rotate_left
  · intro w'
    go_simp
    with_reducible rfl
  rotate_left
  · simp only [Act.put, List.setIfInBounds_toArray, List.set_cons_zero, List.set_cons_succ, i64_w, i32_w]
    rfl
  refine pure_ (i := 5) (N := some 10) (v := ?_) (a' := ?_) #[true, false, true, false, false, true, false, false, false, false, false, false, false] rfl rfl (any_of HT_.out (by kernel_rfl)) (fun _ _ _ h => h) (Or.inl ⟨by rfl, ?_⟩) ?_ ?_
  rotate_left
  · intro w'
    go_simp
    with_reducible rfl
  rotate_left
  · simp only [Act.put, List.setIfInBounds_toArray, List.set_cons_zero, List.set_cons_succ, i64_w, i32_w]
    rfl
  refine pure_ (i := 7) (N := some 12) (v := ?_) (a' := ?_) #[true, false, true, false, false, true, false, true, false, false, false, false, false] rfl rfl (any_of HT_.out (by kernel_rfl)) (fun _ _ _ h => h) (Or.inl ⟨by rfl, ?_⟩) ?_ ?_
  rotate_left
  · intro w'
    go_simp
    with_reducible rfl
  rotate_left
  · simp only [Act.put, List.setIfInBounds_toArray, List.set_cons_zero, List.set_cons_succ, i64_w, i32_w]
    rfl
  refine take_ (i := 1) (N := some 6) (v := ?_) (a' := ?_) #[true, true, true, false, false, true, false, true, false, false, false, false, false] rfl rfl (take_ofW HT_.out HW_.out (by kernel_rfl)) (fun _ _ _ h => h) (Or.inl ⟨by rfl, ?_⟩) hHeld ?_ ?_
  rotate_left
  · rintro w' ⟨s0, s1, s2, s3⟩
    go_simp
    with_reducible rfl
  rotate_left
  · simp only [Act.put, List.setIfInBounds_toArray, List.set_cons_zero, List.set_cons_succ, i64_w, i32_w]
    rfl
  refine take_ (i := 3) (N := some 8) (v := ?_) (a' := ?_) #[true, true, true, true, false, true, false, true, false, false, false, false, false] rfl rfl (take_ofW HT_.out HW_.out (by kernel_rfl)) (fun _ _ _ h => h) (Or.inl ⟨by rfl, ?_⟩) hHeld ?_ ?_
  rotate_left
  · rintro w' ⟨s0, s1, s2, s3⟩
    go_simp
    with_reducible rfl
  rotate_left
  · simp only [Act.put, List.setIfInBounds_toArray, List.set_cons_zero, List.set_cons_succ, i64_w, i32_w]
    rfl
  refine take_ (i := 6) (N := some 11) (v := ?_) (a' := ?_) #[true, true, true, true, false, true, true, true, false, false, false, false, false] rfl rfl (take_ofW HT_.out HW_.out (by kernel_rfl)) (fun _ _ _ h => h) (Or.inl ⟨by rfl, ?_⟩) hHeld ?_ ?_
  rotate_left
  · rintro w' ⟨s0, s1, s2, s3⟩
    go_simp
    with_reducible rfl
  rotate_left
  · simp only [Act.put, List.setIfInBounds_toArray, List.set_cons_zero, List.set_cons_succ, i64_w, i32_w]
    rfl
  refine take_ (i := 8) (N := some 13) (v := ?_) (a' := ?_) #[true, true, true, true, false, true, true, true, true, false, false, false, false] rfl rfl (take_ofW HT_.out HW_.out (by kernel_rfl)) (fun _ _ _ h => h) (Or.inl ⟨by rfl, ?_⟩) hHeld ?_ ?_
  rotate_left
  · rintro w' ⟨s0, s1, s2, s3⟩
    go_simp
    with_reducible rfl
  rotate_left
  · simp only [Act.put, List.setIfInBounds_toArray, List.set_cons_zero, List.set_cons_succ, i64_w, i32_w]
    rfl
  refine one_ (i := 4) (N := some 9) #[true, true, true, true, true, true, true, true, true, false, false, false, false] rfl rfl (one_of HT_.out (by kernel_rfl)) (by decide) (fun K hK => ?_)
  refine goes_ Try.func100 (by kernel_rfl) rfl #[.int .i64 a0_0, .int .i64 a1_0] (by rfl) rfl rfl (by (try simp only [List.map_toArray, List.map_cons, List.map_nil]); first | done | rfl | (simp only [List.length_drop, List.length_take]; rfl)) ?_
  with_reducible refine (cmp_Compare_int.calls a0_0 a1_0 t163 _ A3.out).mono ?_
  rintro e w' ⟨rfl, ⟨nd, rfl⟩⟩
  refine ⟨_, rfl, ?_⟩
  refine hK.out _ _ ⟨(blk_cell BK161.out 0).trans rfl, (blk_cell BK161.out 1).trans rfl, (blk_cell BK162.out 0).trans rfl, (blk_cell BK162.out 1).trans rfl⟩ (fun hHeld => ?_)
  clear hK K
  refine norm_ (a' := ?_) ?_ ?_
  rotate_left
  · show Act.put _ (some 9) _ = _
    simp only [Act.put, List.setIfInBounds_toArray, List.set_cons_zero, List.set_cons_succ, i64_w, i32_w]
    rfl
  refine one_ (i := 9) (N := some 14) #[true, true, true, true, true, true, true, true, true, true, false, false, false] rfl rfl (one_of HT_.out (by kernel_rfl)) (by decide) (fun K hK => ?_)
  refine goes_ Try.func100 (by kernel_rfl) rfl #[.int .i64 a0_1, .int .i64 a1_1] (by rfl) rfl rfl (by (try simp only [List.map_toArray, List.map_cons, List.map_nil]); first | done | rfl | (simp only [List.length_drop, List.length_take]; rfl)) ?_
  with_reducible refine (cmp_Compare_int.calls a0_1 a1_1 t164 _ A4.out).mono ?_
  rintro e w' ⟨rfl, ⟨nd, rfl⟩⟩
  refine ⟨_, rfl, ?_⟩
  refine hK.out _ _ ⟨(blk_cell BK161.out 0).trans rfl, (blk_cell BK161.out 1).trans rfl, (blk_cell BK162.out 0).trans rfl, (blk_cell BK162.out 1).trans rfl⟩ (fun hHeld => ?_)
  clear hK K
  refine norm_ (a' := ?_) ?_ ?_
  rotate_left
  · show Act.put _ (some 14) _ = _
    simp only [Act.put, List.setIfInBounds_toArray, List.set_cons_zero, List.set_cons_succ, i64_w, i32_w]
    rfl
  refine one_ (i := 10) (N := some 15) #[true, true, true, true, true, true, true, true, true, true, true, false, false] rfl rfl (one_of HT_.out (by kernel_rfl)) (by decide) (fun K hK => ?_)
  refine Kd.R_lit_step (Kd.int .i64) _ 3 ?hg (N := 15) ?hd (xs := ([t163, t164] : List Int)) (inner := [.int .i64 t163, .int .i64 t164]) (ok := fun _ => True) (okp := fun _ => True) ?hr ?hp (fun _ hk => hk) trivial (Below.refl _ _) (Nat.le_refl _) (by simp) ?_; (case hd => rfl); (case hg => rfl); (case hr => first | (go_simp; done) | (go_simp; rfl)); (case hp => exact (Reps.one (show Kd.M (Kd.int .i64) _ _ _ t163 [.int .i64 t163] from rfl) (Reps.one (show Kd.M (Kd.int .i64) _ _ _ t164 [.int .i64 t164] from rfl) (Reps.none _ _))))
  intro v166 w9 ho10 hb hg_ hnew_
  clear hg_ hnew_
  (first | rw [← Ny165.out] at ho10 | (simp only [Int.reduceToNat] at ho10; rw [← Ny165.out] at ho10))
  have n0_ := Aside0.mk (Kd.R_lower ho10 (below_size (by repeat (first | (with_reducible first | exact HB.out | apply below_alloc | apply pw_below_drewN | apply below_drew1 | refine below_set ?_ GE161.out | refine below_set ?_ GE162.out) | exact HB.out))))
  have n1_ := Aside0.mk (blk_below (g := gb161) (o := .cells #[.int .i64 a0_0, .int .i64 a0_1] 60 (0, 0)) (by (with_reducible repeat (first | refine blk_drewN ?_ _ | refine blk_drew ?_ | refine blk_alloc ?_ _)); exact BK161.out) hb)
  have n2_ := Aside0.mk (blk_below (g := gb162) (o := .cells #[.int .i64 a1_0, .int .i64 a1_1] 60 (0, 0)) (by (with_reducible repeat (first | refine blk_drewN ?_ _ | refine blk_drew ?_ | refine blk_alloc ?_ _)); exact BK162.out) hb)
  have n3_ := Aside0.mk (below_step (by repeat (first | (with_reducible first | exact HB.out | apply below_alloc | apply pw_below_drewN | apply below_drew1 | refine below_set ?_ GE161.out | refine below_set ?_ GE162.out) | exact HB.out)) hb)
  clear BK161
  clear BK162
  clear HB
  have HO167 := n0_
  have BK161 := n1_
  have BK162 := n2_
  have HB := n3_
  clear n0_ n1_ n2_ n3_
  clear hb ho10
  obtain ⟨Ao11, co11, eo11⟩ := Kd.R_slice HO167.out
  (first | subst eo11 | (injection eo11 with f1_ f2_ f3_; have f4_ := f1_.symm; have f5_ := f3_.symm; clear f1_ f2_ f3_; subst f4_; subst f5_))
  refine hK.out _ _ ⟨(blk_cell BK161.out 0).trans rfl, (blk_cell BK161.out 1).trans rfl, (blk_cell BK162.out 0).trans rfl, (blk_cell BK162.out 1).trans rfl⟩ (fun hHeld => ?_)
  clear hK K
  refine norm_ (a' := ?_) ?_ ?_
  rotate_left
  · show Act.put _ (some 15) _ = _
    simp only [Act.put, List.setIfInBounds_toArray, List.set_cons_zero, List.set_cons_succ, i64_w, i32_w]
    rfl
  refine one_ (i := 11) (N := some 16) #[true, true, true, true, true, true, true, true, true, true, true, true, false] rfl rfl (one_of HT_.out (by kernel_rfl)) (by decide) (fun K hK => ?_)
  refine goes_ Try.func99 (by kernel_rfl) rfl #[.slice Ao11 y165.length co11] (by rfl) rfl rfl (by (try simp only [List.map_toArray, List.map_cons, List.map_nil]); first | done | rfl | (simp only [List.length_drop, List.length_take]; rfl)) ?_
  with_reducible refine (cmp_Or_int.calls k _ _ y165 t168 _ ?side1 ?side2 A5.out).mono ?_
  (case side1 => repeat (first | exact (Kd.R_reads' HO167.out).2.2 | (with_reducible refine Kd.C_alloc ?_ _) | (with_reducible refine Kd.C_drewN ?_ _) | (with_reducible refine Kd.C_drew ?_)))
  (case side2 => exact (Kd.R_reads' HO167.out).2.1)
  rintro e w' ⟨rfl, ⟨nd, rfl⟩⟩
  refine ⟨_, rfl, ?_⟩
  refine hK.out _ _ ⟨(blk_cell BK161.out 0).trans rfl, (blk_cell BK161.out 1).trans rfl, (blk_cell BK162.out 0).trans rfl, (blk_cell BK162.out 1).trans rfl⟩ (fun hHeld => ?_)
  clear hK K
  refine norm_ (a' := ?_) ?_ ?_
  rotate_left
  · show Act.put _ (some 16) _ = _
    simp only [Act.put, List.setIfInBounds_toArray, List.set_cons_zero, List.set_cons_succ, i64_w, i32_w]
    rfl
  refine pure_ (i := 12) (N := some 4) (v := ?_) (a' := ?_) #[true, true, true, true, true, true, true, true, true, true, true, true, true] rfl rfl (any_of HT_.out (by kernel_rfl)) (fun _ _ _ h => h) (Or.inl ⟨by rfl, ?_⟩) ?_ ?_
  rotate_left
  · intro w'
    go_simp
    with_reducible rfl
  rotate_left
  · simp only [Act.put, List.setIfInBounds_toArray, List.set_cons_zero, List.set_cons_succ, i64_w, i32_w]
    rfl
  refine done_ (done_of HT_.out (by kernel_rfl)) ?_
  try go_wp2
  go_ret
  exact ⟨by first | rfl | (simp [errW_none, errW_some] <;> rfl) | (simp [*, errW_none, errW_some] <;> rfl), by repeat (first | (with_reducible first | exact HB.out | apply below_alloc | apply pw_below_drewN | apply below_drew1 | refine below_set ?_ GE161.out | refine below_set ?_ GE162.out) | exact HB.out)⟩

end Go.Proofs.Ytijhoifcpijeiaa.Pr

/- What the comparison of two chords does to the world: it draws, and lays blocks of its own, nothing else. -/
namespace Go.Proofs.Ytijhoifcpijeiaa.Pr
open Go.RowKit Go.Proofs.YtijhoifcpijeiaaW.PrintWords Go.Proofs.YtijhoifcpijeiaaW.PrintLast Go.Proofs.YtijhoifcpijeiaaW.PrintMore
set_option linter.unusedVariables false
set_option linter.unusedSimpArgs false

def Gr (w w' : World) : Prop := ∃ q os', w' = Sort.grow (w.drewN q) os'
theorem Gr.refl (w : World) : Gr w w := ⟨0, #[], by simp [Sort.grow, World.drewN]⟩
theorem Gr.drewN {w w' : World} (h : Gr w w') (n : Nat) : Gr w (w'.drewN n) := by
  obtain ⟨q, os, rfl⟩ := h
  exact ⟨q + n, os, by simp [Sort.grow, World.drewN, Nat.add_assoc]⟩
theorem Gr.drew {w w' : World} (h : Gr w w') : Gr w w'.drew := h.drewN 1
theorem Gr.alloc {w w' : World} (h : Gr w w') (o : Obj) : Gr w (w'.alloc o) := by
  obtain ⟨q, os, rfl⟩ := h
  exact ⟨q, os ++ #[o], by rw [Sort.alloc_eq_grow, Sort.grow_grow]⟩

theorem two_reads (X : World) (a b : Int) : Kd.C (Kd.int .i64) (X.alloc (.cells #[.int .i64 a, .int .i64 b] 3)) (some ⟨X.heap.size, 0, none⟩) 2 [a, b] := by
  refine ⟨rfl, by simp, fun _ => ⟨_, rfl, fun j p hj => ⟨[.int .i64 p], rfl, rfl, fun i u hu => ?_⟩⟩⟩
  have hi : i = 0 := by
    have := (List.getElem?_eq_some_iff.1 hu).1
    simp at this
    exact this
  subst hi
  obtain rfl := Option.some.inj hu
  have h0 : (X.alloc (.cells #[.int .i64 a, .int .i64 b] 3)).cell? ⟨X.heap.size, 0, none⟩ = some (.int .i64 a) := by simp
  have h1 : (X.alloc (.cells #[.int .i64 a, .int .i64 b] 3)).cell? ⟨X.heap.size, 1, none⟩ = some (.int .i64 b) := by simp
  match j, hj with
  | 0, hj => (obtain rfl := Option.some.inj hj; exact h0)
  | 1, hj => (obtain rfl := Option.some.inj hj; exact h1)
  | j + 2, hj => simp at hj

set_option maxHeartbeats 8000000 in
set_option maxRecDepth 100000 in
theorem compareChords_grow (k : Nat) (x y : S60) (t163 t164 t168 : Int) (w : World) (h1 : cmp_Compare_int.f x.f0 y.f0 = some t163) (h2 : cmp_Compare_int.f x.f1 y.f1 = some t164) (h3 : cmp_Or_int.f k [t163, t164] = some t168) :
    Calls Try.prog 93 #[.agg #[.int .i64 x.f0, .int .i64 x.f1], .agg #[.int .i64 y.f0, .int .i64 y.f1]] w fun e w' => e = .returned (.int .i64 t168) ∧ Gr w w' := by
  have hu60 := Try.underlying60
  have A3 := Aside0.mk h1
  have A4 := Aside0.mk h2
  have A5 := Aside0.mk h3
  clear h1 h2 h3
  go_enter Try.func93, Try.ntmps93
  go_wp2
  obtain ⟨W7, hW7⟩ : ∃ W7, (w.alloc (.cells #[.int .i64 x.f0, .int .i64 x.f1] 60)).alloc (.cells #[.int .i64 y.f0, .int .i64 y.f1] 60) = W7 := ⟨_, rfl⟩
  have G7 := Aside0.mk (show Gr w W7 from hW7 ▸ ((Gr.refl w).alloc _).alloc _)
  have FA0 : W7.cell? ⟨w.heap.size, 0, none⟩ = some (.int .i64 x.f0) := by rw [← hW7]; simp
  have FA1 : W7.cell? ⟨w.heap.size, 1, none⟩ = some (.int .i64 x.f1) := by rw [← hW7]; simp
  have FB0 : W7.cell? ⟨w.heap.size + 1, 0, none⟩ = some (.int .i64 y.f0) := by rw [← hW7]; simp
  have FB1 : W7.cell? ⟨w.heap.size + 1, 1, none⟩ = some (.int .i64 y.f1) := by rw [← hW7]; simp
  rw [hW7]
  clear hW7
  refine start_ (n := 13) (S := fun w' => w'.cell? ⟨w.heap.size, 0, none⟩ = some (.int .i64 x.f0) ∧ w'.cell? ⟨w.heap.size, 1, none⟩ = some (.int .i64 x.f1) ∧ w'.cell? ⟨(w.heap.size + 1), 0, none⟩ = some (.int .i64 y.f0) ∧ w'.cell? ⟨(w.heap.size + 1), 1, none⟩ = some (.int .i64 y.f1)) (ds := []) #[false, false, false, false, false, false, false, false, false, false, false, false, false] (by kernel_rfl) rfl rfl ⟨FA0, FA1, FB0, FB1⟩ (fun hHeld => ?_); refine with_tabW impl_compareChords.tab1 impl_compareChords.bits1 (fun HT_ HW_ => ?_)
  refine pure_ (i := 0) (N := some 5) (v := ?_) (a' := ?_) #[true, false, false, false, false, false, false, false, false, false, false, false, false] rfl rfl (any_of HT_.out (by kernel_rfl)) (fun _ _ _ h => h) (Or.inl ⟨by rfl, ?_⟩) ?_ ?_
  rotate_left
  · intro w'
    go_simp
    with_reducible rfl
  rotate_left
  · simp only [Act.put, List.setIfInBounds_toArray, List.set_cons_zero, List.set_cons_succ, i64_w, i32_w]
    rfl
  refine pure_ (i := 2) (N := some 7) (v := ?_) (a' := ?_) #[true, false, true, false, false, false, false, false, false, false, false, false, false] rfl rfl (any_of HT_.out (by kernel_rfl)) (fun _ _ _ h => h) (Or.inl ⟨by rfl, ?_⟩) ?_ ?_
  rotate_left
  · intro w'
    go_simp
    with_reducible rfl
  rotate_left
  · simp only [Act.put, List.setIfInBounds_toArray, List.set_cons_zero, List.set_cons_succ, i64_w, i32_w]
    rfl
  refine pure_ (i := 5) (N := some 10) (v := ?_) (a' := ?_) #[true, false, true, false, false, true, false, false, false, false, false, false, false] rfl rfl (any_of HT_.out (by kernel_rfl)) (fun _ _ _ h => h) (Or.inl ⟨by rfl, ?_⟩) ?_ ?_
  rotate_left
  · intro w'
    go_simp
    with_reducible rfl
  rotate_left
  · simp only [Act.put, List.setIfInBounds_toArray, List.set_cons_zero, List.set_cons_succ, i64_w, i32_w]
    rfl
  refine pure_ (i := 7) (N := some 12) (v := ?_) (a' := ?_) #[true, false, true, false, false, true, false, true, false, false, false, false, false] rfl rfl (any_of HT_.out (by kernel_rfl)) (fun _ _ _ h => h) (Or.inl ⟨by rfl, ?_⟩) ?_ ?_
  rotate_left
  · intro w'
    go_simp
    with_reducible rfl
  rotate_left
  · simp only [Act.put, List.setIfInBounds_toArray, List.set_cons_zero, List.set_cons_succ, i64_w, i32_w]
    rfl
  refine take_ (i := 1) (N := some 6) (v := ?_) (a' := ?_) #[true, true, true, false, false, true, false, true, false, false, false, false, false] rfl rfl (take_ofW HT_.out HW_.out (by kernel_rfl)) (fun _ _ _ h => h) (Or.inl ⟨by rfl, ?_⟩) hHeld ?_ ?_
  rotate_left
  · rintro w' ⟨s0, s1, s2, s3⟩
    go_simp
    with_reducible rfl
  rotate_left
  · simp only [Act.put, List.setIfInBounds_toArray, List.set_cons_zero, List.set_cons_succ, i64_w, i32_w]
    rfl
  refine take_ (i := 3) (N := some 8) (v := ?_) (a' := ?_) #[true, true, true, true, false, true, false, true, false, false, false, false, false] rfl rfl (take_ofW HT_.out HW_.out (by kernel_rfl)) (fun _ _ _ h => h) (Or.inl ⟨by rfl, ?_⟩) hHeld ?_ ?_
  rotate_left
  · rintro w' ⟨s0, s1, s2, s3⟩
    go_simp
    with_reducible rfl
  rotate_left
  · simp only [Act.put, List.setIfInBounds_toArray, List.set_cons_zero, List.set_cons_succ, i64_w, i32_w]
    rfl
  refine take_ (i := 6) (N := some 11) (v := ?_) (a' := ?_) #[true, true, true, true, false, true, true, true, false, false, false, false, false] rfl rfl (take_ofW HT_.out HW_.out (by kernel_rfl)) (fun _ _ _ h => h) (Or.inl ⟨by rfl, ?_⟩) hHeld ?_ ?_
  rotate_left
  · rintro w' ⟨s0, s1, s2, s3⟩
    go_simp
    with_reducible rfl
  rotate_left
  · simp only [Act.put, List.setIfInBounds_toArray, List.set_cons_zero, List.set_cons_succ, i64_w, i32_w]
    rfl
  refine take_ (i := 8) (N := some 13) (v := ?_) (a' := ?_) #[true, true, true, true, false, true, true, true, true, false, false, false, false] rfl rfl (take_ofW HT_.out HW_.out (by kernel_rfl)) (fun _ _ _ h => h) (Or.inl ⟨by rfl, ?_⟩) hHeld ?_ ?_
  rotate_left
  · rintro w' ⟨s0, s1, s2, s3⟩
    go_simp
    with_reducible rfl
  rotate_left
  · simp only [Act.put, List.setIfInBounds_toArray, List.set_cons_zero, List.set_cons_succ, i64_w, i32_w]
    rfl
  refine one_ (i := 4) (N := some 9) #[true, true, true, true, true, true, true, true, true, false, false, false, false] rfl rfl (one_of HT_.out (by kernel_rfl)) (by decide) (fun K hK => ?_)
  refine goes_ Try.func100 (by kernel_rfl) rfl #[.int .i64 x.f0, .int .i64 y.f0] (by rfl) rfl rfl (by (try simp only [List.map_toArray, List.map_cons, List.map_nil]); first | done | rfl | (simp only [List.length_drop, List.length_take]; rfl)) ?_
  with_reducible refine (cmp_Compare_int.calls x.f0 y.f0 t163 _ A3.out).mono ?_
  rintro e w' ⟨rfl, ⟨nd1, rfl⟩⟩
  refine ⟨_, rfl, ?_⟩
  refine hK.out _ _ ⟨FA0, FA1, FB0, FB1⟩ (fun hHeld => ?_)
  clear hK K
  refine norm_ (a' := ?_) ?_ ?_
  rotate_left
  · show Act.put _ (some 9) _ = _
    simp only [Act.put, List.setIfInBounds_toArray, List.set_cons_zero, List.set_cons_succ, i64_w, i32_w]
    rfl
  refine one_ (i := 9) (N := some 14) #[true, true, true, true, true, true, true, true, true, true, false, false, false] rfl rfl (one_of HT_.out (by kernel_rfl)) (by decide) (fun K hK => ?_)
  refine goes_ Try.func100 (by kernel_rfl) rfl #[.int .i64 x.f1, .int .i64 y.f1] (by rfl) rfl rfl (by (try simp only [List.map_toArray, List.map_cons, List.map_nil]); first | done | rfl | (simp only [List.length_drop, List.length_take]; rfl)) ?_
  with_reducible refine (cmp_Compare_int.calls x.f1 y.f1 t164 _ A4.out).mono ?_
  rintro e w' ⟨rfl, ⟨nd, rfl⟩⟩
  refine ⟨_, rfl, ?_⟩
  refine hK.out _ _ ⟨FA0, FA1, FB0, FB1⟩ (fun hHeld => ?_)
  clear hK K
  refine norm_ (a' := ?_) ?_ ?_
  rotate_left
  · show Act.put _ (some 14) _ = _
    simp only [Act.put, List.setIfInBounds_toArray, List.set_cons_zero, List.set_cons_succ, i64_w, i32_w]
    rfl
  refine one_ (i := 10) (N := some 15) #[true, true, true, true, true, true, true, true, true, true, true, false, false] rfl rfl (one_of HT_.out (by kernel_rfl)) (by decide) (fun K hK => ?_)
  have FL : ∀ (X : World) (o : Obj) {ad : Addr} {v : Value}, X.cell? ad = some v → (X.alloc o).cell? ad = some v := fun X o {ad v} h => Lib.cell?_alloc_some _ h
  refine event_step (v := .slice (some ⟨W7.heap.size, 0, none⟩) 2 2) (w1 := ((W7.drew.drewN nd1).drewN nd).alloc (.cells #[.int .i64 t163, .int .i64 t164] 3)) (by rfl) ?hr ?_
  (case hr => first | (go_simp; done) | (go_simp; rfl))
  refine hK.out _ _ ⟨FL _ _ FA0, FL _ _ FA1, FL _ _ FB0, FL _ _ FB1⟩ (fun hHeld => ?_)
  clear hK K
  refine norm_ (a' := ?_) ?_ ?_
  rotate_left
  · show Act.put _ (some 15) _ = _
    simp only [Act.put, List.setIfInBounds_toArray, List.set_cons_zero, List.set_cons_succ, i64_w, i32_w]
    rfl
  refine one_ (i := 11) (N := some 16) #[true, true, true, true, true, true, true, true, true, true, true, true, false] rfl rfl (one_of HT_.out (by kernel_rfl)) (by decide) (fun K hK => ?_)
  refine goes_ Try.func99 (by kernel_rfl) rfl #[.slice (some ⟨W7.heap.size, 0, none⟩) 2 2] (by rfl) rfl rfl (by (try simp only [List.map_toArray, List.map_cons, List.map_nil]); first | done | rfl | (simp only [List.length_drop, List.length_take]; rfl)) ?_
  refine (cmp_Or_int.calls k (some ⟨W7.heap.size, 0, none⟩) 2 [t163, t164] t168 _ ?side1 (by simp) A5.out).mono ?_
  (case side1 => exact two_reads _ t163 t164)
  rintro e w' ⟨rfl, ⟨nd, rfl⟩⟩
  refine ⟨_, rfl, ?_⟩
  refine hK.out _ _ ⟨FL _ _ FA0, FL _ _ FA1, FL _ _ FB0, FL _ _ FB1⟩ (fun hHeld => ?_)
  clear hK K
  refine norm_ (a' := ?_) ?_ ?_
  rotate_left
  · show Act.put _ (some 16) _ = _
    simp only [Act.put, List.setIfInBounds_toArray, List.set_cons_zero, List.set_cons_succ, i64_w, i32_w]
    rfl
  refine pure_ (i := 12) (N := some 4) (v := ?_) (a' := ?_) #[true, true, true, true, true, true, true, true, true, true, true, true, true] rfl rfl (any_of HT_.out (by kernel_rfl)) (fun _ _ _ h => h) (Or.inl ⟨by rfl, ?_⟩) ?_ ?_
  rotate_left
  · intro w'
    go_simp
    with_reducible rfl
  rotate_left
  · simp only [Act.put, List.setIfInBounds_toArray, List.set_cons_zero, List.set_cons_succ, i64_w, i32_w]
    rfl
  refine done_ (done_of HT_.out (by kernel_rfl)) ?_
  try go_wp2
  go_ret
  exact ⟨rfl, by repeat (first | exact G7.out | apply Gr.drewN | apply Gr.drew | apply Gr.alloc)⟩
end Go.Proofs.Ytijhoifcpijeiaa.Pr

/- A row of chords of the call's own, laid open cell by cell and put together again. -/
namespace Go.Proofs.Ytijhoifcpijeiaa.Pr
open Go.RowKit Go.Sort Go.Proofs.YtijhoifcpijeiaaW.PrintWords Go.Proofs.YtijhoifcpijeiaaW.PrintLast Go.Proofs.YtijhoifcpijeiaaW.PrintMore
set_option linter.unusedVariables false
set_option linter.unusedSimpArgs false

instance : Inhabited S60 := ⟨z60⟩
instance : DecidableEq S60 := fun x y =>
  match x, y with
  | ⟨a, b⟩, ⟨c, d⟩ => if h : a = c ∧ b = d then isTrue (by rw [h.1, h.2]) else isFalse (fun e => h (by injection e with e1 e2; exact ⟨e1, e2⟩))
def encL (x : S60) : List Value := [.int .i64 x.f0, .int .i64 x.f1]
theorem encL_length (x : S60) : (encL x).length = 2 := rfl
/-- The cells of the elements. -/
def RowAt (W : World) (g : Nat) (xs : List S60) : Prop := ∀ i (h : i < xs.length), W.cell? ⟨g, i * 2, none⟩ = some (.int .i64 xs[i].f0) ∧ W.cell? ⟨g, i * 2 + 1, none⟩ = some (.int .i64 xs[i].f1)

theorem holds_of {W : World} {g : Nat} {xs : List S60} (hc : RowAt W g xs) (hf : ∀ j, W.frozen? ⟨g, j, none⟩ = false) : HoldsK encL 2 W g 0 xs.toArray := fun j hj => by
  have hj' : j < xs.length * 2 := by simpa using hj
  rw [Nat.zero_add]
  refine ⟨?_, hf j⟩
  rw [get_flatK _ _ _ _ (by simpa using hj')]
  have hd : j / 2 < xs.length := by omega
  have e : xs.toArray[j / 2]! = xs[j / 2] := by simp [hd]
  rw [e]
  obtain ⟨h1, h2⟩ := hc (j / 2) hd
  rcases Nat.mod_two_eq_zero_or_one j with hm | hm
  · rw [hm]
    have e2 : (⟨g, j, none⟩ : Addr) = ⟨g, j / 2 * 2, none⟩ := by congr 1; omega
    rw [e2]
    exact h1
  · rw [hm]
    have e2 : (⟨g, j, none⟩ : Addr) = ⟨g, j / 2 * 2 + 1, none⟩ := by congr 1; omega
    rw [e2]
    exact h2
theorem row_of_holds {W : World} {g : Nat} {d : Array S60} (h : HoldsK encL 2 W g 0 d) : RowAt W g d.toList := fun i hi => by
  have hi' : i < d.size := by simpa using hi
  have h0 := (HoldsK.cell h hi' (show 0 < 2 by omega)).1
  have h1 := (HoldsK.cell h hi' (show 1 < 2 by omega)).1
  rw [Nat.zero_add, getElem!_pos d i hi'] at h0 h1
  have e : d.toList[i] = d[i] := by simp
  rw [e]
  exact ⟨h0, h1⟩

/-- A row that is the call's own: empty, or a block whose first cells are the elements'. -/
theorem open_own {W : World} {base : Nat} {ok : Nat → Prop} {v : Value} {xs : List S60} (h : Kd.R k60 60 W base ok v xs) :
    (v = .slice none 0 0 ∧ xs = []) ∨ ∃ g cap cur, v = .slice (some ⟨g, 0, none⟩) xs.length cap ∧ ok g ∧ base ≤ g ∧ W.heap[g]? = some (.cells cur 60 (0, 0)) ∧ xs.length ≤ cap ∧ cap ≤ maxLen ∧ cur.size = cap * 2 ∧ RowAt W g xs := by
  obtain ⟨h0, inner, ho, hr⟩ := h
  obtain ⟨hl, hv⟩ := ho
  rcases hv with ⟨rfl, hn⟩ | ⟨g, cap, cur, rfl, hg, hb, hn, hm, hs, ht⟩
  · exact .inl ⟨rfl, List.eq_nil_of_length_eq_zero hn⟩
  · refine .inr ⟨g, cap, cur, rfl, h0 g rfl, hg, hb, hn, hm, hs, fun i hi => ?_⟩
    have hk2 := k60_openM (hr.2 i xs[i] (List.getElem?_eq_getElem hi))
    have hsz : k60.sz = 2 := rfl
    rw [hsz] at hk2 ht
    have e0 : ((inner.drop (i * 2)).take 2)[0]? = some (.int .i64 xs[i].f0) := by rw [hk2]; rfl
    have e1 : ((inner.drop (i * 2)).take 2)[1]? = some (.int .i64 xs[i].f1) := by rw [hk2]; rfl
    rw [List.getElem?_take_of_lt (by omega), List.getElem?_drop] at e0 e1
    have hq : ∀ q, q < xs.length * 2 → W.cell? ⟨g, q, none⟩ = inner[q]? := by
      intro q hq
      rw [blk_cell hb q, ← ht, List.getElem?_take_of_lt hq]
      simp
    exact ⟨by rw [hq _ (by omega)]; simpa using e0, by rw [hq _ (by omega)]; exact e1⟩

theorem shut_own {W : World} {base g cap : Nat} {ok : Nat → Prop} {cur : Array Value} {zs : List S60} (hok : ok g) (hg : base ≤ g) (hb : W.heap[g]? = some (.cells cur 60 (0, 0))) (hn : zs.length ≤ cap) (hm : cap ≤ maxLen) (hs : cur.size = cap * 2)
    (hc : RowAt W g zs) : Kd.R k60 60 W base ok (.slice (some ⟨g, 0, none⟩) zs.length cap) zs := by
  have hle : zs.length * 2 ≤ cur.size := by rw [hs]; exact Nat.mul_le_mul_right 2 hn
  refine ⟨fun k hk => by have : g = k := by simpa [Value.ownBlock] using hk
                         subst this; exact hok, cur.toList.take (zs.length * 2), ⟨?_, .inr ⟨g, cap, cur, rfl, hg, hb, hn, hm, hs, rfl⟩⟩, ?_, fun j p hj => ?_⟩
  · show (cur.toList.take (zs.length * 2)).length = zs.length * 2
    rw [List.length_take]
    exact Nat.min_eq_left (by rw [Array.length_toList]; exact hle)
  · show (cur.toList.take (zs.length * 2)).length = zs.length * 2
    rw [List.length_take]
    exact Nat.min_eq_left (by rw [Array.length_toList]; exact hle)
  · obtain ⟨hjl, rfl⟩ := List.getElem?_eq_some_iff.1 hj
    obtain ⟨h0, h1⟩ := hc j hjl
    rw [blk_cell hb] at h0 h1
    have hsz : k60.sz = 2 := rfl
    rw [hsz]
    have e : ((cur.toList.take (zs.length * 2)).drop (j * 2)).take 2 = [.int .i64 zs[j].f0, .int .i64 zs[j].f1] := by
      apply List.ext_getElem?
      intro q
      match q with
      | 0 =>
        rw [List.getElem?_take_of_lt (by omega), List.getElem?_drop, List.getElem?_take_of_lt (by omega)]
        simpa using h0
      | 1 =>
        rw [List.getElem?_take_of_lt (by omega), List.getElem?_drop, List.getElem?_take_of_lt (by omega)]
        simpa using h1
      | q + 2 =>
        rw [List.getElem?_eq_none (by rw [List.length_take]; omega), List.getElem?_eq_none (by simp)]
    rw [e]
    exact k60_mkM _ _ _ _
end Go.Proofs.Ytijhoifcpijeiaa.Pr

/- What slices.Compact does to a row of chords of the call's own: the first of each run is kept. -/
namespace Go.Proofs.Ytijhoifcpijeiaa.Pr
open Go.RowKit Go.Sort Go.Lib Go.Proofs.YtijhoifcpijeiaaW.PrintWords Go.Proofs.YtijhoifcpijeiaaW.PrintLast Go.Proofs.YtijhoifcpijeiaaW.PrintMore
set_option linter.unusedVariables false
set_option linter.unusedSimpArgs false
attribute [local go_sem high] eqA60

theorem setMany_one (d : Array S60) (i : Nat) (x : S60) (hi : i < d.size) : setMany (flatK encL 2 d) (i * 2) (encL x) = flatK encL 2 (d.setIfInBounds i x) := by
  refine ext_get! (by simp) fun t ht => ?_
  have ht' : t < d.size * 2 := by simpa using ht
  rw [get_setMany _ _ _ t (by simpa using ht'), get_flatK _ _ _ t ht', get_flatK _ _ _ t (by simpa using ht')]
  have hlen : (encL x).length = 2 := rfl
  rw [hlen]
  have hd : t / 2 < d.size := by omega
  by_cases a : t / 2 = i
  · rw [if_pos (by omega)]
    have e : (d.setIfInBounds i x)[t / 2]! = x := by rw [a]; simp [hi]
    rw [e, show t - i * 2 = t % 2 by omega]
  · rw [if_neg (by omega)]
    have e : (d.setIfInBounds i x)[t / 2]! = d[t / 2]! := by
      simp [Array.getElem!_eq_getD, Array.getD, Array.getElem_setIfInBounds, hd, Ne.symm a]
    rw [e]

theorem store_chord {w wr : World} {n blk : Nat} {dk : Array S60} {i : Nat} (hi : i < dk.size) (hwr : wr = putRowK encL 2 (Sort.ahead w n) blk 0 dk) (x : S60) :
    ((wr.drew).setCell ⟨blk, i * 2, none⟩ (.int .i64 x.f0)).setCell ⟨blk, i * 2 + 1, none⟩ (.int .i64 x.f1) = putRowK encL 2 (Sort.ahead w (n + 1)) blk 0 (dk.setIfInBounds i x) := by
  have h1 : wr.drew = putRowK encL 2 (Sort.ahead w (n + 1)) blk 0 dk := by
    have := putRowK_drewN encL 2 w n 1 blk 0 dk
    rw [← hwr] at this
    exact this
  rw [h1]
  have h2 := setCells_putRow (Sort.ahead w (n + 1)) blk 0 (encL x) (i * 2) (flatK encL 2 dk) (by rw [size_flatK]; show i * 2 + 2 ≤ _; omega)
  rw [setMany_one dk i x hi, Nat.zero_add] at h2
  exact h2

theorem eqB {x y : S60} (h : ¬ x = y) : (x.f0 == y.f0 && (x.f1 == y.f1)) = false := by
  rw [Bool.eq_false_iff]
  intro e
  simp only [Bool.and_eq_true, beq_iff_eq] at e
  obtain ⟨a, b⟩ := x
  obtain ⟨c, d⟩ := y
  exact h (by rw [show a = c from e.1, show b = d from e.2])

/-- The end of it: the cells of what is kept. -/
def CompEnd (w : World) (blk : Nat) (d : Array S60) (w' : World) : Prop :=
  ∃ q F, w' = putRow id (Sort.ahead w q) blk 0 F ∧ F.size = d.size * 2 ∧ ∀ j, j < (compactUpTo d d.size).length * 2 → F[j]! = (flatK encL 2 (compactUpTo d d.size).toArray)[j]!

theorem comp_same {w : World} {blk : Nat} {d : Array S60} (hH : HoldsK encL 2 w blk 0 d) (hall : ∀ j, j < d.size → keeps d j = true) (q : Nat) : (compactUpTo d d.size).length = d.size ∧ CompEnd w blk d (w.drewN q) := by
  have e : compactUpTo d d.size = d.toList := by rw [compactUpTo_all d _ hall, range_map_get]
  refine ⟨by rw [e]; simp, q, flatK encL 2 d, ?_, by simp, fun j hj => ?_⟩
  · exact (putRowK_self encL 2 (Sort.ahead w q) blk 0 d (holdsK_ahead encL 2 w q blk 0 d hH)).symm
  · rw [e]
def zerosCh (n : Nat) : List Value := (Builtin.zeroCells (Value.cells (.agg #[.int .i64 0, .int .i64 0])) n).toList
theorem zerosCh_length (n : Nat) : (zerosCh n).length = n * 2 := by simp [zerosCh, Builtin.zeroCells, Value.cells]
theorem run_clear_chord (w : World) (ty : TypeId) (b o n c : Nat) (hn : 0 < n) (hc : ∀ j, j < n * 2 → (w.cell? ⟨b, o + j, none⟩).isSome = true) (hf : ∀ j, j < n * 2 → w.frozen? ⟨b, o + j, none⟩ = false) :
    (Builtin.clear_ #[28] ty #[.slice (some ⟨b, o, none⟩) n c]).run Try.prog w = .ok (.tuple #[]) (w.setCells b o (zerosCh n)) := by
  have hv : ∀ w, (zeroValue 60).run Try.prog w = .ok (.agg #[.int .i64 0, .int .i64 0]) w := Try.zeroValue60
  have hone : ∀ v ∈ zerosCh n, v.oneCell' = true := by
    intro v hv
    simp [zerosCh, Builtin.zeroCells, Value.cells] at hv
    obtain ⟨i, hi, rfl⟩ := hv
    rcases Nat.mod_two_eq_zero_or_one i with h | h <;> simp [h, Value.oneCell']
  have hst := run_storeCells_cells (P := Try.prog) b o (zerosCh n) 0 w (fun j hj => by rw [Nat.add_zero]; exact hc j (by rw [zerosCh_length] at hj; exact hj)) (fun j hj => by rw [Nat.add_zero]; exact hf j (by rw [zerosCh_length] at hj; exact hj)) hone
  simp only [Nat.add_zero] at hst
  obtain ⟨m, rfl⟩ : ∃ m, n = m + 1 := ⟨n - 1, by omega⟩
  unfold zerosCh at hst ⊢
  simp [Builtin.clear_, run_underlying Try.underlying28, hv, hst]
theorem comp_end {w wr : World} {blk q2 kk : Nat} {d dk : Array S60} (hkk : kk ≤ d.size) (W2 : wr = putRowK encL 2 (Sort.ahead w q2) blk 0 dk) (I : CompInv d d.size kk dk) : CompEnd w blk d (wr.setCells blk (kk * 2) (zerosCh (d.size - kk))) := by
  have hsz := I.size
  refine ⟨q2, setMany (flatK encL 2 dk) (kk * 2) (zerosCh (d.size - kk)), ?_, by simp [hsz], fun j hj => ?_⟩
  · have h2 := setCells_putRow (Sort.ahead w q2) blk 0 (zerosCh (d.size - kk)) (kk * 2) (flatK encL 2 dk) (by rw [size_flatK, zerosCh_length]; omega)
    rw [Nat.zero_add] at h2
    rw [W2]
    exact h2
  · rw [I.len] at hj
    have hl : (compactUpTo d d.size).length = kk := I.len
    rw [get_setMany _ _ _ j (by rw [size_flatK]; omega), if_neg (by omega), get_flatK _ _ _ j (by omega), get_flatK _ _ _ j (by simp [hl]; omega)]
    have hlow := I.low (j / 2) (by omega)
    have e : (compactUpTo d d.size).toArray[j / 2]! = dk[j / 2]! := by
      have : j / 2 < (compactUpTo d d.size).length := by omega
      rw [getElem!_pos _ _ (by simpa using this)]
      rw [List.getElem?_eq_getElem this] at hlow
      simpa using Option.some.inj hlow
    rw [e]

set_option maxHeartbeats 8000000 in
set_option maxRecDepth 1000000 in
theorem compact_chord (blk cap : Nat) (d : Array S60) (w : World) (hH : HoldsK encL 2 w blk 0 d) (hsz : d.size ≤ 4611686018427387904) (hcap : d.size ≤ cap) :
    Calls Try.prog 94 #[.slice (some ⟨blk, 0, none⟩) d.size cap] w fun e w' => e = .returned (.slice (some ⟨blk, 0, none⟩) (compactUpTo d d.size).length cap) ∧ CompEnd w blk d w' := by
  have hu60 := Try.underlying60
  by_cases h2 : d.size < 2
  · obtain ⟨e1, e2⟩ := comp_same hH (fun j hj => keeps_lt_one d j (by omega)) 0
    have E1 := Aside0.mk e1
    have E2 := Aside0.mk e2
    clear e1 e2 hH
    go_enter Try.func94, Try.ntmps94
    go_wp2
    go_ret
    exact ⟨by rw [E1.out]; rfl, E2.out⟩
  · have HH := Aside0.mk hH
    clear hH
    go_enter Try.func94, Try.ntmps94
    go_wp2
    go_loopg [3] d.size (fun g s3 wr => ∃ k q : Nat, Aside0 (1 ≤ k) ∧ Aside0 (k ≤ d.size) ∧ Aside0 (d.size - k ≤ g) ∧ s3 = .int .i64 k ∧ wr = w.drewN q ∧ Aside0 (∀ j, j < k → keeps d j = true))
    case atStart => exact ⟨1, 0, ⟨Nat.le_refl _⟩, ⟨by omega⟩, ⟨by omega⟩, rfl, rfl, ⟨keeps_lt_one d⟩⟩
    case round =>
      obtain ⟨k, q, K1, K2, KG, rfl, rfl, A⟩ := hrel
      have hk1 := K1.out
      have hk := K2.out
      by_cases hlt : k < d.size
      · obtain ⟨c1, f1⟩ := HoldsK.cell HH.out hlt (show 0 < 2 by omega)
        obtain ⟨c2, f2⟩ := HoldsK.cell HH.out hlt (show 1 < 2 by omega)
        obtain ⟨b1, _⟩ := HoldsK.cell HH.out (show k - 1 < d.size by omega) (show 0 < 2 by omega)
        obtain ⟨b2, _⟩ := HoldsK.cell HH.out (show k - 1 < d.size by omega) (show 1 < 2 by omega)
        obtain ⟨x, hx⟩ : ∃ x, d[k]! = x := ⟨_, rfl⟩
        obtain ⟨y, hy⟩ : ∃ y, d[k - 1]! = y := ⟨_, rfl⟩
        rw [hx] at c1 c2
        rw [hy] at b1 b2
        have B := Aside0.mk (show d[k]! = x ∧ d[k - 1]! = y from ⟨hx, hy⟩)
        clear hx hy
        simp only [Nat.zero_add, Nat.add_zero] at c1 c2 b1 b2 f1 f2
        change w.cell? ⟨blk, k * 2, none⟩ = some (.int .i64 x.f0) at c1
        change w.cell? ⟨blk, k * 2 + 1, none⟩ = some (.int .i64 x.f1) at c2
        change w.cell? ⟨blk, (k - 1) * 2, none⟩ = some (.int .i64 y.f0) at b1
        change w.cell? ⟨blk, (k - 1) * 2 + 1, none⟩ = some (.int .i64 y.f1) at b2
        by_cases hdup : x = y
        · subst hdup
          go_wp2_with fail
          go_region
          go_wp2
          clear c1 c2 b1 b2 f1 f2
          go_loopg [3, 5] d.size (fun g s3 s5 wr => ∃ (kk k2 q2 : Nat) (dk : Array S60), s3 = .int .i64 kk ∧ s5 = .int .i64 k2 ∧ Aside0 (1 ≤ k2) ∧ Aside0 (k + k2 ≤ d.size) ∧ Aside0 (d.size - (k + k2) ≤ g) ∧ Aside0 (wr = putRowK encL 2 (Sort.ahead w q2) blk 0 dk) ∧ Aside0 (CompInv d (k + k2) kk dk))
          case atStart => exact ⟨k, 1, q + 1, d, rfl, rfl, ⟨Nat.le_refl _⟩, ⟨by omega⟩, ⟨by omega⟩, ⟨(putRowK_self encL 2 (Sort.ahead w (q + 1)) blk 0 d (holdsK_ahead encL 2 w (q + 1) blk 0 d HH.out)).symm⟩, ⟨CompInv.start A.out (keeps_neg (by omega) (by rw [B.out.1, B.out.2]))⟩⟩
          case round =>
            obtain ⟨kk, k2, q2, dk, rfl, rfl, H1, HLE, HG2, W2, I2⟩ := hrel
            have h1 := H1.out
            have hle := HLE.out
            have hkk := I2.out.lt
            have hds := I2.out.size
            have hHk : HoldsK encL 2 wr blk 0 dk := by rw [W2.out]; exact holdsK_putRowK encL 2 _ blk 0 d dk (holdsK_ahead encL 2 w q2 blk 0 d HH.out) hds
            by_cases hlt2 : k + k2 < d.size
            · obtain ⟨c1, _⟩ := HoldsK.cell hHk (show k + k2 < dk.size by omega) (show 0 < 2 by omega)
              obtain ⟨c2, _⟩ := HoldsK.cell hHk (show k + k2 < dk.size by omega) (show 1 < 2 by omega)
              obtain ⟨b1, _⟩ := HoldsK.cell hHk (show k + k2 - 1 < dk.size by omega) (show 0 < 2 by omega)
              obtain ⟨b2, _⟩ := HoldsK.cell hHk (show k + k2 - 1 < dk.size by omega) (show 1 < 2 by omega)
              obtain ⟨o1, f1⟩ := HoldsK.cell hHk (show kk < dk.size by omega) (show 0 < 2 by omega)
              obtain ⟨o2, f2⟩ := HoldsK.cell hHk (show kk < dk.size by omega) (show 1 < 2 by omega)
              rw [I2.out.high (k + k2) (by omega)] at c1 c2
              rw [I2.out.high (k + k2 - 1) (by omega)] at b1 b2
              obtain ⟨u, hu⟩ : ∃ u, d[k + k2]! = u := ⟨_, rfl⟩
              obtain ⟨v, hv⟩ : ∃ v, d[k + k2 - 1]! = v := ⟨_, rfl⟩
              obtain ⟨o, ho⟩ : ∃ o, dk[kk]! = o := ⟨_, rfl⟩
              rw [hu] at c1 c2
              rw [hv] at b1 b2
              rw [ho] at o1 o2
              have C := Aside0.mk (show d[k + k2]! = u ∧ d[k + k2 - 1]! = v from ⟨hu, hv⟩)
              clear hu hv ho hHk
              simp only [Nat.zero_add, Nat.add_zero] at c1 c2 b1 b2 o1 o2 f1 f2
              rw [show (k + k2) * 2 = k * 2 + k2 * 2 by omega] at c1 c2
              rw [show (k + k2 - 1) * 2 = k * 2 + (k2 - 1) * 2 by omega] at b1 b2
              change wr.cell? ⟨blk, k * 2 + k2 * 2, none⟩ = some (.int .i64 u.f0) at c1
              change wr.cell? ⟨blk, k * 2 + k2 * 2 + 1, none⟩ = some (.int .i64 u.f1) at c2
              change wr.cell? ⟨blk, k * 2 + (k2 - 1) * 2, none⟩ = some (.int .i64 v.f0) at b1
              change wr.cell? ⟨blk, k * 2 + (k2 - 1) * 2 + 1, none⟩ = some (.int .i64 v.f1) at b2
              change wr.cell? ⟨blk, kk * 2, none⟩ = some (.int .i64 o.f0) at o1
              change wr.cell? ⟨blk, kk * 2 + 1, none⟩ = some (.int .i64 o.f1) at o2
              by_cases huv : u = v
              · subst huv
                go_wp2_with fail
                go_region
                go_wp2
                go_roundg (d.size - (k + (k2 + 1)))
                case measure => have := HG2.out; omega
                case rel => exact ⟨kk, k2 + 1, q2 + 1, dk, rfl, by go_num, ⟨by omega⟩, ⟨by omega⟩, ⟨Nat.le_refl _⟩, ⟨by rw [W2.out]; rfl⟩, ⟨I2.out.skip (keeps_neg (by omega) (by rw [C.out.1, C.out.2]))⟩⟩
              · have hb := eqB huv
                have D := Aside0.mk huv
                clear huv
                go_wp2_with fail
                go_region
                go_wp2
                go_roundg (d.size - (k + (k2 + 1)))
                case measure => have := HG2.out; omega
                case rel => exact ⟨kk + 1, k2 + 1, q2 + 1, dk.setIfInBounds kk u, by go_num, by go_num, ⟨by omega⟩, ⟨by omega⟩, ⟨Nat.le_refl _⟩, ⟨store_chord (by omega) W2.out u⟩, ⟨by have := I2.out.keep hlt2 (keeps_pos (by rw [C.out.1, C.out.2]; exact D.out)); rwa [C.out.1] at this⟩⟩
            · have hend : k + k2 = d.size := by omega
              have hfr : ∀ j, j < (d.size - kk) * 2 → (wr.cell? ⟨blk, kk * 2 + j, none⟩).isSome = true ∧ wr.frozen? ⟨blk, kk * 2 + j, none⟩ = false := fun j hj => by
                have := hHk (kk * 2 + j) (by rw [size_flatK]; omega)
                rw [Nat.zero_add] at this
                exact ⟨by rw [this.1]; rfl, this.2⟩
              have hcl : ∀ ty, (Builtin.clear_ #[28] ty #[.slice (some ⟨blk, kk * 2, none⟩) (d.size - kk) (cap - kk)]).run Try.prog wr = .ok (.tuple #[]) (wr.setCells blk (kk * 2) (zerosCh (d.size - kk))) :=
                fun ty => run_clear_chord wr ty blk (kk * 2) (d.size - kk) (cap - kk) (by omega) (fun j hj => (hfr j hj).1) (fun j hj => (hfr j hj).2)
              have hI := I2.out
              rw [hend] at hI
              have E1 := Aside0.mk hI.len
              have E2 := Aside0.mk (comp_end (by omega) W2.out hI)
              clear hHk hfr hI I2 W2
              go_wp2
              go_ret
              exact ⟨by rw [E1.out]; rfl, E2.out⟩
        · have hb := eqB hdup
          have D := Aside0.mk hdup
          clear hdup
          go_wp2_with fail
          go_region
          go_wp2
          go_roundg (d.size - (k + 1))
          case measure => have := KG.out; omega
          case rel =>
            refine ⟨k + 1, q + 1, ⟨by omega⟩, ⟨by omega⟩, ⟨Nat.le_refl _⟩, by go_num, rfl, ⟨fun j hj => ?_⟩⟩
            by_cases e : j = k
            · subst e
              exact keeps_pos (by rw [B.out.1, B.out.2]; exact D.out)
            · exact A.out j (by omega)
      · have hkd : k = d.size := by omega
        subst hkd
        obtain ⟨e1, e2⟩ := comp_same HH.out A.out q
        have E1 := Aside0.mk e1
        have E2 := Aside0.mk e2
        clear e1 e2
        go_wp2
        go_ret
        exact ⟨by rw [E1.out]; rfl, E2.out⟩
end Go.Proofs.Ytijhoifcpijeiaa.Pr

/-
  DERIVED: THE SHELF's CONTRACTS AT THIS DUMP, IN PLAIN WORDS (tools/lay-plain.mjs out of 'YtijhoifcpijeiaaSortLay.lean', which tools/lay-shelf.mjs wrote): THE SAME DECLARATIONS UNDER THE SAME NAMES: 'import', 'namespace', 'open', 'def', 'theorem' AND NOTHING ELSE: no command of the shelf's: FOR A HAND-IN. Each laying: the table of numbers ('.._ren') and one theorem, a field a fact of the dump's own or the kernel's comparison; each contract: ONE APPLICATION.
-/
namespace Go.Proofs
open Go.Shelf
def Try.sortCh_ren : Go.Shelf.Ren := ⟨fun | 6 => 92 | 15 => 98 | 14 => 97 | 28 => 109 | 29 => 110 | 20 => 101 | 21 => 102 | 22 => 103 | 23 => 104 | 24 => 105 | 25 => 106 | 26 => 107 | 27 => 108 | 46 => 112 | 47 => 113 | 48 => 114 | 49 => 115 | 50 => 116 | 57 => 117 | n => n, fun | 22 => 28 | 24 => 60 | 25 => 86 | 3 => 3 | 39 => 90 | 0 => 0 | 53 => 100 | 55 => 102 | 4 => 4 | 46 => 94 | 45 => 93 | 50 => 22 | 5 => 5 | 9 => 9 | 66 => 103 | 70 => 107 | 76 => 109 | 77 => 110 | n => n, fun | n => n⟩
theorem Try.sortCh : Go.Proofs.SlLaysF0.n6 Try.prog Try.sortCh_ren := {
  mixed := by kernel_rfl
  f6 := ⟨Try.f92.name, by decide, Try.func92.trans (congrArg some (by kernel_rfl))⟩
  f14 := ⟨Try.f97.name, by decide, Try.func97.trans (congrArg some (by kernel_rfl))⟩
  f15 := Try.func98.trans (congrArg some (by kernel_rfl))
  f20 := ⟨Try.f101.name, by decide, Try.func101.trans (congrArg some (by kernel_rfl))⟩
  f21 := ⟨Try.f102.name, by decide, Try.func102.trans (congrArg some (by kernel_rfl))⟩
  f22 := ⟨Try.f103.name, by decide, Try.func103.trans (congrArg some (by kernel_rfl))⟩
  f23 := ⟨Try.f104.name, by decide, Try.func104.trans (congrArg some (by kernel_rfl))⟩
  f24 := ⟨Try.f105.name, by decide, Try.func105.trans (congrArg some (by kernel_rfl))⟩
  f25 := ⟨Try.f106.name, by decide, Try.func106.trans (congrArg some (by kernel_rfl))⟩
  f26 := ⟨Try.f107.name, by decide, Try.func107.trans (congrArg some (by kernel_rfl))⟩
  f27 := ⟨Try.f108.name, by decide, Try.func108.trans (congrArg some (by kernel_rfl))⟩
  f28 := Try.func109.trans (congrArg some (by kernel_rfl))
  f29 := Try.func110.trans (congrArg some (by kernel_rfl))
  f46 := ⟨Try.f112.name, by decide, Try.func112.trans (congrArg some (by kernel_rfl))⟩
  f47 := Try.func113.trans (congrArg some (by kernel_rfl))
  f48 := Try.func114.trans (congrArg some (by kernel_rfl))
  f49 := ⟨Try.f115.name, by decide, Try.func115.trans (congrArg some (by kernel_rfl))⟩
  f50 := ⟨Try.f116.name, by decide, Try.func116.trans (congrArg some (by kernel_rfl))⟩
  f57 := ⟨Try.f117.name, by decide, Try.func117.trans (congrArg some (by kernel_rfl))⟩
  t0 := Try.underlying0
  a0 := Try.isAgg0
  z0 := Try.sizeOf0
  v0 := Try.zeroValue0
  t3 := Try.underlying3
  a3 := Try.isAgg3
  z3 := Try.sizeOf3
  v3 := Try.zeroValue3
  t4 := Try.underlying4
  a4 := Try.isAgg4
  z4 := Try.sizeOf4
  v4 := Try.zeroValue4
  t5 := Try.underlying5
  a5 := Try.isAgg5
  z5 := Try.sizeOf5
  v5 := Try.zeroValue5
  t9 := Try.underlying9
  a9 := Try.isAgg9
  z9 := Try.sizeOf9
  v9 := Try.zeroValue9
  t22 := Try.underlying28
  a22 := Try.isAgg28
  z22 := Try.sizeOf28
  v22 := Try.zeroValue28
  t25 := Try.underlying86
  a25 := Try.isAgg86
  z25 := Try.sizeOf86
  v25 := Try.zeroValue86
  t39 := Try.underlying90
  a39 := Try.isAgg90
  z39 := Try.sizeOf90
  v39 := Try.zeroValue90
  t45 := Try.underlying93
  a45 := Try.isAgg93
  z45 := Try.sizeOf93
  v45 := Try.zeroValue93
  t46 := Try.underlying94
  a46 := Try.isAgg94
  z46 := Try.sizeOf94
  v46 := Try.zeroValue94
  t50 := Try.underlying22
  a50 := Try.isAgg22
  z50 := Try.sizeOf22
  v50 := Try.zeroValue22
  t53 := Try.underlying100
  a53 := Try.isAgg100
  z53 := Try.sizeOf100
  v53 := Try.zeroValue100
  t55 := Try.underlying102
  a55 := Try.isAgg102
  z55 := Try.sizeOf102
  v55 := Try.zeroValue102
  t66 := Try.underlying103
  a66 := Try.isAgg103
  z66 := Try.sizeOf103
  v66 := Try.zeroValue103
  t70 := Try.underlying107
  a70 := Try.isAgg107
  z70 := Try.sizeOf107
  v70 := Try.zeroValue107
  t76 := Try.underlying109
  a76 := Try.isAgg109
  z76 := Try.sizeOf109
  v76 := Try.zeroValue109
  t77 := Try.underlying110
  a77 := Try.isAgg110
  z77 := Try.sizeOf110
  v77 := Try.zeroValue110 }
end Go.Proofs

/- Steps for functions with a number of rounds: what holds from some number of rounds on. -/
namespace Go.Proofs.Ytijhoifcpijeiaa.M
open Go.RowKit Go.Proofs.YtijhoifcpijeiaaW.PrintWords
set_option linter.unusedVariables false
set_option linter.unusedSimpArgs false

theorem w64 {x : Int} (h0 : -9223372036854775808 ≤ x) (h1 : x ≤ 9223372036854775807) : wrap64 x = x := by
  unfold wrap64
  omega

theorem Ev.pos {α : Type} {c : Prop} [Decidable c] {A B : Nat → Option α} {r : α} (h : c) (e : Ev A r) : Ev (fun k => if c then A k else B k) r := by
  simp only [h, if_true]
  exact e
theorem Ev.neg {α : Type} {c : Prop} [Decidable c] {A B : Nat → Option α} {r : α} (h : ¬ c) (e : Ev B r) : Ev (fun k => if c then A k else B k) r := by
  simp only [h, if_false]
  exact e
theorem Ev.bindc {α β : Type} {o : Option α} {f : Nat → α → Option β} {a : α} {r : β} (h : o = some a) (e : Ev (fun k => f k a) r) : Ev (fun k => o.bind (f k)) r := by
  subst h
  exact e
theorem Ev.bindk {α β : Type} {g : Nat → Option α} {f : Nat → α → Option β} {a : α} {r : β} (h : Ev g a) (e : Ev (fun k => f k a) r) : Ev (fun k => (g k).bind (f k)) r := Ev.bind h e
theorem Ev.val {α : Type} {r r' : α} (h : r = r') : Ev (fun _ => some r) r' := by
  subst h
  exact Ev.now r
/-- Two values of one thing are one. -/
theorem Ev.uniq {α : Type} {g : Nat → Option α} {r r' : α} (h : Ev g r) (h' : Ev g r') : r = r' := by
  obtain ⟨K, h⟩ := h
  obtain ⟨K', h'⟩ := h'
  have e := (h (max K K') (Nat.le_max_left _ _)).symm.trans (h' (max K K') (Nat.le_max_right _ _))
  exact Option.some.inj e

/-- A loop over a list by its index: what is left of the list decides the answer R; P is kept. -/
theorem Ev.scan {α β γ : Type} (L : Nat → Int → β → Option γ) (xs : List α) (R : List α → β → γ) (P : Nat → β → Prop)
    (h0 : ∀ acc, P xs.length acc → Ev (fun k => L k (xs.length : Int) acc) (R [] acc))
    (h1 : ∀ (i : Nat) (h : i < xs.length) (acc : β), P i acc → (∃ acc', P (i + 1) acc' ∧ R (xs[i] :: xs.drop (i + 1)) acc = R (xs.drop (i + 1)) acc' ∧ ∀ r, Ev (fun k => L k ((i : Int) + 1) acc') r → Ev (fun k => L k (i : Int) acc) r)
      ∨ Ev (fun k => L k (i : Int) acc) (R (xs[i] :: xs.drop (i + 1)) acc)) :
    ∀ (d i : Nat) (acc : β), i + d = xs.length → P i acc → Ev (fun k => L k (i : Int) acc) (R (xs.drop i) acc) := by
  intro d
  induction d with
  | zero =>
    intro i acc hi hp
    obtain rfl : i = xs.length := by omega
    rw [List.drop_length]
    exact h0 acc hp
  | succ d ih =>
    intro i acc hi hp
    have hlt : i < xs.length := by omega
    rw [List.drop_eq_getElem_cons hlt]
    rcases h1 i hlt acc hp with ⟨acc', hp', hR, hk⟩ | h
    · rw [hR]
      refine hk _ ?_
      have e := ih (i + 1) acc' (by omega) hp'
      rw [show (((i + 1 : Nat)) : Int) = (i : Int) + 1 from by omega] at e
      exact e
    · exact h
theorem Ev.scan0 {α β γ : Type} (L : Nat → Int → β → Option γ) (xs : List α) (R : List α → β → γ) (P : Nat → β → Prop)
    (h0 : ∀ acc, P xs.length acc → Ev (fun k => L k (xs.length : Int) acc) (R [] acc))
    (h1 : ∀ (i : Nat) (h : i < xs.length) (acc : β), P i acc → (∃ acc', P (i + 1) acc' ∧ R (xs[i] :: xs.drop (i + 1)) acc = R (xs.drop (i + 1)) acc' ∧ ∀ r, Ev (fun k => L k ((i : Int) + 1) acc') r → Ev (fun k => L k (i : Int) acc) r)
      ∨ Ev (fun k => L k (i : Int) acc) (R (xs[i] :: xs.drop (i + 1)) acc)) (acc : β) (hp : P 0 acc) : Ev (fun k => L k 0 acc) (R xs acc) := by
  have e := Ev.scan L xs R P h0 h1 xs.length 0 acc (by omega) hp
  simpa using e

/-- Counting up from i to n. -/
theorem Ev.upto {β γ : Type} (L : Nat → Int → β → Option γ) (n : Int) (R : Int → β → γ) (P : Int → β → Prop)
    (h0 : ∀ i acc, n ≤ i → P i acc → Ev (fun k => L k i acc) (R i acc))
    (h1 : ∀ i acc, i < n → P i acc → (∃ acc', P (i + 1) acc' ∧ R i acc = R (i + 1) acc' ∧ ∀ r, Ev (fun k => L k (i + 1) acc') r → Ev (fun k => L k i acc) r) ∨ Ev (fun k => L k i acc) (R i acc)) :
    ∀ (d : Nat) (i : Int) (acc : β), n ≤ i + d → P i acc → Ev (fun k => L k i acc) (R i acc) := by
  intro d
  induction d with
  | zero => intro i acc hi hp; exact h0 i acc (by omega) hp
  | succ d ih =>
    intro i acc hi hp
    by_cases hlt : i < n
    · rcases h1 i acc hlt hp with ⟨acc', hp', hR, hk⟩ | h
      · rw [hR]
        exact hk _ (ih (i + 1) acc' (by omega) hp')
      · exact h
    · exact h0 i acc (by omega) hp
end Go.Proofs.Ytijhoifcpijeiaa.M

/- What the functions on chords of the program and of the reference compute, in plain words: the order, the crossings of two. -/
namespace Go.Proofs.Ytijhoifcpijeiaa.M
open Go.RowKit Go.Proofs.YtijhoifcpijeiaaW.PrintWords Go.Proofs.Ytijhoifcpijeiaa.Pr
set_option linter.unusedVariables false
set_option linter.unusedSimpArgs false

abbrev Ch := S60
theorem rd_ch (l : List Ch) (i : Nat) (h : i < l.length) : rd_T60 l (i : Int) = l[i] := by
  unfold rd_T60
  simp [List.getD_eq_getElem?_getD, List.getElem?_eq_getElem h]

def inB (n lo hi : Int) : Bool := decide (lo ≤ n ∧ n ≤ hi)
theorem within_eq (n lo hi : Int) : impl_within.f n lo hi = some (inB n lo hi) := by
  unfold impl_within.f inB
  by_cases h : n ≥ lo
  · rw [if_pos h]; congr 1; rw [Bool.eq_iff_iff]; simp; omega
  · rw [if_neg h]; congr 1; rw [Bool.eq_iff_iff]; simp; omega
theorem l1In_eq (n lo hi : Int) : spec_l1In.f n lo hi = some (inB n lo hi) := within_eq n lo hi

def okB (p : Int) (c : Ch) : Bool := decide (0 ≤ c.f0 ∧ c.f0 < c.f1 ∧ c.f1 < p)
def ltB (c d : Ch) : Bool := decide (c.f0 < d.f0 ∨ c.f0 = d.f0 ∧ c.f1 < d.f1)
def crB (c d : Ch) : Bool := decide (c.f0 < d.f0 ∧ d.f0 < c.f1 ∧ c.f1 < d.f1 ∨ d.f0 < c.f0 ∧ c.f0 < d.f1 ∧ d.f1 < c.f1)
theorem crB_comm (c d : Ch) : crB c d = crB d c := by
  unfold crB
  rw [decide_eq_decide]
  constructor <;> (rintro (h | h); exact .inr h; exact .inl h)

theorem srLess_eq (a b c d : Int) : spec_srLess.f a b c d = some (ltB ⟨a, b⟩ ⟨c, d⟩) := by
  unfold spec_srLess.f ltB
  by_cases h : a < c
  · rw [if_pos h]; congr 1; rw [Bool.eq_iff_iff]; simp; omega
  · rw [if_neg h]
    by_cases h2 : a = c
    · rw [if_pos h2]; congr 1; rw [Bool.eq_iff_iff]; simp; omega
    · rw [if_neg h2]; congr 1; rw [Bool.eq_iff_iff]; simp; omega
theorem crossing_eq (c d : Ch) : impl_crossing.f c.f0 c.f1 d.f0 d.f1 = some (crB c d) := by
  unfold impl_crossing.f crB
  repeat' split
  all_goals (congr 1; rw [Bool.eq_iff_iff]; simp only [decide_eq_true_eq, Bool.false_eq_true, true_iff, false_iff]; omega)
theorem srCross_eq (c d : Ch) (hc : c.f0 < c.f1) (hd : d.f0 < d.f1) : spec_srCross.f c.f0 c.f1 d.f0 d.f1 = some (crB c d) := by
  unfold spec_srCross.f crB
  obtain ⟨a, b⟩ := c
  obtain ⟨u, v⟩ := d
  simp only at *
  obtain ⟨R, hR⟩ : ∃ R : Bool, R = decide (a < u ∧ u < b ∧ b < v ∨ u < a ∧ a < v ∧ v < b) := ⟨_, rfl⟩
  rw [← hR]
  have hR' : R = true ↔ (a < u ∧ u < b ∧ b < v ∨ u < a ∧ a < v ∧ v < b) := by rw [hR, decide_eq_true_eq]
  clear hR
  by_cases g1 : u < b <;> by_cases g2 : v < b <;> simp only [g1, g2, decide_true, decide_false] <;> repeat' split
  all_goals first
    | (exfalso; omega)
    | (exfalso; simp_all; done)
    | (refine congrArg some (Bool.eq_iff_iff.2 ?_); rw [hR']; simp only [Bool.false_eq_true, Bool.not_true, Bool.not_eq_true', beq_eq_false_iff_ne, ne_eq, true_iff, false_iff]; omega)

theorem compare_eq (a b : Int) : cmp_Compare_int.f a b = some (if a < b then -1 else if a > b then 1 else 0) := by
  unfold cmp_Compare_int.f cmp_isNaN_int.f
  simp only [bne_self_eq_false, Option.bind_some, Bool.false_eq_true, if_false]
  repeat' split
  all_goals rfl
theorem or_ev (x y : Int) : Ev (fun k => cmp_Or_int.f k [x, y]) (if x = 0 then y else x) := by
  unfold cmp_Or_int.f
  refine Ev.step (fun k => by rw [cmp_Or_int.l0]) ?_
  refine Ev.pos (by simp) (Ev.pos (by omega) (Ev.pos (by simp) ?_))
  rw [show rd [x, y] 0 = x from rfl]
  by_cases hx : x = 0
  · refine Ev.pos hx ?_
    rw [show wrap64 (0 + 1) = 1 from by rw [w64 (by omega) (by omega)]; rfl, if_pos hx]
    refine Ev.step (fun k => by rw [cmp_Or_int.l0]) ?_
    refine Ev.pos (by simp) (Ev.pos (by omega) (Ev.pos (by simp) ?_))
    rw [show rd [x, y] 1 = y from rfl]
    by_cases hy : y = 0
    · refine Ev.pos hy ?_
      rw [show wrap64 (1 + 1) = 2 from by rw [w64 (by omega) (by omega)]; rfl, hy]
      refine Ev.step (fun k => by rw [cmp_Or_int.l0]) ?_
      exact Ev.neg (by simp) (Ev.now 0)
    · exact Ev.neg hy (Ev.now y)
  · rw [if_neg hx]
    exact Ev.neg hx (Ev.now x)
def cmpC (c d : Ch) : Int := if c.f0 < d.f0 then -1 else if c.f0 > d.f0 then 1 else if c.f1 < d.f1 then -1 else if c.f1 > d.f1 then 1 else 0
theorem compareChords_ev (c d : Ch) : Ev (fun k => impl_compareChords.f k c.f0 c.f1 d.f0 d.f1) (cmpC c d) := by
  unfold impl_compareChords.f
  refine Ev.bindc (compare_eq _ _) (Ev.bindc (compare_eq _ _) (Ev.bindk (or_ev _ _) (Ev.val ?_)))
  unfold cmpC
  by_cases h1 : c.f0 < d.f0
  · simp [h1]
  · by_cases h2 : c.f0 > d.f0
    · simp [h1, h2]
    · simp [h1, h2]
theorem cmpC_ge (c d : Ch) : (cmpC c d ≥ 0) ↔ ltB c d = false := by
  unfold cmpC ltB
  simp only [decide_eq_false_iff_not]
  split
  · omega
  · split
    · omega
    · split
      · omega
      · split <;> omega
end Go.Proofs.Ytijhoifcpijeiaa.M

/- What the program's `ordered` does to a row of chords of the call's own: the row in order, each chord once. -/
namespace Go.Proofs.Ytijhoifcpijeiaa.Pr
open Go.RowKit Go.Sort Go.Lib Go.Proofs.YtijhoifcpijeiaaW.PrintWords Go.Proofs.YtijhoifcpijeiaaW.PrintLast Go.Proofs.YtijhoifcpijeiaaW.PrintMore
set_option linter.unusedVariables false
set_option linter.unusedSimpArgs false

/-- The sorted row. -/
def sortC (xs : List S60) : List S60 := xs.mergeSort fun x y => !(ltOf M.cmpC) y x
/-- The chords in order, each once. -/
def ordC (xs : List S60) : List S60 := compactUpTo (sortC xs).toArray (sortC xs).toArray.size

theorem ltC_iff (x y : S60) : (ltOf M.cmpC) x y = true ↔ (x.f0 < y.f0 ∨ x.f0 = y.f0 ∧ x.f1 < y.f1) := by
  unfold ltOf M.cmpC
  rw [decide_eq_true_iff]
  split
  · simp; omega
  · split
    · simp; omega
    · split
      · simp; omega
      · split
        · simp; omega
        · simp; omega
theorem ltC_not (x y : S60) : (ltOf M.cmpC) x y = false ↔ ¬ (x.f0 < y.f0 ∨ x.f0 = y.f0 ∧ x.f1 < y.f1) := by
  rw [← ltC_iff, Bool.not_eq_true]
theorem swoC : SWO (ltOf M.cmpC) where
  irrefl x := by rw [ltC_not]; omega
  trans x y z h1 h2 := by rw [ltC_iff] at *; omega
  ntrans x y z h1 h2 := by rw [ltC_not] at *; omega
theorem antC (x y : S60) (h1 : (ltOf M.cmpC) x y = false) (h2 : (ltOf M.cmpC) y x = false) : x = y := by
  rw [ltC_not] at h1 h2
  obtain ⟨a, b⟩ := x
  obtain ⟨c, d⟩ := y
  simp only at h1 h2
  rw [show a = c by omega, show b = d by omega]

theorem blk_putRow {w : World} {g : Nat} {cur : Array Value} {ty : TypeId} {fr : Nat × Nat} (F : Array Value) (hb : w.heap[g]? = some (.cells cur ty fr)) : (putRow id w g 0 F).heap[g]? = some (.cells (putCells id 0 F cur) ty fr) := by
  show (w.heap.modify g (onCells (putCells id 0 F)))[g]? = _
  rw [Array.getElem?_modify, if_pos rfl, hb]
  rfl
theorem below_putRow {w : World} {g base : Nat} (F : Array Value) (hg : base ≤ g) : Below base w (putRow id w g 0 F) :=
  ⟨rfl, rfl, rfl, by rw [show (putRow id w g 0 F).heap.size = w.heap.size from by simp [putRow, mapBlock]]; exact Nat.le_refl _, fun k hk => by
    show (w.heap.modify g (onCells (putCells id 0 F)))[k]? = _
    rw [Array.getElem?_modify, if_neg (by omega)]⟩
theorem below_grow {w : World} {base : Nat} (os : Array Obj) (hb : base ≤ w.heap.size) : Below base w (grow w os) :=
  ⟨rfl, rfl, rfl, by show _ ≤ (w.heap ++ os).size; simp, fun k hk => by
    show (w.heap ++ os)[k]? = _
    rw [Array.getElem?_append_left (by omega)]⟩
theorem kept_putRow {w : World} {g : Nat} {S : Nat → Prop} (F : Array Value) (hg : S g) : Kept w (putRow id w g 0 F) S :=
  ⟨by rw [show (putRow id w g 0 F).heap.size = w.heap.size from by simp [putRow, mapBlock]]; exact Nat.le_refl _, fun k hk hn => by
    show (w.heap.modify g (onCells (putCells id 0 F)))[k]? = _
    rw [Array.getElem?_modify, if_neg (fun e : g = k => hn (e ▸ hg))]⟩
theorem kept_grow {w : World} {S : Nat → Prop} (os : Array Obj) : Kept w (grow w os) S :=
  ⟨by show _ ≤ (w.heap ++ os).size; simp, fun k hk hn => by
    show (w.heap ++ os)[k]? = _
    rw [Array.getElem?_append_left hk]⟩
theorem kept_ahead {w : World} {S : Nat → Prop} (n : Nat) : Kept w (Sort.ahead w n) S := ⟨Nat.le_refl _, fun _ _ _ => rfl⟩
theorem below_ahead {w : World} {base : Nat} (n : Nat) : Below base w (Sort.ahead w n) := ⟨rfl, rfl, rfl, Nat.le_refl _, fun _ _ => rfl⟩

theorem compareChords_lays (g size : Nat) (w : World) : Go.Proofs.CmpLays Try.prog 93 #[] encL 2 M.cmpC g 0 size w := fun m os dk hs x y => by
  obtain ⟨k, hk⟩ := M.or_ev (if x.f0 < y.f0 then -1 else if x.f0 > y.f0 then 1 else 0) (if x.f1 < y.f1 then -1 else if x.f1 > y.f1 then 1 else 0)
  have e : (if (if x.f0 < y.f0 then (-1 : Int) else if x.f0 > y.f0 then 1 else 0) = 0 then (if x.f1 < y.f1 then (-1 : Int) else if x.f1 > y.f1 then 1 else 0) else (if x.f0 < y.f0 then -1 else if x.f0 > y.f0 then 1 else 0)) = M.cmpC x y := by
    unfold M.cmpC
    by_cases h1 : x.f0 < y.f0
    · simp [h1]
    · by_cases h2 : x.f0 > y.f0
      · simp [h1, h2]
      · simp [h1, h2]
  have h := compareChords_grow k x y _ _ _ (sortWorldK encL 2 w g 0 m dk os) (M.compare_eq _ _) (M.compare_eq _ _) (hk k (Nat.le_refl k))
  rw [e] at h
  exact h
theorem compactUpTo_length_le (d : Array S60) (m : Nat) : (compactUpTo d m).length ≤ m := by
  unfold compactUpTo
  rw [List.length_map]
  exact Nat.le_trans (List.length_filter_le _ _) (by simp)
theorem sortC_length (xs : List S60) : (sortC xs).length = xs.length := by
  unfold sortC
  exact List.length_mergeSort xs
theorem ordC_length (xs : List S60) : (ordC xs).length ≤ xs.length := by
  unfold ordC
  refine Nat.le_trans (compactUpTo_length_le _ _) ?_
  simp [sortC_length]

theorem ordC_nil : ordC [] = [] := by simp [ordC, sortC, compactUpTo]

set_option maxHeartbeats 2000000 in
theorem compact_none (w : World) : Calls Try.prog 94 #[.slice none 0 0] w fun e w' => e = .returned (.slice none 0 0) ∧ Below w.heap.size w w' := by
  go_enter Try.func94, Try.ntmps94
  go_wp2
  go_ret
  exact ⟨rfl, Below.refl _ _⟩

theorem oneL : ∀ x : S60, ∀ v ∈ encL x, v.oneCell' = true := by
  intro x v hv
  simp [encL] at hv
  rcases hv with rfl | rfl <;> rfl

set_option maxHeartbeats 2000000 in
/-- The sort, at a row of the call's own. -/
theorem sort_chord (g cap : Nat) (xs : List S60) (w : World) (hH : HoldsK encL 2 w g 0 xs.toArray) (hg : g < w.heap.size) (hlen : xs.length < 4611686018427387904) :
    Calls Try.prog 92 #[.slice (some ⟨g, 0, none⟩) xs.length cap, .func (.func 93) #[] #[]] w fun e w' => e = .returned (.tuple #[]) ∧ ∃ n os, w' = sortWorldK encL 2 w g 0 n (sortC xs).toArray os := by
  have h := AnyQ.slices_SortFunc_total Try.sortCh 2 (fun w => Try.isAgg60 w) (fun w => Try.sizeOf60 w) encL encL_length oneL M.cmpC swoC 93 #[] g 0 cap xs.toArray w (enters_of Try.func93 (by kernel_rfl) rfl)
    (compareChords_lays g xs.toArray.size w) hH hg (by simpa using hlen) antC
  exact h

theorem unfrozen {w : World} {g : Nat} {cur : Array Value} {ty : TypeId} (hb : w.heap[g]? = some (.cells cur ty (0, 0))) (j : Nat) : w.frozen? ⟨g, j, none⟩ = false := by
  unfold World.frozen?
  simp [hb]
theorem size_putCells_id (off : Nat) (F c : Array Value) : (putCells id off F c).size = c.size := by simp [putCells]

/-- Behind the sort and the compaction the row's first cells are the chords in order, each once. -/
theorem ord_end {w w1 w2 : World} {g cap n base : Nat} {ok : Nat → Prop} {os : Array Obj} {cur : Array Value} {xs : List S60} (hok : ok g) (hg : base ≤ g) (hB : base ≤ w.heap.size) (hb : w.heap[g]? = some (.cells cur 60 (0, 0))) (hn : xs.length ≤ cap) (hm : cap ≤ maxLen) (hs : cur.size = cap * 2)
    (hH : HoldsK encL 2 w g 0 xs.toArray) (e1 : w1 = sortWorldK encL 2 w g 0 n (sortC xs).toArray os) (h2 : CompEnd w1 g (sortC xs).toArray w2) :
    Kd.R k60 60 w2 base ok (.slice (some ⟨g, 0, none⟩) (ordC xs).length cap) (ordC xs) ∧ Below base w w2 ∧ Kept w w2 ok := by
  have hgs : g < w.heap.size := (Array.getElem?_eq_some_iff.1 hb).1
  have hH1 : HoldsK encL 2 w1 g 0 (sortC xs).toArray := by
    rw [e1]
    exact holdsK_sortWorldK_c encL 2 w g 0 xs.toArray (sortC xs).toArray n os hH hgs (by simp [sortC_length])
  have hb1 : w1.heap[g]? = some (.cells (putCells id 0 (flatK encL 2 (sortC xs).toArray) cur) 60 (0, 0)) := by
    rw [e1]
    show ((putRowK encL 2 (Sort.ahead w n) g 0 (sortC xs).toArray).heap ++ os)[g]? = _
    have := blk_putRow (w := Sort.ahead w n) (flatK encL 2 (sortC xs).toArray) hb
    rw [Array.getElem?_append_left (by rw [size_putRowK]; exact hgs)]
    exact this
  have hB1 : Below base w w1 := by
    rw [e1]
    refine ((below_ahead n).trans (below_putRow (flatK encL 2 (sortC xs).toArray) hg)).trans (below_grow os ?_)
    rw [show (putRow id (Sort.ahead w n) g 0 (flatK encL 2 (sortC xs).toArray)).heap.size = w.heap.size from by simp [putRow, mapBlock, Sort.ahead]]
    exact hB
  obtain ⟨q, F, e2, hF, hFj⟩ := h2
  have hb2 : w2.heap[g]? = some (.cells (putCells id 0 F (putCells id 0 (flatK encL 2 (sortC xs).toArray) cur)) 60 (0, 0)) := by
    rw [e2]
    exact blk_putRow (w := Sort.ahead w1 q) F hb1
  have hB2 : Below base w1 w2 := by
    rw [e2]
    exact (below_ahead q).trans (below_putRow F hg)
  have hK1 : Kept w w1 ok := by
    rw [e1]
    exact ((kept_ahead n).then_ (kept_putRow (flatK encL 2 (sortC xs).toArray) hok) (fun _ h => .inl h)).then_ (kept_grow os) (fun _ h => .inl h)
  have hK2 : Kept w1 w2 ok := by
    rw [e2]
    exact (kept_ahead q).then_ (kept_putRow F hok) (fun _ h => .inl h)
  have hholds : Holds id w2 g 0 F := by
    rw [e2]
    exact holds_putRow id (Sort.ahead w1 q) g 0 (flatK encL 2 (sortC xs).toArray) F hH1 (by rw [hF, size_flatK])
  have hle : (ordC xs).length * 2 ≤ F.size := by
    rw [hF]
    have := compactUpTo_length_le (sortC xs).toArray (sortC xs).toArray.size
    show (compactUpTo (sortC xs).toArray (sortC xs).toArray.size).length * 2 ≤ _
    omega
  have hK : HoldsK encL 2 w2 g 0 (ordC xs).toArray := fun j hj => by
    rw [size_flatK] at hj
    have hj' : j < (ordC xs).length * 2 := by simpa using hj
    obtain ⟨c1, f1⟩ := hholds j (by omega)
    refine ⟨?_, f1⟩
    rw [c1]
    exact congrArg some (hFj j hj')
  have hrow := row_of_holds hK
  refine ⟨shut_own hok hg hb2 (Nat.le_trans (ordC_length xs) hn) hm (by rw [size_putCells_id, size_putCells_id, hs]) ?_, hB1.trans hB2, hK1.then_ hK2 (fun _ h => .inl h)⟩
  simpa using hrow

set_option maxHeartbeats 4000000 in
/-- The program's `ordered`, at a row of the call's own. -/
theorem ordered_own (base : Nat) (ok : Nat → Prop) (v : Value) (xs : List S60) (w : World) (hr : Kd.R k60 60 w base ok v xs) (hB : base ≤ w.heap.size) (hlen : xs.length < 4611686018427387904) :
    Calls Try.prog 73 #[v] w fun e w' => ∃ v', e = .returned v' ∧ Kd.R k60 60 w' base ok v' (ordC xs) ∧ Below base w w' ∧ Kept w w' ok := by
  rcases open_own hr with ⟨rfl, rfl⟩ | ⟨g, cap, cur, rfl, hok, hg, hb, hn, hm, hs, hrow⟩
  · have h1 := Aside0.mk (fun (W : World) => AnyF.slices_SortFunc_none Try.sortCh none 0 (.func (.func 93) #[] #[]) W)
    have h2 := Aside0.mk (fun (W : World) => compact_none W)
    have HR := Aside0.mk (show Kd.R k60 60 w base ok (.slice none 0 0) (ordC []) from by rw [ordC_nil]; exact hr)
    have HB := Aside0.mk hB
    clear hr hB hlen
    go_enter Try.func73, Try.ntmps73
    go_wp2_with (first | (go_at_call 92; refine (h1.out _).mono ?_; rintro e w' ⟨rfl, rfl⟩) | (go_at_call 94; refine (h2.out _).mono ?_; rintro e w' ⟨rfl, hb2⟩))
    go_ret
    exact ⟨_, rfl, Kd.R_below HR.out hb2, hb2.mono HB.out, Kept.of_below hb2 _⟩
  · have hH := holds_of hrow (unfrozen hb)
    have hgs : g < w.heap.size := (Array.getElem?_eq_some_iff.1 hb).1
    have h1 := Aside0.mk (sort_chord g cap xs w hH hgs hlen)
    have h2 := Aside0.mk (fun (w1 : World) (n : Nat) (os : Array Obj) (e : w1 = sortWorldK encL 2 w g 0 n (sortC xs).toArray os) =>
      compact_chord g cap (sortC xs).toArray w1 (by rw [e]; exact holdsK_sortWorldK_c encL 2 w g 0 xs.toArray (sortC xs).toArray n os hH hgs (by simp [sortC_length])) (by simp [sortC_length]; omega) (by simp [sortC_length]; exact hn))
    have h3 := Aside0.mk (fun (w1 w2 : World) (n : Nat) (os : Array Obj) (e1 : w1 = sortWorldK encL 2 w g 0 n (sortC xs).toArray os) (h2 : CompEnd w1 g (sortC xs).toArray w2) => ord_end hok hg hB hb hn hm hs hH e1 h2)
    have hsz : (sortC xs).toArray.size = xs.length := by simp [sortC_length]
    rw [hsz] at h2
    have HS := Aside0.mk hsz
    clear hr hok hg hb hn hm hs hrow hH hgs hB hlen hsz
    go_enter Try.func73, Try.ntmps73
    go_wp2_with (first | (go_at_call 92; refine h1.out.mono ?_; rintro e w1 ⟨rfl, n, os, hw1⟩; have HW := Aside0.mk hw1; clear hw1) | (go_at_call 94; refine (h2.out _ n os HW.out).mono ?_; rintro e w2 ⟨rfl, hc⟩))
    go_ret
    obtain ⟨r1, r2⟩ := h3.out _ _ n os HW.out hc
    refine ⟨_, rfl, ?_, r2⟩
    have e : (compactUpTo (sortC xs).toArray xs.length) = ordC xs := by
      unfold ordC
      rw [HS.out]
    rw [e]
    exact r1

def impl_ordered.f (l0 : List (S60)) : Option (List (S60)) := if l0.length < 4611686018427387904 then some (ordC l0) else none
theorem impl_ordered.calls (P0_ : Nat → Prop) (u9000_ : Value) (l0 : List (S60)) (r : List (S60)) (w0 w : World) (hB : Below w0.heap.size w0 w) (ho0 : Kd.R k60 60 w w0.heap.size P0_ u9000_ l0) (h : impl_ordered.f l0 = some r) :
    Calls Try.prog 73 #[u9000_] w fun e w' => ∃ v0_ : Value, e = .returned (v0_) ∧ Kd.R k60 60 w' w0.heap.size (fun k_ => (P0_ k_ ∨ w.heap.size ≤ k_)) v0_ r ∧ Below w0.heap.size w0 w' ∧ Kept w w' (fun k_ => P0_ k_) := by
  unfold impl_ordered.f at h
  by_cases hl : l0.length < 4611686018427387904
  · rw [if_pos hl] at h
    obtain rfl := Option.some.inj h
    exact (ordered_own w0.heap.size P0_ u9000_ l0 w ho0 hB.size hl).mono fun e w' ⟨v', he, hr, hb, hk⟩ => ⟨v', he, Kd.R_mono hr (fun _ h => .inl h), hB.trans hb, hk⟩
  · rw [if_neg hl] at h
    cases h
end Go.Proofs.Ytijhoifcpijeiaa.Pr

-- Written by a program for this claim.
namespace Go.Proofs.Ytijhoifcpijeiaa.Pr
open Go.RowKit Go.Proofs.YtijhoifcpijeiaaW.PrintWords Go.Proofs.YtijhoifcpijeiaaW.PrintLast Go.Proofs.YtijhoifcpijeiaaW.PrintMore
attribute [local go_sem] max2_int min2_int max_two min_two max_three min_three max_four min_four   -- for this text's walks alone
set_option linter.unusedVariables false
set_option linter.unusedSimpArgs false

/-! ### impl_Star_chords: function 78 -/
def impl_Star_chords.l0 : Nat → List (S60) → Int → Int → Int → Int → Option ((List (S60)))
  | 0, _, _, _, _, _ => none
  | k + 1, x3, x7, x8, x551000, x551001 => if x8 < x7 then (if x551000 = 0 then (none) else ((impl_chord.f x8 (Int.tmod (wrap64 (x8 + x551001)) x551000)).bind fun bt554 => (if x3.length < 8796093022208 then (impl_Star_chords.l0 k (x3 ++ [(⟨bt554.1, bt554.2⟩ : S60)]) x7 (wrap64 (x8 + 1)) x551000 x551001) else (none)))) else ((impl_ordered.f x3).bind fun t559 => (some t559))
def impl_Star_chords.f (k : Nat) (a0_0 : Int) (a0_1 : Int) : Option ((List (S60))) := impl_Star_chords.l0 k (([] : List (S60))) a0_0 0 a0_0 a0_1
theorem impl_Star_chords.mono_l : ∀ k, (∀ y0 y1 y2 y3 y4, LeO (impl_Star_chords.l0 k y0 y1 y2 y3 y4) (impl_Star_chords.l0 (k + 1) y0 y1 y2 y3 y4))
  | 0 => fun _ _ _ _ _ r h => by simp [impl_Star_chords.l0] at h
  | k + 1 => by
    have ih0 := impl_Star_chords.mono_l k
    · intro y0 y1 y2 y3 y4
      unfold impl_Star_chords.l0
      repeat' first
      | (with_reducible exact ih0 _ _ _ _ _)
      | (with_reducible exact LeO.refl _)
      | (with_reducible exact LeO.none _)
      | (with_reducible refine LeO.ite ?_ ?_)
      | (with_reducible refine LeO.bind ?_ (fun _ => ?_))
      | exact ih0 _ _ _ _ _
      | exact LeO.none _
      | refine LeO.ite ?_ ?_
      | refine LeO.bind ?_ (fun _ => ?_)
theorem impl_Star_chords.mono : ∀ a0 a1 k, LeO (impl_Star_chords.f k a0 a1) (impl_Star_chords.f (k + 1) a0 a1) := by
  intro a0 a1 k
  have ih0 := impl_Star_chords.mono_l k
  unfold impl_Star_chords.f
  repeat' first
      | (with_reducible exact ih0 _ _ _ _ _)
      | (with_reducible exact LeO.refl _)
      | (with_reducible exact LeO.none _)
      | (with_reducible refine LeO.ite ?_ ?_)
      | (with_reducible refine LeO.bind ?_ (fun _ => ?_))
      | exact ih0 _ _ _ _ _
      | exact LeO.none _
      | refine LeO.ite ?_ ?_
      | refine LeO.bind ?_ (fun _ => ?_)
set_option maxHeartbeats 8000000 in
set_option maxRecDepth 100000 in
theorem impl_Star_chords.calls (k : Nat) (a0_0 : Int) (a0_1 : Int) (r : List (S60)) (w : World) (h : impl_Star_chords.f k a0_0 a0_1 = some r) :
    Calls Try.prog 78 #[.agg #[.int .i64 a0_0, .int .i64 a0_1]] w fun e w' => ∃ v0_ : Value, e = .returned (v0_) ∧ Kd.R k60 60 w' w.heap.size (fun _ => True) v0_ r ∧ Below w.heap.size w w' := by
  have hu52 := Try.underlying52
  have HB := Aside0.mk (Below.refl w.heap.size w)
  have H : (impl_Star_chords.l0 k (([] : List (S60))) a0_0 0 a0_0 a0_1) = some r := h
  clear h
  obtain ⟨y551, hy551⟩ : ∃ y_ : List (S60), y_ = (([] : List (S60))) := ⟨_, rfl⟩
  replace H : (impl_Star_chords.l0 k y551 a0_0 0 a0_0 a0_1) = some r := by first | (rw [hy551]; with_reducible exact H) | (have H2_ := (Option.bind_some _ _).symm.trans H; rw [hy551]; with_reducible exact H2_) | (have H2_ := (Option.bind_some _ _).symm.trans H; with_reducible exact H2_) | with_reducible exact H | (rw [hy551]; exact H) | exact H
  have Ny551 := Aside0.mk hy551
  clear hy551
  have H' := Aside0.mk H
  clear H
  go_enter Try.func78, Try.ntmps78
  go_wp2_with (first | ((with_reducible refine gate_dst (N := 1) rfl ?_); refine box_event ?hg (N := 1) ?hd (cs := #[.int .i64 a0_0, .int .i64 a0_1]) (t := 52) ?hr ?_; (case hd => rfl); (case hg => rfl); (case hr => first | (go_simp; done) | (go_simp; rfl)); intro gb550 hg w2 hbox hb; have n0_ := Aside0.mk (below_step (by repeat (first | (with_reducible first | exact HB.out | apply below_alloc | apply pw_below_drewN | apply below_drew1) | exact HB.out)) hb); have n1_ := Aside0.mk (hbox); have n2_ := Aside0.mk ((by rw [hg]; exact (below_size (by repeat (first | (with_reducible first | exact HB.out | apply below_alloc | apply pw_below_drewN | apply below_drew1) | exact HB.out))) : w.heap.size ≤ gb550)); have n3_ := Aside0.mk ((by rw [hg]; exact (below_size (by repeat (first | (with_reducible first | exact HB.out | apply below_alloc | apply pw_below_drewN | apply below_drew1) | exact HB.out))) : w.heap.size ≤ gb550)); clear HB; have HB := n0_; have BK550 := n1_; have GW550 := n2_; have GE550 := n3_; clear n0_ n1_ n2_ n3_; clear hb hbox hg) | ((with_reducible refine gate_dst (N := 5) rfl ?_); refine Kd.R_lit k60 _ 60 ?hg (N := 5) ?hd (xs := ([] : List (S60))) (inner := []) (ok := fun _ => True) (okp := fun _ => True) ?hr ?hp (fun _ hk => hk) trivial (Below.refl _ _) (Nat.le_refl _) (by simp) ?_; (case hd => rfl); (case hg => rfl); (case hr => first | (go_simp; done) | (go_simp; rfl)); (case hp => exact (Reps.none _ _)); intro v552 w3 ho4 hb hg_ hnew_; clear hg_ hnew_; (first | rw [← Ny551.out] at ho4 | (simp only [Int.reduceToNat] at ho4; rw [← Ny551.out] at ho4)); have n0_ := Aside0.mk (Kd.R_lower ho4 (below_size (by repeat (first | (with_reducible first | exact HB.out | apply below_alloc | apply pw_below_drewN | apply below_drew1 | refine below_set ?_ GE550.out) | exact HB.out)))); have n1_ := Aside0.mk (blk_below (g := gb550) (o := .cells #[.int .i64 a0_0, .int .i64 a0_1] 52 (0, 0)) (by (with_reducible repeat (first | refine blk_drewN ?_ _ | refine blk_drew ?_ | refine blk_alloc ?_ _)); exact BK550.out) hb); have n2_ := Aside0.mk (below_step (by repeat (first | (with_reducible first | exact HB.out | apply below_alloc | apply pw_below_drewN | apply below_drew1 | refine below_set ?_ GE550.out) | exact HB.out)) hb); clear BK550; clear HB; have HO553 := n0_; have BK550 := n1_; have HB := n2_; clear n0_ n1_ n2_; clear hb ho4; have hcz5_0 : w3.cell? ⟨gb550, 0, none⟩ = some (.int .i64 a0_0) := (blk_cell BK550.out 0).trans rfl; have hcz5_1 : w3.cell? ⟨gb550, 1, none⟩ = some (.int .i64 a0_1) := (blk_cell BK550.out 1).trans rfl; have hfz5_0 := blk_frozen BK550.out 0; have hfz5_1 := blk_frozen BK550.out 1))
  go_loopg [3, 8] k (fun kq v3 v8 w' => ∃ (x3_1 : List (S60)) (x8_1 : Int), v8 = .int .i64 x8_1 ∧ Aside0 (impl_Star_chords.l0 kq x3_1 a0_0 x8_1 a0_0 a0_1 = some r) ∧ Aside0 (kq ≤ k) ∧ Aside0 (Kd.R k60 60 w' w.heap.size (fun _ => True) v3 x3_1) ∧ Aside0 (w'.heap[gb550]? = some (.cells #[.int .i64 a0_0, .int .i64 a0_1] 52 (0, 0))) ∧ Aside0 (Below w.heap.size w w'))
  case atStart => exact ⟨(y551), (0), (by first | rfl | (simp; done) | (simp [*]; done)), H', ⟨Nat.le_refl _⟩, ⟨by (with_reducible repeat (first | apply Kd.R_alloc | apply Kd.R_drewN | apply Kd.R_drew)); exact HO553.out⟩, ⟨by (with_reducible repeat (first | refine blk_drewN ?_ _ | refine blk_drew ?_ | refine blk_alloc ?_ _)); exact BK550.out⟩, ⟨by repeat (first | (with_reducible first | exact HB.out | apply below_alloc | apply pw_below_drewN | apply below_drew1 | refine below_set ?_ GE550.out) | exact HB.out)⟩⟩
  case round =>
    clear H'
    try clear p2
    try clear hcz5_0
    try clear hcz5_1
    try clear hfz5_0
    try clear hfz5_1
    obtain ⟨x3_1, x8_1, rfl, HA, HK1, HO_3, BK550, HB⟩ := hrel
    cases gk with
    | zero => exact absurd HA.out (by simp [impl_Star_chords.l0])
    | succ k1 =>
      have H := HA.out
      clear HA
      simp only [impl_Star_chords.l0] at H
      by_cases c6 : x8_1 < a0_0
      · rw [if_pos c6] at H
        have c6b0 : decide (x8_1 < a0_0) = true := decide_eq_true c6
        clear c6
        by_cases c7 : a0_0 = 0
        · rw [if_pos c7] at H
          exact absurd H (by simp)
        · rw [if_neg c7] at H
          have c7b0 : (a0_0 == 0) = false := beq_eq_false_iff_ne.mpr c7
          have c7b1 : (a0_0 != 0) = true := bne_iff_ne.mpr c7
          replace H := Option.bind_eq_some_iff.mp H
          obtain ⟨⟨t554, t555⟩, A80, H⟩ := H
          replace H : (if x3_1.length < 8796093022208 then (impl_Star_chords.l0 k1 (x3_1 ++ [(⟨t554, t555⟩ : S60)]) a0_0 (wrap64 (x8_1 + 1)) a0_0 a0_1) else (none)) = some r := H
          have A8 := Aside0.mk A80
          clear A80
          by_cases c9 : x3_1.length < 8796093022208
          · rw [if_pos c9] at H
            have LMc9 := Aside0.mk c9
            clear c9
            obtain ⟨y556, hy556⟩ : ∃ y_ : List (S60), y_ = (x3_1 ++ [(⟨t554, t555⟩ : S60)]) := ⟨_, rfl⟩
            replace H : (impl_Star_chords.l0 k1 y556 a0_0 (wrap64 (x8_1 + 1)) a0_0 a0_1) = some r := by first | (rw [hy556]; with_reducible exact H) | (have H2_ := (Option.bind_some _ _).symm.trans H; rw [hy556]; with_reducible exact H2_) | (have H2_ := (Option.bind_some _ _).symm.trans H; with_reducible exact H2_) | with_reducible exact H | (rw [hy556]; exact H) | exact H
            have Ny556 := Aside0.mk hy556
            clear hy556
            have H' := Aside0.mk H
            clear H
            have hcz10_0 : wr.cell? ⟨gb550, 0, none⟩ = some (.int .i64 a0_0) := (blk_cell BK550.out 0).trans rfl
            have hcz10_1 : wr.cell? ⟨gb550, 1, none⟩ = some (.int .i64 a0_1) := (blk_cell BK550.out 1).trans rfl
            have hfz10_0 := blk_frozen BK550.out 0
            have hfz10_1 := blk_frozen BK550.out 1
            go_wp2_with (first | ((with_reducible refine gate_callee (f := 71) rfl ?_); refine goesL_ (some 20) rfl rfl Try.func71 (by kernel_rfl) rfl #[.int .i64 x8_1, .int .i64 (Int.tmod (wrap64 (x8_1 + a0_1)) a0_0)] rfl (by (try simp only [List.map_toArray, List.map_cons, List.map_nil]); first | done | rfl | (simp only [List.length_drop, List.length_take]; rfl)) ?_; (with_reducible refine (impl_chord.calls x8_1 (Int.tmod (wrap64 (x8_1 + a0_1)) a0_0) t554 t555 _ A8.out).mono ?_); rintro e w11 ⟨rfl, hb⟩; refine ⟨_, rfl, ?_⟩; have n0_ := Aside0.mk (Kd.R_below (by (with_reducible repeat (first | apply Kd.R_alloc | apply Kd.R_drewN | apply Kd.R_drew)); exact HO_3.out) hb); have n1_ := Aside0.mk (blk_below (g := gb550) (o := .cells #[.int .i64 a0_0, .int .i64 a0_1] 52 (0, 0)) (by (with_reducible repeat (first | refine blk_drewN ?_ _ | refine blk_drew ?_ | refine blk_alloc ?_ _)); exact BK550.out) hb); have n2_ := Aside0.mk (below_step (by repeat (first | (with_reducible first | exact HB.out | apply below_alloc | apply pw_below_drewN | apply below_drew1 | refine below_set ?_ GE550.out) | exact HB.out)) hb); clear HO_3; clear BK550; clear HB; have HO_3 := n0_; have BK550 := n1_; have HB := n2_; clear n0_ n1_ n2_; (try clear hb); (try clear hb2); (try clear hk); (try clear hi)) | ((with_reducible refine gate_builtin (b := .append) (xs := #[.tmp 11, .tmp 21]) rfl ?_); at_builtin; refine Kd.R_append k60 (w0 := w) w.heap.size rfl (.tmp 11) (.tmp 21) 28 60 (.agg #[(.int .i64 0), (.int .i64 0)]) 16 rfl Try.underlying28 info60 rfl (by decide) (by omega) u3 x3_1 (⟨t554, t555⟩ : S60) [.int .i64 t554, .int .i64 t555] (fun _ => True) (fun _ => False) rfl rfl ?aP (fun _ hk => hk.elim) ?aF ?aO ?aB ?aS ?aL ?_; (case aP => exact k60_mkM _ _ _ (⟨t554, t555⟩ : S60)); (case aB => exact (by repeat (first | (with_reducible first | exact HB.out | apply below_alloc | apply pw_below_drewN | apply below_drew1 | refine below_set ?_ GE550.out) | exact HB.out))); (case aF => exact (fun _ _ => trivial)); (case aO => exact (by (with_reducible repeat (first | apply Kd.R_alloc | apply Kd.R_drewN | apply Kd.R_drew)); exact HO_3.out)); (case aS => exact (below_size (by repeat (first | (with_reducible first | exact HB.out | apply below_alloc | apply pw_below_drewN | apply below_drew1 | refine below_set ?_ GE550.out) | exact HB.out)))); (case aL => have := LMc9.out; omega); intro v557 w12 ho hb hg hat; rw [← Ny556.out] at ho; have n0_ := Aside0.mk (blk_grown (g := gb550) (o := .cells #[.int .i64 a0_0, .int .i64 a0_1] 52 (0, 0)) (by (with_reducible repeat (first | refine blk_drewN ?_ _ | refine blk_drew ?_ | refine blk_alloc ?_ _)); exact BK550.out) hg (Kd.R_ne HO_3.out BK550.out (by decide))); have n1_ := Aside0.mk (hb); have n2_ := Aside0.mk (ho); clear BK550; clear HB; clear HO_3; have BK550 := n0_; have HB := n1_; have HO558 := n2_; clear n0_ n1_ n2_; clear ho hb hg hat))
            go_roundg k1
            case measure => have := HK1.out; omega
            case rel => exact ⟨(y556), (wrap64 (x8_1 + 1)), (by first | rfl | (simp; done) | (simp [*]; done)), H', ⟨by have := HK1.out; omega⟩, ⟨by (with_reducible repeat (first | apply Kd.R_alloc | apply Kd.R_drewN | apply Kd.R_drew)); exact HO558.out⟩, ⟨by (with_reducible repeat (first | refine blk_drewN ?_ _ | refine blk_drew ?_ | refine blk_alloc ?_ _)); exact BK550.out⟩, ⟨by repeat (first | (with_reducible first | exact HB.out | apply below_alloc | apply pw_below_drewN | apply below_drew1 | refine below_set ?_ GE550.out) | exact HB.out)⟩⟩
          · rw [if_neg c9] at H
            exact absurd H (by simp)
      · rw [if_neg c6] at H
        have c6b0 : decide (x8_1 < a0_0) = false := decide_eq_false c6
        clear c6
        replace H := Option.bind_eq_some_iff.mp H
        obtain ⟨t559, A130, H⟩ := H
        replace H : (some t559) = some r := H
        have A13 := Aside0.mk A130
        clear A130
        obtain rfl := Option.some.inj H
        obtain ⟨Ao14, co14, eo14⟩ := Kd.R_slice HO_3.out
        subst eo14
        go_wp2_with (first | ((with_reducible refine gate_callee (f := 73) rfl ?_); refine goesL_ (some 25) rfl rfl Try.func73 (by kernel_rfl) rfl #[.slice Ao14 x3_1.length co14] rfl (by (try simp only [List.map_toArray, List.map_cons, List.map_nil]); first | done | rfl | (simp only [List.length_drop, List.length_take]; rfl)) ?_; (with_reducible refine (impl_ordered.calls (fun k_ => some k_ = (.slice Ao14 x3_1.length co14 : Value).ownBlock) (.slice Ao14 x3_1.length co14) x3_1 t559 w _ ?side1 ?side2 A13.out).mono ?_); (case side1 => repeat (first | (with_reducible first | exact HB.out | apply below_alloc | apply pw_below_drewN | apply below_drew1 | refine below_set ?_ GE550.out) | exact HB.out)); (case side2 => exact Kd.R_tight rfl HO_3.out); rintro e w15 ⟨v560, rfl, ho0, hb, hkp⟩; refine ⟨_, rfl, ?_⟩; have n0_ := Aside0.mk (blk_kept (by (with_reducible repeat (first | refine blk_drewN ?_ _ | refine blk_drew ?_ | refine blk_alloc ?_ _)); exact BK550.out) hkp (fun hs_ => (fun e_ => (Kd.R_ne HO_3.out BK550.out (by decide)) e_) hs_)); have n1_ := Aside0.mk (Kd.R_mono (ok' := fun k_ => True) ho0 (fun k_ hk_ => trivial)); have n2_ := Aside0.mk (hb); clear BK550; clear HB; clear HO_3; have BK550 := n0_; have HO561 := n1_; have HB := n2_; clear n0_ n1_ n2_; (try clear hb); (try clear hkp); (try clear ho0)))
        go_ret
        exact ⟨_, by first | rfl | (simp [errW_none, errW_some] <;> rfl) | (simp [*, errW_none, errW_some] <;> rfl), by (with_reducible repeat (first | apply Kd.R_alloc | apply Kd.R_drewN | apply Kd.R_drew)); exact HO561.out, by repeat (first | (with_reducible first | exact HB.out | apply below_alloc | apply pw_below_drewN | apply below_drew1 | refine below_set ?_ GE550.out) | exact HB.out)⟩

end Go.Proofs.Ytijhoifcpijeiaa.Pr

-- Written by a program for this claim.
namespace Go.Proofs.Ytijhoifcpijeiaa.Pr
open Go.RowKit Go.Proofs.YtijhoifcpijeiaaW.PrintWords Go.Proofs.YtijhoifcpijeiaaW.PrintLast Go.Proofs.YtijhoifcpijeiaaW.PrintMore
attribute [local go_sem] max2_int min2_int max_two min_two max_three min_three max_four min_four   -- for this text's walks alone
set_option linter.unusedVariables false
set_option linter.unusedSimpArgs false

/-! ### impl_RegionsOfStar: function 44 -/
def impl_RegionsOfStar.f (k : Nat) (a0_0 : Int) (a0_1 : Int) : Option (Int × Bool) := (impl_IsStar.f a0_0 a0_1).bind fun t563 => (if t563 = true then ((impl_Star_chords.f k a0_0 a0_1).bind fun t564 => ((impl_crossings.f k t564).bind fun t567 => (some (wrap64 ((wrap64 (1 + (t564.length : Int))) + t567), true)))) else (some (0, false)))
theorem impl_RegionsOfStar.mono : ∀ a0 a1 k, LeO (impl_RegionsOfStar.f k a0 a1) (impl_RegionsOfStar.f (k + 1) a0 a1) := by
  intro a0 a1 k
  unfold impl_RegionsOfStar.f
  repeat' first
      | (with_reducible exact impl_Star_chords.mono _ _ _)
      | (with_reducible exact impl_crossings.mono _ _)
      | (with_reducible exact LeO.refl _)
      | (with_reducible exact LeO.none _)
      | (with_reducible refine LeO.ite ?_ ?_)
      | (with_reducible refine LeO.bind ?_ (fun _ => ?_))
      | exact impl_Star_chords.mono _ _ _
      | exact impl_crossings.mono _ _
      | exact LeO.none _
      | refine LeO.ite ?_ ?_
      | refine LeO.bind ?_ (fun _ => ?_)
set_option maxHeartbeats 8000000 in
set_option maxRecDepth 100000 in
theorem impl_RegionsOfStar.calls (k : Nat) (a0_0 : Int) (a0_1 : Int) (r1 : Int) (r2 : Bool) (w : World) (h : impl_RegionsOfStar.f k a0_0 a0_1 = some (r1, r2)) :
    Calls Try.prog 44 #[.agg #[.int .i64 a0_0, .int .i64 a0_1]] w fun e w' => e = .returned (.tuple #[.int .i64 r1, .bool r2]) ∧ Below w.heap.size w w' := by
  have hu52 := Try.underlying52
  have HB := Aside0.mk (Below.refl w.heap.size w)
  have H : ((impl_IsStar.f a0_0 a0_1).bind fun t563 => (if t563 = true then ((impl_Star_chords.f k a0_0 a0_1).bind fun t564 => ((impl_crossings.f k t564).bind fun t567 => (some (wrap64 ((wrap64 (1 + (t564.length : Int))) + t567), true)))) else (some (0, false)))) = some (r1, r2) := h
  clear h
  replace H := Option.bind_eq_some_iff.mp H
  obtain ⟨t563, A20, H⟩ := H
  replace H : (if t563 = true then ((impl_Star_chords.f k a0_0 a0_1).bind fun t564 => ((impl_crossings.f k t564).bind fun t567 => (some (wrap64 ((wrap64 (1 + (t564.length : Int))) + t567), true)))) else (some (0, false))) = some (r1, r2) := H
  have A2 := Aside0.mk A20
  clear A20
  by_cases c3 : t563 = true
  · subst c3
    have H1 : ((impl_Star_chords.f k a0_0 a0_1).bind fun t564 => ((impl_crossings.f k t564).bind fun t567 => (some (wrap64 ((wrap64 (1 + (t564.length : Int))) + t567), true)))) = some (r1, r2) := by rw [if_pos rfl] at H; exact H
    clear H
    have H := H1
    clear H1
    replace H := Option.bind_eq_some_iff.mp H
    obtain ⟨t564, A40, H⟩ := H
    replace H : ((impl_crossings.f k t564).bind fun t567 => (some (wrap64 ((wrap64 (1 + (t564.length : Int))) + t567), true))) = some (r1, r2) := H
    have A4 := Aside0.mk A40
    clear A40
    replace H := Option.bind_eq_some_iff.mp H
    obtain ⟨t567, A50, H⟩ := H
    replace H : (some (wrap64 ((wrap64 (1 + (t564.length : Int))) + t567), true)) = some (r1, r2) := H
    have A5 := Aside0.mk A50
    clear A50
    simp only [Option.some.injEq, Prod.mk.injEq] at H
    obtain ⟨rfl, rfl⟩ := H
    go_enter Try.func44, Try.ntmps44
    go_wp2_with (first | ((with_reducible refine gate_dst (N := 1) rfl ?_); refine box_event ?hg (N := 1) ?hd (cs := #[.int .i64 a0_0, .int .i64 a0_1]) (t := 52) ?hr ?_; (case hd => rfl); (case hg => rfl); (case hr => first | (go_simp; done) | (go_simp; rfl)); intro gb562 hg w6 hbox hb; have n0_ := Aside0.mk (below_step (by repeat (first | (with_reducible first | exact HB.out | apply below_alloc | apply pw_below_drewN | apply below_drew1) | exact HB.out)) hb); have n1_ := Aside0.mk (hbox); have n2_ := Aside0.mk ((by rw [hg]; exact (below_size (by repeat (first | (with_reducible first | exact HB.out | apply below_alloc | apply pw_below_drewN | apply below_drew1) | exact HB.out))) : w.heap.size ≤ gb562)); have n3_ := Aside0.mk ((by rw [hg]; exact (below_size (by repeat (first | (with_reducible first | exact HB.out | apply below_alloc | apply pw_below_drewN | apply below_drew1) | exact HB.out))) : w.heap.size ≤ gb562)); clear HB; have HB := n0_; have BK562 := n1_; have GW562 := n2_; have GE562 := n3_; clear n0_ n1_ n2_ n3_; clear hb hbox hg; have hcz7_0 : w6.cell? ⟨gb562, 0, none⟩ = some (.int .i64 a0_0) := (blk_cell BK562.out 0).trans rfl; have hcz7_1 : w6.cell? ⟨gb562, 1, none⟩ = some (.int .i64 a0_1) := (blk_cell BK562.out 1).trans rfl; have hfz7_0 := blk_frozen BK562.out 0; have hfz7_1 := blk_frozen BK562.out 1) | ((with_reducible refine gate_callee (f := 77) rfl ?_); refine goesL_ (some 6) rfl rfl Try.func77 (by kernel_rfl) rfl #[.agg #[.int .i64 a0_0, .int .i64 a0_1]] rfl (by (try simp only [List.map_toArray, List.map_cons, List.map_nil]); first | done | rfl | (simp only [List.length_drop, List.length_take]; rfl)) ?_; (with_reducible refine (impl_IsStar.calls a0_0 a0_1 true _ A2.out).mono ?_); rintro e w8 ⟨rfl, hb⟩; refine ⟨_, rfl, ?_⟩; have n0_ := Aside0.mk (blk_below (g := gb562) (o := .cells #[.int .i64 a0_0, .int .i64 a0_1] 52 (0, 0)) (by (with_reducible repeat (first | refine blk_drewN ?_ _ | refine blk_drew ?_ | refine blk_alloc ?_ _)); exact BK562.out) hb); have n1_ := Aside0.mk (below_step (by repeat (first | (with_reducible first | exact HB.out | apply below_alloc | apply pw_below_drewN | apply below_drew1 | refine below_set ?_ GE562.out) | exact HB.out)) hb); clear BK562; clear HB; have BK562 := n0_; have HB := n1_; clear n0_ n1_; (try clear hb); (try clear hb2); (try clear hk); (try clear hi); have hcz9_0 : w8.cell? ⟨gb562, 0, none⟩ = some (.int .i64 a0_0) := (blk_cell BK562.out 0).trans rfl; have hcz9_1 : w8.cell? ⟨gb562, 1, none⟩ = some (.int .i64 a0_1) := (blk_cell BK562.out 1).trans rfl; have hfz9_0 := blk_frozen BK562.out 0; have hfz9_1 := blk_frozen BK562.out 1) | ((with_reducible refine gate_callee (f := 78) rfl ?_); refine goesL_ (some 9) rfl rfl Try.func78 (by kernel_rfl) rfl #[.agg #[.int .i64 a0_0, .int .i64 a0_1]] rfl (by (try simp only [List.map_toArray, List.map_cons, List.map_nil]); first | done | rfl | (simp only [List.length_drop, List.length_take]; rfl)) ?_; (with_reducible refine (impl_Star_chords.calls k a0_0 a0_1 t564 _ A4.out).mono ?_); rintro e w10 ⟨v565, rfl, ho0, hb⟩; refine ⟨_, rfl, ?_⟩; have n0_ := Aside0.mk (Kd.R_lower ho0 (below_size (by repeat (first | (with_reducible first | exact HB.out | apply below_alloc | apply pw_below_drewN | apply below_drew1 | refine below_set ?_ GE562.out) | exact HB.out)))); have n1_ := Aside0.mk (blk_below (g := gb562) (o := .cells #[.int .i64 a0_0, .int .i64 a0_1] 52 (0, 0)) (by (with_reducible repeat (first | refine blk_drewN ?_ _ | refine blk_drew ?_ | refine blk_alloc ?_ _)); exact BK562.out) hb); have n2_ := Aside0.mk (below_step (by repeat (first | (with_reducible first | exact HB.out | apply below_alloc | apply pw_below_drewN | apply below_drew1 | refine below_set ?_ GE562.out) | exact HB.out)) hb); clear BK562; clear HB; have HO566 := n0_; have BK562 := n1_; have HB := n2_; clear n0_ n1_ n2_; (try clear hb); (try clear hb2); (try clear hk); (try clear hi); (try clear ho0); obtain ⟨Ao11, co11, eo11⟩ := Kd.R_slice HO566.out; subst eo11) | ((with_reducible refine gate_callee (f := 59) rfl ?_); refine goesL_ (some 14) rfl rfl Try.func59 (by kernel_rfl) rfl #[.slice Ao11 t564.length co11] rfl (by (try simp only [List.map_toArray, List.map_cons, List.map_nil]); first | done | rfl | (simp only [List.length_drop, List.length_take]; rfl)) ?_; (with_reducible refine (impl_crossings.calls k _ _ t564 t567 _ ?side1 ?side2 A5.out).mono ?_); (case side1 => repeat (first | exact (Kd.R_reads' HO566.out).2.2 | (with_reducible refine Kd.C_alloc ?_ _) | (with_reducible refine Kd.C_drewN ?_ _) | (with_reducible refine Kd.C_drew ?_))); (case side2 => exact (Kd.R_reads' HO566.out).2.1); rintro e w12 ⟨rfl, hb⟩; refine ⟨_, rfl, ?_⟩; have n0_ := Aside0.mk (Kd.R_below (by (with_reducible repeat (first | apply Kd.R_alloc | apply Kd.R_drewN | apply Kd.R_drew)); exact HO566.out) hb); have n1_ := Aside0.mk (blk_below (g := gb562) (o := .cells #[.int .i64 a0_0, .int .i64 a0_1] 52 (0, 0)) (by (with_reducible repeat (first | refine blk_drewN ?_ _ | refine blk_drew ?_ | refine blk_alloc ?_ _)); exact BK562.out) hb); have n2_ := Aside0.mk (below_step (by repeat (first | (with_reducible first | exact HB.out | apply below_alloc | apply pw_below_drewN | apply below_drew1 | refine below_set ?_ GE562.out) | exact HB.out)) hb); clear HO566; clear BK562; clear HB; have HO566 := n0_; have BK562 := n1_; have HB := n2_; clear n0_ n1_ n2_; (try clear hb); (try clear hb2); (try clear hk); (try clear hi)))
    go_ret2
    exact ⟨by first | rfl | (simp [errW_none, errW_some] <;> rfl) | (simp [*, errW_none, errW_some] <;> rfl), by repeat (first | (with_reducible first | exact HB.out | apply below_alloc | apply pw_below_drewN | apply below_drew1 | refine below_set ?_ GE562.out) | exact HB.out)⟩
  · replace c3 := Bool.eq_false_iff.mpr c3
    subst c3
    have H1 : (some (0, false)) = some (r1, r2) := by rw [if_neg (show ¬ (false = true) by decide)] at H; exact H
    clear H
    have H := H1
    clear H1
    simp only [Option.some.injEq, Prod.mk.injEq] at H
    obtain ⟨rfl, rfl⟩ := H
    go_enter Try.func44, Try.ntmps44
    go_wp2_with (first | ((with_reducible refine gate_dst (N := 1) rfl ?_); refine box_event ?hg (N := 1) ?hd (cs := #[.int .i64 a0_0, .int .i64 a0_1]) (t := 52) ?hr ?_; (case hd => rfl); (case hg => rfl); (case hr => first | (go_simp; done) | (go_simp; rfl)); intro gb562 hg w13 hbox hb; have n0_ := Aside0.mk (below_step (by repeat (first | (with_reducible first | exact HB.out | apply below_alloc | apply pw_below_drewN | apply below_drew1) | exact HB.out)) hb); have n1_ := Aside0.mk (hbox); have n2_ := Aside0.mk ((by rw [hg]; exact (below_size (by repeat (first | (with_reducible first | exact HB.out | apply below_alloc | apply pw_below_drewN | apply below_drew1) | exact HB.out))) : w.heap.size ≤ gb562)); have n3_ := Aside0.mk ((by rw [hg]; exact (below_size (by repeat (first | (with_reducible first | exact HB.out | apply below_alloc | apply pw_below_drewN | apply below_drew1) | exact HB.out))) : w.heap.size ≤ gb562)); clear HB; have HB := n0_; have BK562 := n1_; have GW562 := n2_; have GE562 := n3_; clear n0_ n1_ n2_ n3_; clear hb hbox hg; have hcz14_0 : w13.cell? ⟨gb562, 0, none⟩ = some (.int .i64 a0_0) := (blk_cell BK562.out 0).trans rfl; have hcz14_1 : w13.cell? ⟨gb562, 1, none⟩ = some (.int .i64 a0_1) := (blk_cell BK562.out 1).trans rfl; have hfz14_0 := blk_frozen BK562.out 0; have hfz14_1 := blk_frozen BK562.out 1) | ((with_reducible refine gate_callee (f := 77) rfl ?_); refine goesL_ (some 6) rfl rfl Try.func77 (by kernel_rfl) rfl #[.agg #[.int .i64 a0_0, .int .i64 a0_1]] rfl (by (try simp only [List.map_toArray, List.map_cons, List.map_nil]); first | done | rfl | (simp only [List.length_drop, List.length_take]; rfl)) ?_; (with_reducible refine (impl_IsStar.calls a0_0 a0_1 false _ A2.out).mono ?_); rintro e w15 ⟨rfl, hb⟩; refine ⟨_, rfl, ?_⟩; have n0_ := Aside0.mk (blk_below (g := gb562) (o := .cells #[.int .i64 a0_0, .int .i64 a0_1] 52 (0, 0)) (by (with_reducible repeat (first | refine blk_drewN ?_ _ | refine blk_drew ?_ | refine blk_alloc ?_ _)); exact BK562.out) hb); have n1_ := Aside0.mk (below_step (by repeat (first | (with_reducible first | exact HB.out | apply below_alloc | apply pw_below_drewN | apply below_drew1 | refine below_set ?_ GE562.out) | exact HB.out)) hb); clear BK562; clear HB; have BK562 := n0_; have HB := n1_; clear n0_ n1_; (try clear hb); (try clear hb2); (try clear hk); (try clear hi)))
    go_ret2
    exact ⟨by first | rfl | (simp [errW_none, errW_some] <;> rfl) | (simp [*, errW_none, errW_some] <;> rfl), by repeat (first | (with_reducible first | exact HB.out | apply below_alloc | apply pw_below_drewN | apply below_drew1 | refine below_set ?_ GE562.out) | exact HB.out)⟩

end Go.Proofs.Ytijhoifcpijeiaa.Pr

-- Written by a program for this claim.
namespace Go.Proofs.Ytijhoifcpijeiaa.Pr
open Go.RowKit Go.Proofs.YtijhoifcpijeiaaW.PrintWords Go.Proofs.YtijhoifcpijeiaaW.PrintLast Go.Proofs.YtijhoifcpijeiaaW.PrintMore
attribute [local go_sem] max2_int min2_int max_two min_two max_three min_three max_four min_four   -- for this text's walks alone
set_option linter.unusedVariables false
set_option linter.unusedSimpArgs false

/-! ### laws_FnExactRegionsOfStar: function 13 -/
def laws_FnExactRegionsOfStar.f (k : Nat) (a0_0 : Int) (a0_1 : Int) : Option (Bool) := (laws_toStar.f a0_0 a0_1).bind fun bt569 => ((spec_RegionsOfStar.f k bt569.1 bt569.2).bind fun bt571 => ((laws_toStar.f a0_0 a0_1).bind fun bt573 => ((impl_RegionsOfStar.f k bt573.1 bt573.2).bind fun bt575 => (if bt575.1 = bt571.1 then (if (bt575.2 != bt571.2) = true then (some false) else (some true)) else (some false)))))
theorem laws_FnExactRegionsOfStar.mono : ∀ a0 a1 k, LeO (laws_FnExactRegionsOfStar.f k a0 a1) (laws_FnExactRegionsOfStar.f (k + 1) a0 a1) := by
  intro a0 a1 k
  unfold laws_FnExactRegionsOfStar.f
  repeat' first
      | (with_reducible exact impl_RegionsOfStar.mono _ _ _)
      | (with_reducible exact spec_RegionsOfStar.mono _ _ _)
      | (with_reducible exact LeO.refl _)
      | (with_reducible exact LeO.none _)
      | (with_reducible refine LeO.ite ?_ ?_)
      | (with_reducible refine LeO.bind ?_ (fun _ => ?_))
      | exact impl_RegionsOfStar.mono _ _ _
      | exact spec_RegionsOfStar.mono _ _ _
      | exact LeO.none _
      | refine LeO.ite ?_ ?_
      | refine LeO.bind ?_ (fun _ => ?_)
set_option maxHeartbeats 8000000 in
set_option maxRecDepth 100000 in
theorem laws_FnExactRegionsOfStar.calls (k : Nat) (a0_0 : Int) (a0_1 : Int) (r : Bool) (w : World) (h : laws_FnExactRegionsOfStar.f k a0_0 a0_1 = some r) :
    Calls Try.prog 13 #[.agg #[.int .i64 a0_0, .int .i64 a0_1]] w fun e w' => e = .returned (.bool r) ∧ Below w.heap.size w w' := by
  have hu50 := Try.underlying50
  have HB := Aside0.mk (Below.refl w.heap.size w)
  have H : ((laws_toStar.f a0_0 a0_1).bind fun bt569 => ((spec_RegionsOfStar.f k bt569.1 bt569.2).bind fun bt571 => ((laws_toStar.f a0_0 a0_1).bind fun bt573 => ((impl_RegionsOfStar.f k bt573.1 bt573.2).bind fun bt575 => (if bt575.1 = bt571.1 then (if (bt575.2 != bt571.2) = true then (some false) else (some true)) else (some false)))))) = some r := h
  clear h
  replace H := Option.bind_eq_some_iff.mp H
  obtain ⟨⟨t569, t570⟩, A20, H⟩ := H
  replace H : ((spec_RegionsOfStar.f k t569 t570).bind fun bt571 => ((laws_toStar.f a0_0 a0_1).bind fun bt573 => ((impl_RegionsOfStar.f k bt573.1 bt573.2).bind fun bt575 => (if bt575.1 = bt571.1 then (if (bt575.2 != bt571.2) = true then (some false) else (some true)) else (some false))))) = some r := H
  have A2 := Aside0.mk A20
  clear A20
  replace H := Option.bind_eq_some_iff.mp H
  obtain ⟨⟨t571, t572⟩, A30, H⟩ := H
  replace H : ((laws_toStar.f a0_0 a0_1).bind fun bt573 => ((impl_RegionsOfStar.f k bt573.1 bt573.2).bind fun bt575 => (if bt575.1 = t571 then (if (bt575.2 != t572) = true then (some false) else (some true)) else (some false)))) = some r := H
  have A3 := Aside0.mk A30
  clear A30
  replace H := Option.bind_eq_some_iff.mp H
  obtain ⟨⟨t573, t574⟩, A40, H⟩ := H
  replace H : ((impl_RegionsOfStar.f k t573 t574).bind fun bt575 => (if bt575.1 = t571 then (if (bt575.2 != t572) = true then (some false) else (some true)) else (some false))) = some r := H
  have A4 := Aside0.mk A40
  clear A40
  replace H := Option.bind_eq_some_iff.mp H
  obtain ⟨⟨t575, t576⟩, A50, H⟩ := H
  replace H : (if t575 = t571 then (if (t576 != t572) = true then (some false) else (some true)) else (some false)) = some r := H
  have A5 := Aside0.mk A50
  clear A50
  by_cases c6 : t575 = t571
  · rw [if_pos c6] at H
    have c6b0 : (t575 == t571) = true := beq_iff_eq.mpr c6
    have c6b1 : (t575 != t571) = false := bne_eq_false_iff_eq.mpr c6
    clear c6
    by_cases c7 : (t576 != t572) = true
    · rw [if_pos c7] at H
      have c7b0 : (t576 != t572) = true := c7
      (try (have c7b1 : decide (t576 = t572) = false := by simpa using c7))
      (try (have c7b2 : (t576 == t572) = false := by simpa using c7))
      (try (have c7b3 : ¬ (t576 = t572) := by simpa using c7))
      clear c7
      obtain rfl := Option.some.inj H
      go_enter Try.func13, Try.ntmps13
      go_wp2_with (first | ((with_reducible refine gate_dst (N := 1) rfl ?_); refine box_event ?hg (N := 1) ?hd (cs := #[.int .i64 a0_0, .int .i64 a0_1]) (t := 50) ?hr ?_; (case hd => rfl); (case hg => rfl); (case hr => first | (go_simp; done) | (go_simp; rfl)); intro gb568 hg w8 hbox hb; have n0_ := Aside0.mk (below_step (by repeat (first | (with_reducible first | exact HB.out | apply below_alloc | apply pw_below_drewN | apply below_drew1) | exact HB.out)) hb); have n1_ := Aside0.mk (hbox); have n2_ := Aside0.mk ((by rw [hg]; exact (below_size (by repeat (first | (with_reducible first | exact HB.out | apply below_alloc | apply pw_below_drewN | apply below_drew1) | exact HB.out))) : w.heap.size ≤ gb568)); have n3_ := Aside0.mk ((by rw [hg]; exact (below_size (by repeat (first | (with_reducible first | exact HB.out | apply below_alloc | apply pw_below_drewN | apply below_drew1) | exact HB.out))) : w.heap.size ≤ gb568)); clear HB; have HB := n0_; have BK568 := n1_; have GW568 := n2_; have GE568 := n3_; clear n0_ n1_ n2_ n3_; clear hb hbox hg; have hcz9_0 : w8.cell? ⟨gb568, 0, none⟩ = some (.int .i64 a0_0) := (blk_cell BK568.out 0).trans rfl; have hcz9_1 : w8.cell? ⟨gb568, 1, none⟩ = some (.int .i64 a0_1) := (blk_cell BK568.out 1).trans rfl; have hfz9_0 := blk_frozen BK568.out 0; have hfz9_1 := blk_frozen BK568.out 1) | ((with_reducible refine gate_callee (f := 43) rfl ?_); refine goesL_ (some 9) rfl rfl Try.func43 (by kernel_rfl) rfl #[.agg #[.int .i64 a0_0, .int .i64 a0_1]] rfl (by (try simp only [List.map_toArray, List.map_cons, List.map_nil]); first | done | rfl | (simp only [List.length_drop, List.length_take]; rfl)) ?_; (with_reducible refine (laws_toStar.calls a0_0 a0_1 t569 t570 _ A2.out).mono ?_); rintro e w10 ⟨rfl, hb⟩; refine ⟨_, rfl, ?_⟩; have n0_ := Aside0.mk (blk_below (g := gb568) (o := .cells #[.int .i64 a0_0, .int .i64 a0_1] 50 (0, 0)) (by (with_reducible repeat (first | refine blk_drewN ?_ _ | refine blk_drew ?_ | refine blk_alloc ?_ _)); exact BK568.out) hb); have n1_ := Aside0.mk (below_step (by repeat (first | (with_reducible first | exact HB.out | apply below_alloc | apply pw_below_drewN | apply below_drew1 | refine below_set ?_ GE568.out) | exact HB.out)) hb); clear BK568; clear HB; have BK568 := n0_; have HB := n1_; clear n0_ n1_; (try clear hb); (try clear hb2); (try clear hk); (try clear hi)) | ((with_reducible refine gate_callee (f := 42) rfl ?_); refine goesL_ (some 10) rfl rfl Try.func42 (by kernel_rfl) rfl #[.agg #[.int .i64 t569, .int .i64 t570]] rfl (by (try simp only [List.map_toArray, List.map_cons, List.map_nil]); first | done | rfl | (simp only [List.length_drop, List.length_take]; rfl)) ?_; (with_reducible refine (spec_RegionsOfStar.calls k t569 t570 t571 t572 _ A3.out).mono ?_); rintro e w11 ⟨rfl, hb⟩; refine ⟨_, rfl, ?_⟩; have n0_ := Aside0.mk (blk_below (g := gb568) (o := .cells #[.int .i64 a0_0, .int .i64 a0_1] 50 (0, 0)) (by (with_reducible repeat (first | refine blk_drewN ?_ _ | refine blk_drew ?_ | refine blk_alloc ?_ _)); exact BK568.out) hb); have n1_ := Aside0.mk (below_step (by repeat (first | (with_reducible first | exact HB.out | apply below_alloc | apply pw_below_drewN | apply below_drew1 | refine below_set ?_ GE568.out) | exact HB.out)) hb); clear BK568; clear HB; have BK568 := n0_; have HB := n1_; clear n0_ n1_; (try clear hb); (try clear hb2); (try clear hk); (try clear hi); have hcz12_0 : w11.cell? ⟨gb568, 0, none⟩ = some (.int .i64 a0_0) := (blk_cell BK568.out 0).trans rfl; have hcz12_1 : w11.cell? ⟨gb568, 1, none⟩ = some (.int .i64 a0_1) := (blk_cell BK568.out 1).trans rfl; have hfz12_0 := blk_frozen BK568.out 0; have hfz12_1 := blk_frozen BK568.out 1) | ((with_reducible refine gate_callee (f := 43) rfl ?_); refine goesL_ (some 15) rfl rfl Try.func43 (by kernel_rfl) rfl #[.agg #[.int .i64 a0_0, .int .i64 a0_1]] rfl (by (try simp only [List.map_toArray, List.map_cons, List.map_nil]); first | done | rfl | (simp only [List.length_drop, List.length_take]; rfl)) ?_; (with_reducible refine (laws_toStar.calls a0_0 a0_1 t573 t574 _ A4.out).mono ?_); rintro e w13 ⟨rfl, hb⟩; refine ⟨_, rfl, ?_⟩; have n0_ := Aside0.mk (blk_below (g := gb568) (o := .cells #[.int .i64 a0_0, .int .i64 a0_1] 50 (0, 0)) (by (with_reducible repeat (first | refine blk_drewN ?_ _ | refine blk_drew ?_ | refine blk_alloc ?_ _)); exact BK568.out) hb); have n1_ := Aside0.mk (below_step (by repeat (first | (with_reducible first | exact HB.out | apply below_alloc | apply pw_below_drewN | apply below_drew1 | refine below_set ?_ GE568.out) | exact HB.out)) hb); clear BK568; clear HB; have BK568 := n0_; have HB := n1_; clear n0_ n1_; (try clear hb); (try clear hb2); (try clear hk); (try clear hi)) | ((with_reducible refine gate_callee (f := 44) rfl ?_); refine goesL_ (some 16) rfl rfl Try.func44 (by kernel_rfl) rfl #[.agg #[.int .i64 t573, .int .i64 t574]] rfl (by (try simp only [List.map_toArray, List.map_cons, List.map_nil]); first | done | rfl | (simp only [List.length_drop, List.length_take]; rfl)) ?_; (with_reducible refine (impl_RegionsOfStar.calls k t573 t574 t575 t576 _ A5.out).mono ?_); rintro e w14 ⟨rfl, hb⟩; refine ⟨_, rfl, ?_⟩; have n0_ := Aside0.mk (blk_below (g := gb568) (o := .cells #[.int .i64 a0_0, .int .i64 a0_1] 50 (0, 0)) (by (with_reducible repeat (first | refine blk_drewN ?_ _ | refine blk_drew ?_ | refine blk_alloc ?_ _)); exact BK568.out) hb); have n1_ := Aside0.mk (below_step (by repeat (first | (with_reducible first | exact HB.out | apply below_alloc | apply pw_below_drewN | apply below_drew1 | refine below_set ?_ GE568.out) | exact HB.out)) hb); clear BK568; clear HB; have BK568 := n0_; have HB := n1_; clear n0_ n1_; (try clear hb); (try clear hb2); (try clear hk); (try clear hi)))
      go_ret
      exact ⟨by first | rfl | (simp [errW_none, errW_some] <;> rfl) | (simp [*, errW_none, errW_some] <;> rfl), by repeat (first | (with_reducible first | exact HB.out | apply below_alloc | apply pw_below_drewN | apply below_drew1 | refine below_set ?_ GE568.out) | exact HB.out)⟩
    · rw [if_neg c7] at H
      have c7b0 : (t576 != t572) = false := by simpa using c7
      (try (have c7b1 : decide (t576 = t572) = true := by simpa using c7))
      (try (have c7b2 : (t576 == t572) = true := by simpa using c7))
      clear c7
      obtain rfl := Option.some.inj H
      go_enter Try.func13, Try.ntmps13
      go_wp2_with (first | ((with_reducible refine gate_dst (N := 1) rfl ?_); refine box_event ?hg (N := 1) ?hd (cs := #[.int .i64 a0_0, .int .i64 a0_1]) (t := 50) ?hr ?_; (case hd => rfl); (case hg => rfl); (case hr => first | (go_simp; done) | (go_simp; rfl)); intro gb568 hg w15 hbox hb; have n0_ := Aside0.mk (below_step (by repeat (first | (with_reducible first | exact HB.out | apply below_alloc | apply pw_below_drewN | apply below_drew1) | exact HB.out)) hb); have n1_ := Aside0.mk (hbox); have n2_ := Aside0.mk ((by rw [hg]; exact (below_size (by repeat (first | (with_reducible first | exact HB.out | apply below_alloc | apply pw_below_drewN | apply below_drew1) | exact HB.out))) : w.heap.size ≤ gb568)); have n3_ := Aside0.mk ((by rw [hg]; exact (below_size (by repeat (first | (with_reducible first | exact HB.out | apply below_alloc | apply pw_below_drewN | apply below_drew1) | exact HB.out))) : w.heap.size ≤ gb568)); clear HB; have HB := n0_; have BK568 := n1_; have GW568 := n2_; have GE568 := n3_; clear n0_ n1_ n2_ n3_; clear hb hbox hg; have hcz16_0 : w15.cell? ⟨gb568, 0, none⟩ = some (.int .i64 a0_0) := (blk_cell BK568.out 0).trans rfl; have hcz16_1 : w15.cell? ⟨gb568, 1, none⟩ = some (.int .i64 a0_1) := (blk_cell BK568.out 1).trans rfl; have hfz16_0 := blk_frozen BK568.out 0; have hfz16_1 := blk_frozen BK568.out 1) | ((with_reducible refine gate_callee (f := 43) rfl ?_); refine goesL_ (some 9) rfl rfl Try.func43 (by kernel_rfl) rfl #[.agg #[.int .i64 a0_0, .int .i64 a0_1]] rfl (by (try simp only [List.map_toArray, List.map_cons, List.map_nil]); first | done | rfl | (simp only [List.length_drop, List.length_take]; rfl)) ?_; (with_reducible refine (laws_toStar.calls a0_0 a0_1 t569 t570 _ A2.out).mono ?_); rintro e w17 ⟨rfl, hb⟩; refine ⟨_, rfl, ?_⟩; have n0_ := Aside0.mk (blk_below (g := gb568) (o := .cells #[.int .i64 a0_0, .int .i64 a0_1] 50 (0, 0)) (by (with_reducible repeat (first | refine blk_drewN ?_ _ | refine blk_drew ?_ | refine blk_alloc ?_ _)); exact BK568.out) hb); have n1_ := Aside0.mk (below_step (by repeat (first | (with_reducible first | exact HB.out | apply below_alloc | apply pw_below_drewN | apply below_drew1 | refine below_set ?_ GE568.out) | exact HB.out)) hb); clear BK568; clear HB; have BK568 := n0_; have HB := n1_; clear n0_ n1_; (try clear hb); (try clear hb2); (try clear hk); (try clear hi)) | ((with_reducible refine gate_callee (f := 42) rfl ?_); refine goesL_ (some 10) rfl rfl Try.func42 (by kernel_rfl) rfl #[.agg #[.int .i64 t569, .int .i64 t570]] rfl (by (try simp only [List.map_toArray, List.map_cons, List.map_nil]); first | done | rfl | (simp only [List.length_drop, List.length_take]; rfl)) ?_; (with_reducible refine (spec_RegionsOfStar.calls k t569 t570 t571 t572 _ A3.out).mono ?_); rintro e w18 ⟨rfl, hb⟩; refine ⟨_, rfl, ?_⟩; have n0_ := Aside0.mk (blk_below (g := gb568) (o := .cells #[.int .i64 a0_0, .int .i64 a0_1] 50 (0, 0)) (by (with_reducible repeat (first | refine blk_drewN ?_ _ | refine blk_drew ?_ | refine blk_alloc ?_ _)); exact BK568.out) hb); have n1_ := Aside0.mk (below_step (by repeat (first | (with_reducible first | exact HB.out | apply below_alloc | apply pw_below_drewN | apply below_drew1 | refine below_set ?_ GE568.out) | exact HB.out)) hb); clear BK568; clear HB; have BK568 := n0_; have HB := n1_; clear n0_ n1_; (try clear hb); (try clear hb2); (try clear hk); (try clear hi); have hcz19_0 : w18.cell? ⟨gb568, 0, none⟩ = some (.int .i64 a0_0) := (blk_cell BK568.out 0).trans rfl; have hcz19_1 : w18.cell? ⟨gb568, 1, none⟩ = some (.int .i64 a0_1) := (blk_cell BK568.out 1).trans rfl; have hfz19_0 := blk_frozen BK568.out 0; have hfz19_1 := blk_frozen BK568.out 1) | ((with_reducible refine gate_callee (f := 43) rfl ?_); refine goesL_ (some 15) rfl rfl Try.func43 (by kernel_rfl) rfl #[.agg #[.int .i64 a0_0, .int .i64 a0_1]] rfl (by (try simp only [List.map_toArray, List.map_cons, List.map_nil]); first | done | rfl | (simp only [List.length_drop, List.length_take]; rfl)) ?_; (with_reducible refine (laws_toStar.calls a0_0 a0_1 t573 t574 _ A4.out).mono ?_); rintro e w20 ⟨rfl, hb⟩; refine ⟨_, rfl, ?_⟩; have n0_ := Aside0.mk (blk_below (g := gb568) (o := .cells #[.int .i64 a0_0, .int .i64 a0_1] 50 (0, 0)) (by (with_reducible repeat (first | refine blk_drewN ?_ _ | refine blk_drew ?_ | refine blk_alloc ?_ _)); exact BK568.out) hb); have n1_ := Aside0.mk (below_step (by repeat (first | (with_reducible first | exact HB.out | apply below_alloc | apply pw_below_drewN | apply below_drew1 | refine below_set ?_ GE568.out) | exact HB.out)) hb); clear BK568; clear HB; have BK568 := n0_; have HB := n1_; clear n0_ n1_; (try clear hb); (try clear hb2); (try clear hk); (try clear hi)) | ((with_reducible refine gate_callee (f := 44) rfl ?_); refine goesL_ (some 16) rfl rfl Try.func44 (by kernel_rfl) rfl #[.agg #[.int .i64 t573, .int .i64 t574]] rfl (by (try simp only [List.map_toArray, List.map_cons, List.map_nil]); first | done | rfl | (simp only [List.length_drop, List.length_take]; rfl)) ?_; (with_reducible refine (impl_RegionsOfStar.calls k t573 t574 t575 t576 _ A5.out).mono ?_); rintro e w21 ⟨rfl, hb⟩; refine ⟨_, rfl, ?_⟩; have n0_ := Aside0.mk (blk_below (g := gb568) (o := .cells #[.int .i64 a0_0, .int .i64 a0_1] 50 (0, 0)) (by (with_reducible repeat (first | refine blk_drewN ?_ _ | refine blk_drew ?_ | refine blk_alloc ?_ _)); exact BK568.out) hb); have n1_ := Aside0.mk (below_step (by repeat (first | (with_reducible first | exact HB.out | apply below_alloc | apply pw_below_drewN | apply below_drew1 | refine below_set ?_ GE568.out) | exact HB.out)) hb); clear BK568; clear HB; have BK568 := n0_; have HB := n1_; clear n0_ n1_; (try clear hb); (try clear hb2); (try clear hk); (try clear hi)))
      go_ret
      exact ⟨by first | rfl | (simp [errW_none, errW_some] <;> rfl) | (simp [*, errW_none, errW_some] <;> rfl), by repeat (first | (with_reducible first | exact HB.out | apply below_alloc | apply pw_below_drewN | apply below_drew1 | refine below_set ?_ GE568.out) | exact HB.out)⟩
  · rw [if_neg c6] at H
    have c6b0 : (t575 == t571) = false := beq_eq_false_iff_ne.mpr c6
    have c6b1 : (t575 != t571) = true := bne_iff_ne.mpr c6
    obtain rfl := Option.some.inj H
    go_enter Try.func13, Try.ntmps13
    go_wp2_with (first | ((with_reducible refine gate_dst (N := 1) rfl ?_); refine box_event ?hg (N := 1) ?hd (cs := #[.int .i64 a0_0, .int .i64 a0_1]) (t := 50) ?hr ?_; (case hd => rfl); (case hg => rfl); (case hr => first | (go_simp; done) | (go_simp; rfl)); intro gb568 hg w22 hbox hb; have n0_ := Aside0.mk (below_step (by repeat (first | (with_reducible first | exact HB.out | apply below_alloc | apply pw_below_drewN | apply below_drew1) | exact HB.out)) hb); have n1_ := Aside0.mk (hbox); have n2_ := Aside0.mk ((by rw [hg]; exact (below_size (by repeat (first | (with_reducible first | exact HB.out | apply below_alloc | apply pw_below_drewN | apply below_drew1) | exact HB.out))) : w.heap.size ≤ gb568)); have n3_ := Aside0.mk ((by rw [hg]; exact (below_size (by repeat (first | (with_reducible first | exact HB.out | apply below_alloc | apply pw_below_drewN | apply below_drew1) | exact HB.out))) : w.heap.size ≤ gb568)); clear HB; have HB := n0_; have BK568 := n1_; have GW568 := n2_; have GE568 := n3_; clear n0_ n1_ n2_ n3_; clear hb hbox hg; have hcz23_0 : w22.cell? ⟨gb568, 0, none⟩ = some (.int .i64 a0_0) := (blk_cell BK568.out 0).trans rfl; have hcz23_1 : w22.cell? ⟨gb568, 1, none⟩ = some (.int .i64 a0_1) := (blk_cell BK568.out 1).trans rfl; have hfz23_0 := blk_frozen BK568.out 0; have hfz23_1 := blk_frozen BK568.out 1) | ((with_reducible refine gate_callee (f := 43) rfl ?_); refine goesL_ (some 9) rfl rfl Try.func43 (by kernel_rfl) rfl #[.agg #[.int .i64 a0_0, .int .i64 a0_1]] rfl (by (try simp only [List.map_toArray, List.map_cons, List.map_nil]); first | done | rfl | (simp only [List.length_drop, List.length_take]; rfl)) ?_; (with_reducible refine (laws_toStar.calls a0_0 a0_1 t569 t570 _ A2.out).mono ?_); rintro e w24 ⟨rfl, hb⟩; refine ⟨_, rfl, ?_⟩; have n0_ := Aside0.mk (blk_below (g := gb568) (o := .cells #[.int .i64 a0_0, .int .i64 a0_1] 50 (0, 0)) (by (with_reducible repeat (first | refine blk_drewN ?_ _ | refine blk_drew ?_ | refine blk_alloc ?_ _)); exact BK568.out) hb); have n1_ := Aside0.mk (below_step (by repeat (first | (with_reducible first | exact HB.out | apply below_alloc | apply pw_below_drewN | apply below_drew1 | refine below_set ?_ GE568.out) | exact HB.out)) hb); clear BK568; clear HB; have BK568 := n0_; have HB := n1_; clear n0_ n1_; (try clear hb); (try clear hb2); (try clear hk); (try clear hi)) | ((with_reducible refine gate_callee (f := 42) rfl ?_); refine goesL_ (some 10) rfl rfl Try.func42 (by kernel_rfl) rfl #[.agg #[.int .i64 t569, .int .i64 t570]] rfl (by (try simp only [List.map_toArray, List.map_cons, List.map_nil]); first | done | rfl | (simp only [List.length_drop, List.length_take]; rfl)) ?_; (with_reducible refine (spec_RegionsOfStar.calls k t569 t570 t571 t572 _ A3.out).mono ?_); rintro e w25 ⟨rfl, hb⟩; refine ⟨_, rfl, ?_⟩; have n0_ := Aside0.mk (blk_below (g := gb568) (o := .cells #[.int .i64 a0_0, .int .i64 a0_1] 50 (0, 0)) (by (with_reducible repeat (first | refine blk_drewN ?_ _ | refine blk_drew ?_ | refine blk_alloc ?_ _)); exact BK568.out) hb); have n1_ := Aside0.mk (below_step (by repeat (first | (with_reducible first | exact HB.out | apply below_alloc | apply pw_below_drewN | apply below_drew1 | refine below_set ?_ GE568.out) | exact HB.out)) hb); clear BK568; clear HB; have BK568 := n0_; have HB := n1_; clear n0_ n1_; (try clear hb); (try clear hb2); (try clear hk); (try clear hi); have hcz26_0 : w25.cell? ⟨gb568, 0, none⟩ = some (.int .i64 a0_0) := (blk_cell BK568.out 0).trans rfl; have hcz26_1 : w25.cell? ⟨gb568, 1, none⟩ = some (.int .i64 a0_1) := (blk_cell BK568.out 1).trans rfl; have hfz26_0 := blk_frozen BK568.out 0; have hfz26_1 := blk_frozen BK568.out 1) | ((with_reducible refine gate_callee (f := 43) rfl ?_); refine goesL_ (some 15) rfl rfl Try.func43 (by kernel_rfl) rfl #[.agg #[.int .i64 a0_0, .int .i64 a0_1]] rfl (by (try simp only [List.map_toArray, List.map_cons, List.map_nil]); first | done | rfl | (simp only [List.length_drop, List.length_take]; rfl)) ?_; (with_reducible refine (laws_toStar.calls a0_0 a0_1 t573 t574 _ A4.out).mono ?_); rintro e w27 ⟨rfl, hb⟩; refine ⟨_, rfl, ?_⟩; have n0_ := Aside0.mk (blk_below (g := gb568) (o := .cells #[.int .i64 a0_0, .int .i64 a0_1] 50 (0, 0)) (by (with_reducible repeat (first | refine blk_drewN ?_ _ | refine blk_drew ?_ | refine blk_alloc ?_ _)); exact BK568.out) hb); have n1_ := Aside0.mk (below_step (by repeat (first | (with_reducible first | exact HB.out | apply below_alloc | apply pw_below_drewN | apply below_drew1 | refine below_set ?_ GE568.out) | exact HB.out)) hb); clear BK568; clear HB; have BK568 := n0_; have HB := n1_; clear n0_ n1_; (try clear hb); (try clear hb2); (try clear hk); (try clear hi)) | ((with_reducible refine gate_callee (f := 44) rfl ?_); refine goesL_ (some 16) rfl rfl Try.func44 (by kernel_rfl) rfl #[.agg #[.int .i64 t573, .int .i64 t574]] rfl (by (try simp only [List.map_toArray, List.map_cons, List.map_nil]); first | done | rfl | (simp only [List.length_drop, List.length_take]; rfl)) ?_; (with_reducible refine (impl_RegionsOfStar.calls k t573 t574 t575 t576 _ A5.out).mono ?_); rintro e w28 ⟨rfl, hb⟩; refine ⟨_, rfl, ?_⟩; have n0_ := Aside0.mk (blk_below (g := gb568) (o := .cells #[.int .i64 a0_0, .int .i64 a0_1] 50 (0, 0)) (by (with_reducible repeat (first | refine blk_drewN ?_ _ | refine blk_drew ?_ | refine blk_alloc ?_ _)); exact BK568.out) hb); have n1_ := Aside0.mk (below_step (by repeat (first | (with_reducible first | exact HB.out | apply below_alloc | apply pw_below_drewN | apply below_drew1 | refine below_set ?_ GE568.out) | exact HB.out)) hb); clear BK568; clear HB; have BK568 := n0_; have HB := n1_; clear n0_ n1_; (try clear hb); (try clear hb2); (try clear hk); (try clear hi)))
    go_ret
    exact ⟨by first | rfl | (simp [errW_none, errW_some] <;> rfl) | (simp [*, errW_none, errW_some] <;> rfl), by repeat (first | (with_reducible first | exact HB.out | apply below_alloc | apply pw_below_drewN | apply below_drew1 | refine below_set ?_ GE568.out) | exact HB.out)⟩

end Go.Proofs.Ytijhoifcpijeiaa.Pr

/- How many chords cross. -/
namespace Go.Proofs.Ytijhoifcpijeiaa.M
open Go.RowKit Go.Proofs.YtijhoifcpijeiaaW.PrintWords Go.Proofs.Ytijhoifcpijeiaa.Pr
set_option linter.unusedVariables false
set_option linter.unusedSimpArgs false

theorem Ev.cps {α β γ : Type} (L : Nat → Int → β → Option γ) (K : Nat → β → Option γ) (xs : List α) (F : List α → β → β) (P : Nat → β → Prop)
    (h0 : ∀ acc r, P xs.length acc → Ev (fun k => K k (F [] acc)) r → Ev (fun k => L k (xs.length : Int) acc) r)
    (h1 : ∀ (i : Nat) (h : i < xs.length) (acc : β), P i acc → ∃ acc', P (i + 1) acc' ∧ F (xs[i] :: xs.drop (i + 1)) acc = F (xs.drop (i + 1)) acc' ∧ ∀ r, Ev (fun k => L k ((i : Int) + 1) acc') r → Ev (fun k => L k (i : Int) acc) r) :
    ∀ (d i : Nat) (acc : β) (r : γ), i + d = xs.length → P i acc → Ev (fun k => K k (F (xs.drop i) acc)) r → Ev (fun k => L k (i : Int) acc) r := by
  intro d
  induction d with
  | zero =>
    intro i acc r hi hp hr
    obtain rfl : i = xs.length := by omega
    rw [List.drop_length] at hr
    exact h0 acc r hp hr
  | succ d ih =>
    intro i acc r hi hp hr
    have hlt : i < xs.length := by omega
    rw [List.drop_eq_getElem_cons hlt] at hr
    obtain ⟨acc', hp', hF, hk⟩ := h1 i hlt acc hp
    rw [hF] at hr
    refine hk r ?_
    have e := ih (i + 1) acc' r (by omega) hp' hr
    rw [show (((i + 1 : Nat)) : Int) = (i : Int) + 1 from by omega] at e
    exact e

def cnt (c : Ch) (l : List Ch) : Nat := l.countP (crB c)
theorem cnt_pos {c d : Ch} (r : List Ch) (h : crB c d = true) : cnt c (d :: r) = cnt c r + 1 := by
  unfold cnt
  rw [List.countP_cons, if_pos h]
theorem cnt_neg {c d : Ch} (r : List Ch) (h : ¬ crB c d = true) : cnt c (d :: r) = cnt c r := by
  unfold cnt
  rw [List.countP_cons, if_neg h]
  rfl
theorem cnt_le (c : Ch) (l : List Ch) : cnt c l ≤ l.length := List.countP_le_length

theorem crossed_ev (l : List Ch) (c : Ch) (hl : l.length ≤ 4611686018427387904) : Ev (fun k => impl_crossed.f k l c.f0 c.f1) (cnt c l : Int) := by
  unfold impl_crossed.f
  have e := Ev.scan0 (fun k i (acc : Int) => impl_crossed.l0 k acc l (l.length : Int) i c.f0 c.f1) l (fun rest acc => acc + (cnt c rest : Int)) (fun i acc => 0 ≤ acc ∧ acc ≤ i)
    (fun acc hp => by
      refine Ev.step (fun k => by rw [impl_crossed.l0]) ?_
      exact Ev.neg (by omega) (Ev.val (by simp [cnt])))
    (fun i h acc hp => by
      have hr := rd_ch l i h
      by_cases hc : crB c l[i] = true
      · refine .inl ⟨acc + 1, ⟨by omega, by omega⟩, by rw [cnt_pos _ hc]; omega, fun r hr2 => ?_⟩
        refine Ev.step (fun k => by rw [impl_crossed.l0]) ?_
        refine Ev.pos (by omega) (Ev.pos (by omega) (Ev.pos (by omega) ?_))
        rw [hr]
        refine Ev.bindc (crossing_eq _ _) (Ev.pos hc ?_)
        rw [w64 (x := (i : Int) + 1) (by omega) (by omega), w64 (x := acc + 1) (by omega) (by omega)]
        exact hr2
      · refine .inl ⟨acc, ⟨by omega, by omega⟩, by rw [cnt_neg _ hc], fun r hr2 => ?_⟩
        refine Ev.step (fun k => by rw [impl_crossed.l0]) ?_
        refine Ev.pos (by omega) (Ev.pos (by omega) (Ev.pos (by omega) ?_))
        rw [hr]
        refine Ev.bindc (crossing_eq _ _) (Ev.neg hc ?_)
        rw [w64 (x := (i : Int) + 1) (by omega) (by omega)]
        exact hr2)
    0 ⟨by omega, by omega⟩
  simpa using e

/-- Pairs of chords that cross, each chord with those behind it. -/
def pairsN : List Ch → Nat
  | [] => 0
  | c :: r => cnt c r + pairsN r
/-- The same, each chord with those ahead of it. -/
def aheadN : List Ch → List Ch → Nat
  | _, [] => 0
  | pre, c :: r => cnt c pre + aheadN (pre ++ [c]) r
def withN (pre : List Ch) (l : List Ch) : Nat := (l.map fun c => cnt c pre).sum
theorem withN_cons (pre : List Ch) (c : Ch) : ∀ l : List Ch, withN (pre ++ [c]) l = withN pre l + cnt c l
  | [] => by simp [withN, cnt]
  | d :: r => by
    have ih := withN_cons pre c r
    unfold withN at *
    simp only [List.map_cons, List.sum_cons, ih]
    unfold cnt
    rw [List.countP_append, List.countP_cons]
    simp only [List.countP_cons, List.countP_nil, crB_comm c d]
    omega
theorem aheadN_eq : ∀ (l pre : List Ch), aheadN pre l = withN pre l + pairsN l
  | [], pre => by simp [aheadN, withN, pairsN]
  | c :: r, pre => by
    rw [aheadN, aheadN_eq r, withN_cons, pairsN]
    simp only [withN, List.map_cons, List.sum_cons]
    omega
theorem pairs_ahead (l : List Ch) : aheadN [] l = pairsN l := by
  rw [aheadN_eq]
  have : withN [] l = 0 := by
    unfold withN
    induction l with
    | nil => rfl
    | cons c r ih => rw [List.map_cons, List.sum_cons, ih]; rfl
  omega
theorem pairsN_le : ∀ l : List Ch, pairsN l ≤ l.length * l.length
  | [] => by simp [pairsN]
  | c :: r => by
    have h1 := pairsN_le r
    have h2 := cnt_le c r
    simp only [pairsN, List.length_cons]
    have : (r.length + 1) * (r.length + 1) = r.length * r.length + 2 * r.length + 1 := by
      rw [Nat.add_mul, Nat.mul_add]; omega
    omega

theorem crossings_evB (l : List Ch) (hl : l.length ≤ 1000) : Ev (fun k => impl_crossings.f k l) (pairsN l : Int) := by
  unfold impl_crossings.f
  have e := Ev.scan0 (fun k i (acc : Int × List Ch) => impl_crossings.l0 k l acc.1 l (l.length : Int) i) l (fun rest acc => acc.1 + (aheadN acc.2 rest : Int)) (fun i acc => acc.2 = l.take i ∧ 0 ≤ acc.1 ∧ acc.1 ≤ i * 1000)
    (fun acc hp => by
      refine Ev.step (fun k => by rw [impl_crossings.l0]) ?_
      exact Ev.neg (by omega) (Ev.val (by simp [aheadN])))
    (fun i h acc hp => by
      obtain ⟨hp1, hp2, hp3⟩ := hp
      have hr := rd_ch l i h
      have hcn := cnt_le l[i] (l.take i)
      have htl : (l.take i).length = i := by rw [List.length_take]; omega
      refine .inl ⟨(acc.1 + cnt l[i] (l.take i), l.take (i + 1)), ⟨rfl, by omega, by simp only; omega⟩, ?_, fun r hr2 => ?_⟩
      · rw [hp1, aheadN, List.take_succ_eq_append_getElem h]
        simp only
        omega
      · refine Ev.step (fun k => by rw [impl_crossings.l0]) ?_
        refine Ev.pos (by omega) (Ev.pos (by omega) (Ev.pos (by omega) (Ev.pos (by omega) ?_)))
        rw [hr, Int.toNat_natCast]
        refine Ev.bindk (crossed_ev (l.take i) l[i] (by omega)) ?_
        rw [w64 (x := (i : Int) + 1) (by omega) (by omega), w64 (x := acc.1 + (cnt l[i] (l.take i) : Int)) (by omega) (by omega)]
        exact hr2)
    (0, []) ⟨by simp, by omega, by simp⟩
  simp only [pairs_ahead, Int.zero_add] at e
  exact e

theorem crossings_ev (l : List Ch) (hl : l.length ≤ 40) : Ev (fun k => impl_crossings.f k l) (pairsN l : Int) := crossings_evB l (by omega)
end Go.Proofs.Ytijhoifcpijeiaa.M

/- Rows in order, each element once: sorted and compacted, or put in one after the other. -/
namespace Go.Proofs.Ytijhoifcpijeiaa.M
open Go.Lib
set_option linter.unusedVariables false
set_option linter.unusedSimpArgs false
set_option linter.unusedSectionVars false
section
variable {α : Type} [Inhabited α] [DecidableEq α] {lt : α → α → Bool}

/-- A strict order in which two elements are the same or one is ahead of the other. -/
structure Ord (lt : α → α → Bool) : Prop where
  irrefl : ∀ x, lt x x = false
  trans : ∀ x y z, lt x y = true → lt y z = true → lt x z = true
  tri : ∀ x y, lt x y = false → lt y x = false → x = y
theorem Ord.asym (h : Ord lt) {x y : α} (h1 : lt x y = true) : lt y x = false := by
  rw [Bool.eq_false_iff]
  intro h2
  have := h.trans _ _ _ h1 h2
  rw [h.irrefl] at this
  cases this
def put (lt : α → α → Bool) : List α → α → List α
  | [], c => [c]
  | x :: r, c => if lt x c = true then x :: put lt r c else if x = c then x :: r else c :: x :: r
theorem mem_put (lt : α → α → Bool) (x c : α) : ∀ l : List α, x ∈ put lt l c ↔ x = c ∨ x ∈ l
  | [] => by simp [put]
  | y :: r => by
    have ih := mem_put lt x c r
    unfold put
    split
    · rw [List.mem_cons, ih, List.mem_cons]
      constructor
      · rintro (h | h | h)
        · exact .inr (.inl h)
        · exact .inl h
        · exact .inr (.inr h)
      · rintro (h | h | h)
        · exact .inr (.inl h)
        · exact .inl h
        · exact .inr (.inr h)
    · split
      · rename_i e
        subst e
        simp
      · simp
theorem length_put (lt : α → α → Bool) (c : α) : ∀ l : List α, (put lt l c).length ≤ l.length + 1
  | [] => by simp [put]
  | y :: r => by
    have ih := length_put lt c r
    unfold put
    split
    · simp; omega
    · split
      · simp
      · simp
def SS (lt : α → α → Bool) (l : List α) : Prop := l.Pairwise fun x y => lt x y = true
theorem ss_put (h : Ord lt) (c : α) : ∀ l : List α, SS lt l → SS lt (put lt l c)
  | [], _ => by simp [put, SS]
  | y :: r, hs => by
    obtain ⟨h1, h2⟩ := List.pairwise_cons.1 hs
    unfold put
    split
    · rename_i hy
      refine List.pairwise_cons.2 ⟨fun z hz => ?_, ss_put h c r h2⟩
      rcases (mem_put lt z c r).1 hz with rfl | hz
      · exact hy
      · exact h1 z hz
    · rename_i hy
      split
      · exact hs
      · rename_i hne
        have hcy : lt c y = true := by
          cases e : lt c y with
          | true => rfl
          | false => exact absurd (h.tri y c (Bool.eq_false_iff.2 hy) e) hne
        refine List.pairwise_cons.2 ⟨fun z hz => ?_, hs⟩
        rcases List.mem_cons.1 hz with rfl | hz
        · exact hcy
        · exact h.trans _ _ _ hcy (h1 z hz)
theorem ss_uniq (h : Ord lt) : ∀ l1 l2 : List α, SS lt l1 → SS lt l2 → (∀ x, x ∈ l1 ↔ x ∈ l2) → l1 = l2
  | [], [], _, _, _ => rfl
  | [], b :: s, _, _, hm => absurd ((hm b).2 (List.mem_cons_self ..)) (by simp)
  | a :: r, [], _, _, hm => absurd ((hm a).1 (List.mem_cons_self ..)) (by simp)
  | a :: r, b :: s, h1, h2, hm => by
    obtain ⟨p1, q1⟩ := List.pairwise_cons.1 h1
    obtain ⟨p2, q2⟩ := List.pairwise_cons.1 h2
    have hab : a = b := by
      rcases List.mem_cons.1 ((hm a).1 (List.mem_cons_self ..)) with e | ha
      · exact e
      · rcases List.mem_cons.1 ((hm b).2 (List.mem_cons_self ..)) with e | hb
        · exact e.symm
        · have x1 := p2 a ha
          have x2 := p1 b hb
          rw [h.asym x1] at x2
          cases x2
    subst hab
    rw [ss_uniq h r s q1 q2 (fun x => ?_)]
    have hx := hm x
    constructor
    · intro hr
      rcases List.mem_cons.1 (hx.1 (List.mem_cons_of_mem _ hr)) with rfl | hs
      · have := p1 x hr
        rw [h.irrefl] at this
        cases this
      · exact hs
    · intro hs
      rcases List.mem_cons.1 (hx.2 (List.mem_cons_of_mem _ hs)) with rfl | hr
      · have := p2 x hs
        rw [h.irrefl] at this
        cases this
      · exact hr

theorem ss_fold (h : Ord lt) : ∀ (xs acc : List α), SS lt acc → SS lt (xs.foldl (put lt) acc)
  | [], _, hs => hs
  | x :: r, acc, hs => ss_fold h r _ (ss_put h x acc hs)
theorem mem_fold (lt : α → α → Bool) (x : α) : ∀ (xs acc : List α), x ∈ xs.foldl (put lt) acc ↔ x ∈ acc ∨ x ∈ xs
  | [], acc => by simp
  | y :: r, acc => by
    rw [List.foldl_cons, mem_fold lt x r, mem_put, List.mem_cons]
    constructor
    · rintro ((h | h) | h)
      · exact .inr (.inl h)
      · exact .inl h
      · exact .inr (.inr h)
    · rintro (h | h | h)
      · exact .inl (.inr h)
      · exact .inl (.inl h)
      · exact .inr h
theorem length_fold (lt : α → α → Bool) : ∀ (xs acc : List α), (xs.foldl (put lt) acc).length ≤ acc.length + xs.length
  | [], acc => by simp
  | y :: r, acc => by
    have h1 := length_fold lt r (put lt acc y)
    have h2 := length_put lt y acc
    rw [List.foldl_cons, List.length_cons]
    omega

/-- Of a row in order: what is kept is in order strictly, and is the same elements. -/
theorem compact_ss (h : Ord lt) (d : Array α) (hd : ∀ i j, i < j → j < d.size → lt d[j]! d[i]! = false) : ∀ m, m < d.size →
    SS lt (compactUpTo d (m + 1)) ∧ (∀ x, x ∈ compactUpTo d (m + 1) ↔ ∃ j, j < m + 1 ∧ d[j]! = x) ∧ ∀ x ∈ compactUpTo d (m + 1), x = d[m]! ∨ lt x d[m]! = true
  | 0, hm => by
    have e : compactUpTo d 1 = [d[0]!] := by
      rw [compactUpTo_succ, if_pos (keeps_lt_one d 0 (by omega))]
      simp [compactUpTo]
    rw [e]
    refine ⟨by simp [SS], fun x => ?_, fun x hx => .inl (by simpa using hx)⟩
    constructor
    · intro hx
      exact ⟨0, by omega, (List.mem_singleton.1 hx).symm⟩
    · rintro ⟨j, hj, rfl⟩
      have : j = 0 := by omega
      subst this
      simp
  | m + 1, hm => by
    obtain ⟨i1, i2, i3⟩ := compact_ss h d hd m (by omega)
    have hs := compactUpTo_succ d (m + 1)
    have hw := hd m (m + 1) (by omega) hm
    by_cases hk : d[m + 1]! = d[m]!
    · have hf : keeps d (m + 1) = false := keeps_neg (by omega) hk
      rw [hf] at hs
      simp only [Bool.false_eq_true, if_false, List.append_nil] at hs
      rw [hs, hk]
      refine ⟨i1, fun x => ?_, i3⟩
      rw [i2]
      constructor
      · rintro ⟨j, hj, e⟩
        exact ⟨j, by omega, e⟩
      · rintro ⟨j, hj, e⟩
        by_cases hjm : j < m + 1
        · exact ⟨j, hjm, e⟩
        · have : j = m + 1 := by omega
          subst this
          exact ⟨m, by omega, by rw [← hk]; exact e⟩
    · have hf : keeps d (m + 1) = true := keeps_pos hk
      rw [hf] at hs
      simp only [if_true] at hs
      rw [hs]
      have hlt : lt d[m]! d[m + 1]! = true := by
        cases e : lt d[m]! d[m + 1]! with
        | true => rfl
        | false => exact absurd (h.tri _ _ hw e) hk
      have hall : ∀ x ∈ compactUpTo d (m + 1), lt x d[m + 1]! = true := fun x hx => by
        rcases i3 x hx with rfl | hx
        · exact hlt
        · exact h.trans _ _ _ hx hlt
      refine ⟨List.pairwise_append.2 ⟨i1, by simp, fun x hx y hy => ?_⟩, fun x => ?_, fun x hx => ?_⟩
      · have : y = d[m + 1]! := by simpa using hy
        subst this
        exact hall x hx
      · rw [List.mem_append, i2]
        constructor
        · rintro (⟨j, hj, e⟩ | hx)
          · exact ⟨j, by omega, e⟩
          · exact ⟨m + 1, by omega, by have : x = d[m + 1]! := by simpa using hx
                                       exact this.symm⟩
        · rintro ⟨j, hj, e⟩
          by_cases hjm : j < m + 1
          · exact .inl ⟨j, hjm, e⟩
          · have : j = m + 1 := by omega
            subst this
            exact .inr (by simpa using e.symm)
      · rcases List.mem_append.1 hx with hx | hx
        · exact .inr (hall x hx)
        · exact .inl (by simpa using hx)

/-- Sorted and compacted: the same as put in one after the other. -/
theorem sort_compact (h : Ord lt) (xs : List α) : compactUpTo (xs.mergeSort fun x y => !(lt y x)).toArray (xs.mergeSort fun x y => !(lt y x)).toArray.size = xs.foldl (put lt) [] := by
  have hsort : (xs.mergeSort fun x y => !(lt y x)).Pairwise fun x y => (!(lt y x)) = true := by
    apply List.pairwise_mergeSort
    · intro a b c h1 h2
      cases e : lt c a with
      | false => rfl
      | true =>
        simp only [Bool.not_eq_true'] at h1 h2
        exfalso
        cases e2 : lt c b with
        | true => rw [h2] at e2; cases e2
        | false =>
          cases e3 : lt b c with
          | true =>
            have := h.trans _ _ _ e3 e
            rw [h1] at this
            cases this
          | false =>
            have := h.tri _ _ e2 e3
            subst this
            rw [h1] at e
            cases e
    · intro a b
      cases e : lt b a with
      | false => rfl
      | true => rw [h.asym e]; rfl
  have hmem : ∀ x, x ∈ (xs.mergeSort fun x y => !(lt y x)) ↔ x ∈ xs := fun x => List.mem_mergeSort
  generalize xs.mergeSort (fun x y => !(lt y x)) = s at hsort hmem
  have hss : SS lt (compactUpTo s.toArray s.toArray.size) ∧ ∀ x, x ∈ compactUpTo s.toArray s.toArray.size ↔ x ∈ s := by
    cases s with
    | nil => exact ⟨by simp [compactUpTo, SS], fun x => by simp [compactUpTo]⟩
    | cons a r =>
      have hc := compact_ss h (a :: r).toArray (fun i j hij hj => by
        have hj' : j < (a :: r).length := by simpa using hj
        have := List.pairwise_iff_getElem.1 hsort i j (by omega) hj' hij
        have e1 : (a :: r).toArray[j]! = (a :: r)[j] := by rw [getElem!_pos (a :: r).toArray j hj]; simp
        have e2 : (a :: r).toArray[i]! = (a :: r)[i]'(by omega) := by rw [getElem!_pos (a :: r).toArray i (by omega)]; simp
        rw [e1, e2]
        simpa using this) r.length (by simp)
      have hsz : (a :: r).toArray.size = r.length + 1 := by simp
      rw [hsz]
      refine ⟨hc.1, fun x => ?_⟩
      rw [hc.2.1]
      constructor
      · rintro ⟨j, hj, e⟩
        rw [getElem!_pos (a :: r).toArray j (by rw [hsz]; exact hj)] at e
        rw [← e]
        simp
      · intro hx
        obtain ⟨j, hj, e⟩ := List.getElem_of_mem hx
        refine ⟨j, by simpa using hj, ?_⟩
        rw [getElem!_pos (a :: r).toArray j (by simpa using hj)]
        simpa using e
  refine ss_uniq h _ _ hss.1 (ss_fold h xs [] (by simp [SS])) (fun x => ?_)
  rw [hss.2, hmem, mem_fold]
  simp
end
end Go.Proofs.Ytijhoifcpijeiaa.M

/- The chords of a star: sorted and compacted by the program, put in one by one by the reference; and their crossings. -/
namespace Go.Proofs.Ytijhoifcpijeiaa.M
open Go.RowKit Go.Proofs.YtijhoifcpijeiaaW.PrintWords Go.Proofs.Ytijhoifcpijeiaa.Pr
set_option linter.unusedVariables false
set_option linter.unusedSimpArgs false

theorem ltB_iff (x y : Ch) : ltB x y = true ↔ (x.f0 < y.f0 ∨ x.f0 = y.f0 ∧ x.f1 < y.f1) := by simp [ltB]
theorem ltB_not (x y : Ch) : ltB x y = false ↔ ¬ (x.f0 < y.f0 ∨ x.f0 = y.f0 ∧ x.f1 < y.f1) := by rw [← ltB_iff, Bool.not_eq_true]
theorem ordB : Ord ltB where
  irrefl x := by rw [ltB_not]; omega
  trans x y z h1 h2 := by rw [ltB_iff] at *; omega
  tri x y h1 h2 := by
    rw [ltB_not] at h1 h2
    obtain ⟨a, b⟩ := x
    obtain ⟨c, d⟩ := y
    simp only at h1 h2
    rw [show a = c by omega, show b = d by omega]
/-- The chords in order, each once. -/
def setC (xs : List Ch) : List Ch := xs.foldl (put ltB) []
theorem ordC_eq (xs : List Ch) : ordC xs = setC xs := by
  have e : ltOf cmpC = ltB := by
    funext x y
    rw [Bool.eq_iff_iff, ltC_iff, ltB_iff]
  unfold ordC sortC
  rw [e]
  exact sort_compact ordB xs
theorem mem_setC (x : Ch) (xs : List Ch) : x ∈ setC xs ↔ x ∈ xs := by
  unfold setC
  rw [mem_fold]
  simp
theorem setC_length (xs : List Ch) : (setC xs).length ≤ xs.length := by
  have := length_fold ltB xs []
  unfold setC
  simpa using this

theorem srPut_ev (l : List Ch) (c : Ch) (hl : l.length ≤ 1000000) : Ev (fun k => spec_srPut.f k l c.f0 c.f1) (put ltB l c) := by
  unfold spec_srPut.f
  have e := Ev.scan0 (fun k i (_ : Unit) => spec_srPut.l0 k l i c.f0 c.f1) l (fun rest _ => l.take (l.length - rest.length) ++ put ltB rest c) (fun _ _ => True)
    (fun acc _ => by
      refine Ev.step (fun k => by rw [spec_srPut.l0]) ?_
      refine Ev.neg (by omega) ?_
      rw [Int.toNat_natCast]
      refine Ev.bindc rfl (Ev.pos (by omega) (Ev.pos (by omega) (Ev.bindc rfl (Ev.pos (by simp <;> omega) (Ev.bindc rfl (Ev.bindc rfl (Ev.pos (by simp <;> omega) (Ev.bindc rfl (Ev.bindc rfl (Ev.pos (by simp <;> omega) (Ev.val ?_)))))))))))
      simp [put])
    (fun i h acc _ => by
      have hr := rd_ch l i h
      have hdl : (l[i] :: l.drop (i + 1)).length = l.length - i := by simp <;> omega
      have ht : l.length - (l.length - i) = i := by omega
      by_cases hlt : ltB l[i] c = true
      · refine .inl ⟨(), trivial, ?_, fun r hr2 => ?_⟩
        · rw [hdl, ht, put, if_pos hlt, show l.length - (l.drop (i + 1)).length = i + 1 by simp <;> omega, List.take_succ_eq_append_getElem h, List.append_assoc]
          rfl
        · refine Ev.step (fun k => by rw [spec_srPut.l0]) ?_
          refine Ev.pos (by omega) (Ev.pos (by omega) ?_)
          rw [hr]
          refine Ev.bindc (srLess_eq _ _ _ _) (Ev.pos hlt ?_)
          rw [w64 (x := (i : Int) + 1) (by omega) (by omega)]
          exact hr2
      · refine .inr ?_
        refine Ev.step (fun k => by rw [spec_srPut.l0]) ?_
        refine Ev.pos (by omega) (Ev.pos (by omega) ?_)
        rw [hr]
        refine Ev.bindc (srLess_eq _ _ _ _) (Ev.neg hlt ?_)
        rw [hdl, ht, put, if_neg hlt]
        by_cases he : l[i] = c
        · refine Ev.pos (by rw [he]; simp) (Ev.val ?_)
          rw [if_pos he, ← List.drop_eq_getElem_cons h, List.take_append_drop]
        · refine Ev.neg (fun hh => he ?_) ?_
          · simp only [Bool.and_eq_true, beq_iff_eq] at hh
            generalize l[i] = y at hh ⊢
            obtain ⟨a, b⟩ := y
            obtain ⟨c, d⟩ := c
            rw [show a = c from hh.1, show b = d from hh.2]
          · rw [if_neg he, Int.toNat_natCast]
            refine Ev.bindc rfl (Ev.pos (by omega) (Ev.bindc rfl (Ev.pos (by simp <;> omega) (Ev.bindc rfl (Ev.bindc rfl (Ev.pos (by simp <;> omega) (Ev.bindc rfl (Ev.bindc rfl (Ev.pos (by simp <;> omega) (Ev.val ?_))))))))))
            simp only [List.nil_append, List.append_assoc, List.cons_append]
            rw [← List.drop_eq_getElem_cons h])
    () trivial
  simpa using e

/-- The chord from a point of a star. -/
def chV (n s p : Int) : Ch := ⟨mn p (Int.tmod (p + s) n), mx p (Int.tmod (p + s) n)⟩
/-- The chords from the points p, p + 1, .., n - 1. -/
def chsFrom (n s : Int) : Nat → Int → List Ch
  | 0, _ => []
  | d + 1, p => chV n s p :: chsFrom n s d (p + 1)
theorem chsFrom_length (n s : Int) : ∀ d p, (chsFrom n s d p).length = d
  | 0, _ => rfl
  | d + 1, p => by rw [chsFrom, List.length_cons, chsFrom_length]
theorem mem_chsFrom (n s : Int) (c : Ch) : ∀ d p, c ∈ chsFrom n s d p → ∃ q : Int, p ≤ q ∧ q < p + d ∧ c = chV n s q
  | 0, _, h => by simp [chsFrom] at h
  | d + 1, p, h => by
    rw [chsFrom, List.mem_cons] at h
    rcases h with rfl | h
    · exact ⟨p, by omega, by omega, rfl⟩
    · obtain ⟨q, h1, h2, h3⟩ := mem_chsFrom n s c d (p + 1) h
      exact ⟨q, by omega, by omega, h3⟩
theorem srChord_eq (a b : Int) : spec_srChord.f a b = some (mn a b, mx a b) := by
  unfold spec_srChord.f spec_l1Least.f spec_l1Most.f mn mx
  by_cases h1 : a < b
  · rw [if_pos h1, if_neg (show ¬ a > b by omega), if_neg (show ¬ b < a by omega), if_pos h1]; rfl
  · by_cases h2 : a > b
    · rw [if_neg h1, if_pos h2, if_pos (show b < a by omega), if_neg h1]; rfl
    · rw [if_neg h1, if_neg h2, if_neg (show ¬ b < a by omega), if_neg h1]
      have : a = b := by omega
      subst this
      rfl

theorem srChords_ev (n s : Int) (hn : 1 ≤ n ∧ n ≤ 1000) (hs : 0 ≤ s ∧ s ≤ 1000) : Ev (fun k => spec_srChords.f k n s) (setC (chsFrom n s n.toNat 0)) := by
  unfold spec_srChords.f setC
  have e := Ev.upto (fun k i (acc : List Ch) => spec_srChords.l0 k acc i n s) n (fun i acc => (chsFrom n s (n - i).toNat i).foldl (put ltB) acc) (fun i acc => 0 ≤ i ∧ i ≤ n ∧ (acc.length : Int) ≤ i)
    (fun i acc hi hp => by
      have hz : (n - i).toNat = 0 := by omega
      refine Ev.step (fun k => by rw [spec_srChords.l0]) ?_
      refine Ev.neg (by omega) (Ev.val ?_)
      rw [hz]
      rfl)
    (fun i acc hi hp => by
      have hz : (n - i).toNat = (n - (i + 1)).toNat + 1 := by omega
      have hl := length_put ltB (chV n s i) acc
      refine .inl ⟨put ltB acc (chV n s i), ⟨by omega, by omega, by omega⟩, by rw [hz, chsFrom, List.foldl_cons], fun r hr2 => ?_⟩
      refine Ev.step (fun k => by rw [spec_srChords.l0]) ?_
      refine Ev.pos hi (Ev.neg (by omega) ?_)
      rw [w64 (x := i + s) (by omega) (by omega), w64 (x := i + 1) (by omega) (by omega)]
      exact Ev.bindc (srChord_eq _ _) (Ev.bindk (srPut_ev acc (chV n s i) (by omega)) hr2))
    n.toNat 0 [] (by omega) ⟨by omega, by omega, by simp⟩
  rw [show n - 0 = n by omega] at e
  exact e
theorem chords_ev (n s : Int) (hn : 1 ≤ n ∧ n ≤ 1000) (hs : 0 ≤ s ∧ s ≤ 1000) : Ev (fun k => impl_Star_chords.f k n s) (setC (chsFrom n s n.toNat 0)) := by
  unfold impl_Star_chords.f
  have e := Ev.upto (fun k i (acc : List Ch) => impl_Star_chords.l0 k acc n i n s) n (fun i acc => setC (acc ++ chsFrom n s (n - i).toNat i)) (fun i acc => 0 ≤ i ∧ i ≤ n ∧ (acc.length : Int) = i)
    (fun i acc hi hp => by
      have hz : (n - i).toNat = 0 := by omega
      refine Ev.step (fun k => by rw [impl_Star_chords.l0]) ?_
      refine Ev.neg (by omega) (Ev.bindc (a := setC acc) ?_ (Ev.val ?_))
      · unfold impl_ordered.f
        rw [if_pos (by omega), ordC_eq]
      · rw [hz]
        simp [chsFrom])
    (fun i acc hi hp => by
      have hz : (n - i).toNat = (n - (i + 1)).toNat + 1 := by omega
      refine .inl ⟨acc ++ [chV n s i], ⟨by omega, by omega, by simp <;> omega⟩, by rw [hz, chsFrom]; simp, fun r hr2 => ?_⟩
      refine Ev.step (fun k => by rw [impl_Star_chords.l0]) ?_
      refine Ev.pos hi (Ev.neg (by omega) ?_)
      rw [w64 (x := i + s) (by omega) (by omega), w64 (x := i + 1) (by omega) (by omega)]
      exact Ev.bindc rfl (Ev.pos (by omega) hr2))
    n.toNat 0 [] (by omega) ⟨by omega, by omega, by simp⟩
  rw [show n - 0 = n by omega] at e
  exact e

/-- A star's chords are chords of its points. -/
theorem chords_ok (n s : Int) (hn : 1 ≤ n ∧ n ≤ 1000) (hs : 1 ≤ s ∧ s < n) : ∀ c ∈ setC (chsFrom n s n.toNat 0), 0 ≤ c.f0 ∧ c.f0 < c.f1 ∧ c.f1 < n := by
  intro c hc
  obtain ⟨q, h1, h2, rfl⟩ := mem_chsFrom n s c _ _ ((mem_setC _ _).1 hc)
  have ht : Int.tmod (q + s) n = (q + s) % n := Int.tmod_eq_emod_of_nonneg (by omega)
  have hb : 0 ≤ (q + s) % n := Int.emod_nonneg _ (by omega)
  have hb2 : (q + s) % n < n := Int.emod_lt_of_pos _ (by omega)
  have hne : (q + s) % n ≠ q := by
    intro e
    by_cases h : q + s < n
    · rw [Int.emod_eq_of_lt (by omega) h] at e; omega
    · have : (q + s) % n = q + s - n := by
        rw [← Int.sub_emod_right, Int.emod_eq_of_lt (by omega) (by omega)]
      omega
  unfold chV mn mx
  rw [ht]
  generalize (q + s) % n = t at hb hb2 hne ⊢
  simp only
  split <;> split <;> omega

theorem srCount_ev (l : List Ch) (hl : l.length ≤ 1000) (hv : ∀ c ∈ l, c.f0 < c.f1) : Ev (fun k => spec_srCount.f k l) (pairsN l : Int) := by
  unfold spec_srCount.f
  have inner : ∀ (i : Nat) (hi : i < l.length) (r : Int) (acc : Int), 0 ≤ acc ∧ acc ≤ i * 1000 → Ev (fun k => spec_srCount.l0 k l (acc + (cnt l[i] (l.drop (i + 1)) : Int)) l (l.length : Int) ((i : Int) + 1)) r →
      Ev (fun k => spec_srCount.l1 k l acc l (l.length : Int) (i : Int) (l.drop (i + 1)) ((l.drop (i + 1)).length : Int) 0 l[i].f0 l[i].f1) r := by
    intro i hi r acc hacc hr
    have hdl : (l.drop (i + 1)).length = l.length - (i + 1) := List.length_drop
    have e := Ev.cps (fun k j (a : Int) => spec_srCount.l1 k l a l (l.length : Int) (i : Int) (l.drop (i + 1)) ((l.drop (i + 1)).length : Int) j l[i].f0 l[i].f1)
      (fun k a => spec_srCount.l0 k l a l (l.length : Int) ((i : Int) + 1)) (l.drop (i + 1))
      (fun rest a => a + (cnt l[i] rest : Int)) (fun j a => 0 ≤ a ∧ a ≤ i * 1000 + j)
      (fun a r _ hr => by
        refine Ev.step (fun k => by rw [spec_srCount.l1]) ?_
        refine Ev.neg (by omega) ?_
        rw [w64 (x := (i : Int) + 1) (by omega) (by omega)]
        simpa [cnt] using hr)
      (fun j hj a hp => by
        obtain ⟨hp1, hp2⟩ := hp
        have hrd := rd_ch (l.drop (i + 1)) j hj
        have hcv := hv l[i] (List.getElem_mem hi)
        have hdv := hv (l.drop (i + 1))[j] (List.mem_of_mem_drop (List.getElem_mem hj))
        by_cases hc : crB l[i] (l.drop (i + 1))[j] = true
        · refine ⟨a + 1, ⟨by omega, by omega⟩, by rw [cnt_pos _ hc]; omega, fun r hr2 => ?_⟩
          refine Ev.step (fun k => by rw [spec_srCount.l1]) ?_
          refine Ev.pos (by omega) (Ev.pos (by omega) (Ev.pos (by omega) ?_))
          rw [hrd]
          refine Ev.bindc (srCross_eq _ _ hcv hdv) (Ev.pos hc ?_)
          rw [w64 (x := (j : Int) + 1) (by omega) (by omega), w64 (x := a + 1) (by omega) (by omega)]
          exact hr2
        · refine ⟨a, ⟨by omega, by omega⟩, by rw [cnt_neg _ hc], fun r hr2 => ?_⟩
          refine Ev.step (fun k => by rw [spec_srCount.l1]) ?_
          refine Ev.pos (by omega) (Ev.pos (by omega) (Ev.pos (by omega) ?_))
          rw [hrd]
          refine Ev.bindc (srCross_eq _ _ hcv hdv) (Ev.neg hc ?_)
          rw [w64 (x := (j : Int) + 1) (by omega) (by omega)]
          exact hr2)
      (l.drop (i + 1)).length 0 acc r (by omega) ⟨by omega, by omega⟩ (by simpa using hr)
    simpa using e
  have e := Ev.scan0 (fun k i (acc : Int) => spec_srCount.l0 k l acc l (l.length : Int) i) l (fun rest acc => acc + (pairsN rest : Int)) (fun i acc => 0 ≤ acc ∧ acc ≤ i * 1000)
    (fun acc hp => by
      refine Ev.step (fun k => by rw [spec_srCount.l0]) ?_
      exact Ev.neg (by omega) (Ev.val (by simp [pairsN])))
    (fun i h acc hp => by
      have hr := rd_ch l i h
      have hcl := cnt_le l[i] (l.drop (i + 1))
      have hdl : (l.drop (i + 1)).length = l.length - (i + 1) := List.length_drop
      refine .inl ⟨acc + (cnt l[i] (l.drop (i + 1)) : Int), ⟨by omega, by omega⟩, by rw [pairsN]; omega, fun r hr2 => ?_⟩
      refine Ev.step (fun k => by rw [spec_srCount.l0]) ?_
      rw [w64 (x := (i : Int) + 1) (by omega) (by omega), show ((i : Int) + 1).toNat = i + 1 by omega]
      refine Ev.pos (by omega) (Ev.pos (by omega) (Ev.pos (by omega) (Ev.pos (by omega) (Ev.pos (by omega) ?_))))
      rw [hr]
      exact inner i h r acc hp hr2)
    0 ⟨by omega, by omega⟩
  simpa using e
end Go.Proofs.Ytijhoifcpijeiaa.M

/- RegionsOfStar: the plain law. -/
namespace Go.Proofs.Ytijhoifcpijeiaa.Pure
open Go.RowKit Go.Proofs.Ytijhoifcpijeiaa.Pr Go.Proofs.YtijhoifcpijeiaaW.PrintWords Go.Proofs.YtijhoifcpijeiaaW.PrintLast Go.Proofs.Ytijhoifcpijeiaa.M

def okStar (n s : Int) : Bool := decide (3 ≤ n ∧ n ≤ 60) && inB s 1 (n - 1)
theorem isStar_eq (n s : Int) : impl_IsStar.f n s = some (okStar n s) := by
  unfold impl_IsStar.f impl_isCircle.f okStar
  simp only [within_eq, Option.bind_some]
  by_cases h : 3 ≤ n ∧ n ≤ 60
  · rw [if_pos (by simpa [inB] using h), w64 (by omega) (by omega), decide_eq_true h]; rfl
  · rw [if_neg (by simpa [inB] using h), decide_eq_false h]; rfl
theorem srGood_eq (n s : Int) : spec_srGood.f n s = some (okStar n s) := by
  unfold spec_srGood.f spec_srPoints.f okStar
  simp only [l1In_eq, Option.bind_some]
  by_cases h : 3 ≤ n ∧ n ≤ 60
  · rw [if_pos (by simpa [inB] using h), w64 (by omega) (by omega), decide_eq_true h]; rfl
  · rw [if_neg (by simpa [inB] using h), decide_eq_false h]; rfl

theorem FnExactRegionsOfStar : ∀ (a0_0 a0_1 : Int), (Lit.int .i64 a0_0).wf = true → (Lit.int .i64 a0_1).wf = true → ∃ k, laws_FnExactRegionsOfStar.f k a0_0 a0_1 = some true := by
  intro n s _ _
  suffices h : Ev (fun k => laws_FnExactRegionsOfStar.f k n s) true by
    obtain ⟨k, hk⟩ := h
    exact ⟨k, hk k (Nat.le_refl k)⟩
  unfold laws_FnExactRegionsOfStar.f
  have key : ∃ r : Int × Bool, Ev (fun k => spec_RegionsOfStar.f k n s) r ∧ Ev (fun k => impl_RegionsOfStar.f k n s) r := by
    unfold spec_RegionsOfStar.f impl_RegionsOfStar.f
    by_cases hg : okStar n s = true
    · have h := hg
      simp only [okStar, inB, Bool.and_eq_true, decide_eq_true_eq] at h
      obtain ⟨⟨h1, h2⟩, h3, h4⟩ := h
      have hl := setC_length (chsFrom n s n.toNat 0)
      rw [chsFrom_length] at hl
      have hv := chords_ok n s ⟨by omega, by omega⟩ ⟨by omega, by omega⟩
      exact ⟨_, Ev.bindc (srGood_eq n s) (Ev.pos hg (Ev.bindk (srChords_ev n s ⟨by omega, by omega⟩ ⟨by omega, by omega⟩) (Ev.bindk (srCount_ev _ (by omega) (fun c hc => (hv c hc).2.1)) (Ev.now _)))),
        Ev.bindc (isStar_eq n s) (Ev.pos hg (Ev.bindk (chords_ev n s ⟨by omega, by omega⟩ ⟨by omega, by omega⟩) (Ev.bindk (crossings_evB _ (by omega)) (Ev.now _))))⟩
    · exact ⟨(0, false), Ev.bindc (srGood_eq n s) (Ev.neg hg (Ev.now _)), Ev.bindc (isStar_eq n s) (Ev.neg hg (Ev.now _))⟩
  obtain ⟨r, h1, h2⟩ := key
  refine Ev.bindc (a := (n, s)) rfl (Ev.bindk h1 (Ev.bindc (a := (n, s)) rfl (Ev.bindk h2 (Ev.pos rfl (Ev.neg (by simp) (Ev.val rfl))))))
end Go.Proofs.Ytijhoifcpijeiaa.Pure

/- Shared steps of the rows: an argument that is a slice of structs of whole numbers, read as a list of lists of numbers. -/
namespace Go.Proofs.Ytijhoifcpijeiaa.RowA
open Go.ChangeShapes Go.WideShapes Go.Deep Go.RowKit Go.Proofs.YtijhoifcpijeiaaW.PrintWords
section
variable {H : Type} {enc : TypeId × Value → H} {P : Program} {w : World} {base : Nat} {spare : Nat → Bool} {held : Bool}

/-- A slice of structs whose fields are one cell each: nil, or an address with, for each element and each field, the cell and the field's own reading. -/
theorem open_cells {t e : TypeId} {fs : Array Field} {fuel : Nat} {cs : List Value} {x : DataW H × List MemPlace} (ht : P.underlying t = some (.slice e)) (he : P.underlying e = some (.struct fs))
    (hone : oneCellFields P fs = true) (hC : P.cellsOf e = fs.size) (h : DataW.trod enc P w base spare held fuel t cs = some x) :
    cs = [.slice none 0 0] ∨
    ∃ (a : Addr) (len cap : Nat), cs = [.slice (some a) len cap] ∧ len ≤ cap ∧ cap ≤ maxLen ∧
      ∀ i, i < len → ∃ n, ∀ (j : Nat) (f : Field), fs[j]? = some f → ∃ (v : Value) (y : DataW H × List MemPlace), w.cell? (a.add (i * fs.size + j)) = some v ∧ DataW.trod enc P w base spare held n f.type [v] = some y := by
  rcases open_slice ht h with h0 | ⟨a, len, cap, m, n, D, Pl, hcs, hb, hl, hm, hmm, hx, hi⟩
  · exact .inl h0.1
  · refine .inr ⟨a, len, cap, hcs, hl, hm, fun i hil => ?_⟩
    have him : i < m := by
      rw [hmm]
      split
      · omega
      · exact hil
    obtain ⟨cs', hc, ht'⟩ := hi i him
    rw [hC] at hc
    obtain ⟨ys, n', hn', hy, hlen, hyl, hf⟩ := DataW.trod_struct he ht'
    obtain ⟨_, hcl, hat⟩ := World.cells?_some hc
    refine ⟨n', fun j f hj => ?_⟩
    obtain ⟨ho, hk⟩ := hone_of hone j f hj
    have hjl : j < fs.size := (Array.getElem?_eq_some_iff.1 hj).1
    have hcell := hat j hjl
    have hv : cs'[j]? = some (cs'[j]'(by omega)) := List.getElem?_eq_getElem (by omega)
    have h1 := hf j f hj
    rw [ho, hk] at h1
    have hone' : (cs'.drop j).take 1 = [cs'[j]'(by omega)] := by
      rw [List.drop_eq_getElem_cons (by omega)]
      rfl
    rw [hone'] at h1
    have hys : ys[j]? = some (ys[j]'(by omega)) := List.getElem?_eq_getElem (by omega)
    refine ⟨_, _, ?_, h1.trans hys⟩
    rw [← Go.Deep.add_add, hcell, hv]

/-- One whole number's reading. -/
theorem read_i64 {t : TypeId} {n : Nat} {v : Value} {y : DataW H × List MemPlace} (hu : P.underlying t = some (.int .i64)) (h : DataW.trod enc P w base spare held n t [v] = some y) :
    ∃ z : Int, v = .int .i64 z ∧ (Lit.int .i64 z).wf = true := by
  obtain ⟨z, hz, _, hw⟩ := DataW.trod_int hu h
  simp at hz
  exact ⟨z, hz, hw⟩

/-- A slice of structs of m whole numbers, as it is handed over: the numbers by element and field. -/
theorem open_nums {t e : TypeId} {fs : Array Field} {a : Option Addr} {len cap : Nat} {d : DataW H} {ps : List MemPlace} (ht : P.underlying t = some (.slice e)) (he : P.underlying e = some (.struct fs))
    (hone : oneCellFields P fs = true) (hC : P.cellsOf e = fs.size) (hi : ∀ (j : Nat) (f : Field), fs[j]? = some f → P.underlying f.type = some (.int .i64))
    (h : DataW.Trod enc P w base spare held t (.slice a len cap) d ps) :
    len ≤ cap ∧ len ≤ maxLen ∧ ∃ z : Nat → Nat → Int, (∀ i j, i < len → j < fs.size → (Lit.int .i64 (z i j)).wf = true) ∧
      (0 < len → ∃ ad, a = some ad ∧ ∀ i j, i < len → j < fs.size → w.cell? (ad.add (i * fs.size + j)) = some (.int .i64 (z i j))) := by
  obtain ⟨fuel, hf⟩ := h
  rcases open_cells ht he hone hC hf with hcs | ⟨x, l, c, hcs, hl, hm, hcell⟩
  · simp [Value.cells] at hcs
    obtain ⟨rfl, rfl, rfl⟩ := hcs
    exact ⟨Nat.le_refl _, Nat.zero_le _, fun _ _ => 0, fun i j h => absurd h (Nat.not_lt_zero _), fun h => absurd h (Nat.not_lt_zero _)⟩
  · simp [Value.cells] at hcs
    obtain ⟨rfl, rfl, rfl⟩ := hcs
    refine ⟨hl, Nat.le_trans hl hm, ?_⟩
    have hz : ∀ i j, ∃ z : Int, i < len → j < fs.size → w.cell? (x.add (i * fs.size + j)) = some (.int .i64 z) ∧ (Lit.int .i64 z).wf = true := by
      intro i j
      by_cases h1 : i < len
      · by_cases h2 : j < fs.size
        · obtain ⟨n, hn⟩ := hcell i h1
          obtain ⟨v, y, hv, hy⟩ := hn j fs[j] (Array.getElem?_eq_getElem h2)
          obtain ⟨z, rfl, hw⟩ := read_i64 (hi j fs[j] (Array.getElem?_eq_getElem h2)) hy
          exact ⟨z, fun _ _ => ⟨hv, hw⟩⟩
        · exact ⟨0, fun _ h => absurd h h2⟩
      · exact ⟨0, fun h _ => absurd h h1⟩
    exact ⟨fun i j => (hz i j).choose, fun i j h1 h2 => ((hz i j).choose_spec h1 h2).2, fun _ => ⟨x, rfl, fun i j h1 h2 => ((hz i j).choose_spec h1 h2).1⟩⟩
end
end Go.Proofs.Ytijhoifcpijeiaa.RowA

/- The row of the law FnExactRegionsOfStar: The program's RegionsOfStar returns what the reference's returns, for all arguments. -/
namespace Go.Proofs.Ytijhoifcpijeiaa.fnExactRegionsOfStar
open Go.ChangeShapes Go.WideShapes Go.ChangeAt Go.RowKit Go.Proofs.Ytijhoifcpijeiaa.Pr Go.Proofs.YtijhoifcpijeiaaW.PrintWords
open Go.ChangeMaps (open_string shut_string)
set_option linter.unusedVariables false
theorem own : ownKnob Try.prog.godebug = none := by kernel_rfl
theorem laidOut : laidOutB Try.prog = true := by kernel_rfl
set_option maxRecDepth 100000 in
theorem lifted (os : Os) (started : os.Started) (H : Type) (enc : TypeId × Value → H) :
    ReturnsInHanded {} Try.checked os 13 .any (Rows.fnExactRegionsOfStarSpec.pre6 enc Try.prog Try.f13 Rows.fnExactRegionsOfStarRow.domain false) (Rows.fnExactRegionsOfStarSpec.post enc Try.prog Try.f13 false true false false) := by
  refine returnsInHanded_of_change_sized (C := Try.checked) own started (by kernel_rfl) Try.func13
    (ChangeSpec.witness6 (enc := enc) (C := Try.checked) false ⟨#[], #[.agg #[.int .i64 0, .int .i64 0]], []⟩ 8 (by kernel_rfl) (by kernel_rfl) (by kernel_rfl) (by kernel_rfl)) ?_
  intro W base args ds gs before hval0 hW hcnd hsz0 _
  have hsz : (DataW.weightsEach Try.prog (Try.f13.params.toList ++ Rows.fnExactRegionsOfStarSpec.plain.varTypes Try.prog) (ds ++ gs)).all (· ≤ reachBytes) = true := hsz0
  have hval : ∀ (j : Nat) t v, Try.f13.params[j]? = some t → args[j]? = some v → Value.okWide Try.prog W .any base t v := hval0
  have hW' := hW
  obtain ⟨p, q, hA0, hV, rfl, hfz, hnd⟩ := hW
  have hA : DataW.TrodAll enc Try.prog W 0 (fun _ => true) true Try.f13.params.toList args.toList ds p := hA0
  rw [Try.params13] at hA hval hsz
  obtain ⟨v0, vs0, d0, ds0, p0, q0, hargs, rfl, rfl, h0, r0⟩ := trodAll_cons hA
  obtain ⟨rfl, rfl, rfl⟩ := trodAll_nil r0
  obtain rfl : args = #[v0] := by cases args; simp_all
  obtain ⟨rfl, rfl⟩ := trodVars_none hV
  have lt0 : ∀ x ∈ p0, x.block < W.heap.size := by obtain ⟨m, hm⟩ := h0; exact DataW.trod_lt m _ _ _ hm
  have hh0 := h0
  obtain ⟨c0_0, c0_1, e0_0, e0_1, n0, rfl, rfl, rfl, g0_0, g0_1⟩ := Joins.open_agg2 Try.underlying50 (by kernel_rfl) (by kernel_rfl) (hval 0 50 v0 rfl rfl) h0
  obtain ⟨a0_0, rfl, w0_0⟩ := RowA.read_i64 Try.underlying3 g0_0
  obtain ⟨a0_1, rfl, w0_1⟩ := RowA.read_i64 Try.underlying3 g0_1
  clear hA0 hval0 hsz0 hsz
  obtain ⟨k, hk⟩ := Pure.FnExactRegionsOfStar a0_0 a0_1 w0_0 w0_1
  refine (laws_FnExactRegionsOfStar.calls k a0_0 a0_1 true W  hk).mono fun e W' he => ?_
  obtain ⟨he, bel0⟩ := he
  have bel : Below W.heap.size W W' := bel0
  subst he
  exact ⟨_, rfl, _, _, _, [], _, [], hW', trodAll_mk1 (shut_bool Try.underlying4 _), (trodAll_cons_mk (Below.trod laidOut (by kernel_rfl) (of_decide_eq_true (by kernel_rfl)) hh0 bel lt0) trodAll_mk0), rfl, bel.frame _, fun h => by cases h⟩
theorem over : Rows.fnExactRegionsOfStarRow.holds Try.pinned (OpenSpec.ofChange Rows.fnExactRegionsOfStarSpec) :=
  OpenClaim.holds_of_wide 13 Try.f13 rfl rfl rfl rfl rfl rfl rfl ⟨rfl, rfl, rfl, rfl, rfl⟩ rfl rfl rfl rfl rfl (by kernel_rfl) Try.func13 (by kernel_rfl)
    (of_decide_eq_true (by kernel_rfl)) (by unfold Func.isWrapper; first | (rw [if_pos (by decide +kernel)]; kernel_rfl) | (rw [if_neg (by decide +kernel)]; exact ⟨rfl, rfl⟩))
    (fun os started H enc _ => lifted os started H enc)
theorem proved : Rows.FnExactRegionsOfStarSaid := over
end Go.Proofs.Ytijhoifcpijeiaa.fnExactRegionsOfStar
namespace Go.Proofs.Ytijhoifcpijeiaa
/-- The row, under a short name, for the claim. -/
theorem fnExactRegionsOfStar_holds : Rows.FnExactRegionsOfStarSaid := fnExactRegionsOfStar.proved
#print axioms fnExactRegionsOfStar_holds
end Go.Proofs.Ytijhoifcpijeiaa
