/- The program's CountDrawn returns what the reference's returns, for all arguments. Condition: none. -/
import Derived.RowKit
import Derived.Lib.OthersKept
import Derived.IntWalk
import Derived.Deep.RegionWith
import Derived.Deep.RegionHeld3
import Derived.Deep.Slices
import Derived.Deep.Fields
import Derived.ChangeSame
import Derived.ChangeShapes
import Derived.Below
import Derived.Carry
import Derived.Lib.SmallJoins
import Derived.OpenShut
import Derived.Test.YtgdpeabbmbclbaaRows
import Derived.WalkKit
import Derived.ProofKit
import Derived.ShutString
import Derived.ChangeOld
import Derived.SizedLaws
import Derived.ChangeSlices
import Derived.Test.YtgdpeabbmbclbaaKFnExactCountDrawn0
import Derived.Test.YtgdpeabbmbclbaaKFnExactCountDrawn1
-- Written by a program for this claim.
namespace Go.Proofs.Ytgdpeabbmbclbaa.Pr
open Go.RowKit Go.Proofs.YtgdpeabbmbclbaaW.PrintWords Go.Proofs.YtgdpeabbmbclbaaW.PrintLast Go.Proofs.YtgdpeabbmbclbaaW.PrintMore
attribute [local go_sem] max2_int min2_int max_two min_two max_three min_three max_four min_four   -- for this text's walks alone
set_option linter.unusedVariables false
set_option linter.unusedSimpArgs false

/-! ### impl_loopOfRank: function 18 -/
mutual
def impl_loopOfRank.l0 : Nat → Int → Int → ByteArray → Option (ByteArray)
  | 0, _, _, _ => none
  | k + 1, x0, x1, x5 => if (x5.size : Int) < (wrap64 (2 * x0)) then ((impl_onward.f k x0 x5).bind fun bt135 => (impl_loopOfRank.l1 k x0 x1 x5 bt135.1 bt135.2 0)) else (some x5)
def impl_loopOfRank.l1 : Nat → Int → Int → ByteArray → List Int → List Int → Int → Option (ByteArray)
  | 0, _, _, _, _, _, _ => none
  | k + 1, x0, x1, x5, x6, x7, x8 => if 0 ≤ x8 then (if x8 < (x7.length : Int) then (if x1 ≥ (rd x7 x8) then (impl_loopOfRank.l1 k x0 (wrap64 (x1 - (rd x7 x8))) x5 x6 x7 (wrap64 (x8 + 1))) else (if x8 < (x6.length : Int) then (if x5.size + (Utf8.encode (wrap32 (rd x6 x8))).size ≤ 9223372036854775807 then (impl_loopOfRank.l0 k x0 x1 (x5 ++ (Utf8.encode (wrap32 (rd x6 x8))))) else (none)) else (none))) else (none)) else (none)
end
def impl_loopOfRank.f (k : Nat) (a0 : Int) (a1 : Int) : Option (ByteArray) := impl_loopOfRank.l0 k a0 a1 (⟨#[]⟩ : ByteArray)
theorem impl_loopOfRank.mono_l : ∀ k, (∀ y0 y1 y2, LeO (impl_loopOfRank.l0 k y0 y1 y2) (impl_loopOfRank.l0 (k + 1) y0 y1 y2)) ∧ (∀ y0 y1 y2 y3 y4 y5, LeO (impl_loopOfRank.l1 k y0 y1 y2 y3 y4 y5) (impl_loopOfRank.l1 (k + 1) y0 y1 y2 y3 y4 y5))
  | 0 => ⟨fun _ _ _ r h => by simp [impl_loopOfRank.l0] at h, fun _ _ _ _ _ _ r h => by simp [impl_loopOfRank.l1] at h⟩
  | k + 1 => by
    obtain ⟨ih0, ih1⟩ := impl_loopOfRank.mono_l k
    refine ⟨?_, ?_⟩
    · intro y0 y1 y2
      unfold impl_loopOfRank.l0
      repeat' first
      | (with_reducible exact ih0 _ _ _)
      | (with_reducible exact ih1 _ _ _ _ _ _)
      | (with_reducible exact impl_onward.mono _ _ _)
      | (with_reducible exact LeO.refl _)
      | (with_reducible exact LeO.none _)
      | (with_reducible refine LeO.ite ?_ ?_)
      | (with_reducible refine LeO.bind ?_ (fun _ => ?_))
      | exact ih0 _ _ _
      | exact ih1 _ _ _ _ _ _
      | exact impl_onward.mono _ _ _
      | exact LeO.none _
      | refine LeO.ite ?_ ?_
      | refine LeO.bind ?_ (fun _ => ?_)
    · intro y0 y1 y2 y3 y4 y5
      unfold impl_loopOfRank.l1
      repeat' first
      | (with_reducible exact ih0 _ _ _)
      | (with_reducible exact ih1 _ _ _ _ _ _)
      | (with_reducible exact impl_onward.mono _ _ _)
      | (with_reducible exact LeO.refl _)
      | (with_reducible exact LeO.none _)
      | (with_reducible refine LeO.ite ?_ ?_)
      | (with_reducible refine LeO.bind ?_ (fun _ => ?_))
      | exact ih0 _ _ _
      | exact ih1 _ _ _ _ _ _
      | exact impl_onward.mono _ _ _
      | exact LeO.none _
      | refine LeO.ite ?_ ?_
      | refine LeO.bind ?_ (fun _ => ?_)
theorem impl_loopOfRank.mono : ∀ a0 a1 k, LeO (impl_loopOfRank.f k a0 a1) (impl_loopOfRank.f (k + 1) a0 a1) := by
  intro a0 a1 k
  obtain ⟨ih0, ih1⟩ := impl_loopOfRank.mono_l k
  unfold impl_loopOfRank.f
  repeat' first
      | (with_reducible exact ih0 _ _ _)
      | (with_reducible exact ih1 _ _ _ _ _ _)
      | (with_reducible exact impl_onward.mono _ _ _)
      | (with_reducible exact LeO.refl _)
      | (with_reducible exact LeO.none _)
      | (with_reducible refine LeO.ite ?_ ?_)
      | (with_reducible refine LeO.bind ?_ (fun _ => ?_))
      | exact ih0 _ _ _
      | exact ih1 _ _ _ _ _ _
      | exact impl_onward.mono _ _ _
      | exact LeO.none _
      | refine LeO.ite ?_ ?_
      | refine LeO.bind ?_ (fun _ => ?_)
set_option maxHeartbeats 8000000 in
set_option maxRecDepth 100000 in
theorem impl_loopOfRank.calls (k : Nat) (a0 : Int) (a1 : Int) (r : ByteArray) (w : World) (h : impl_loopOfRank.f k a0 a1 = some r) :
    Calls Try.prog 18 #[.int .i64 a0, .int .i64 a1] w fun e w' => e = .returned (.string r) ∧ Below w.heap.size w w' := by
  have HB := Aside0.mk (Below.refl w.heap.size w)
  have H : (impl_loopOfRank.l0 k a0 a1 (⟨#[]⟩ : ByteArray)) = some r := h
  clear h
  have H' := Aside0.mk H
  clear H
  go_enter Try.func18, Try.ntmps18
  go_wp2
  go_loopg [1, 5] k (fun kq v1 v5 w' => ∃ (x1_1 : Int) (x5_1 : ByteArray), v1 = .int .i64 x1_1 ∧ v5 = .string x5_1 ∧ Aside0 (impl_loopOfRank.l0 kq a0 x1_1 x5_1 = some r) ∧ Aside0 (kq ≤ k) ∧ Aside0 (Below w.heap.size w w'))
  case atStart => exact ⟨(a1), ((⟨#[]⟩ : ByteArray)), (by first | rfl | (simp; done) | (simp [*]; done)), (by first | rfl | (simp; done) | (simp [*]; done)), H', ⟨Nat.le_refl _⟩, ⟨by repeat (first | (with_reducible first | exact HB.out | apply below_alloc | apply pw_below_drewN | apply below_drew1) | exact HB.out)⟩⟩
  case round =>
    clear H'
    try clear c1
    try clear p2
    obtain ⟨x1_1, x5_1, rfl, rfl, HA, HK1, HB⟩ := hrel
    cases gk with
    | zero => exact absurd HA.out (by simp [impl_loopOfRank.l0])
    | succ k1 =>
      have H := HA.out
      clear HA
      simp only [impl_loopOfRank.l0] at H
      by_cases c3 : (x5_1.size : Int) < (wrap64 (2 * a0))
      · rw [if_pos c3] at H
        have c3b0 : decide ((x5_1.size : Int) < (wrap64 (2 * a0))) = true := decide_eq_true c3
        clear c3
        replace H := Option.bind_eq_some_iff.mp H
        obtain ⟨⟨t135, t136⟩, A40, H⟩ := H
        replace H : (impl_loopOfRank.l1 k1 a0 x1_1 x5_1 t135 t136 0) = some r := H
        have A4 := Aside0.mk A40
        clear A40
        have H' := Aside0.mk H
        clear H
        go_wp2_with (first | ((with_reducible refine gate_callee (f := 27) rfl ?_); refine goesL_ (some 17) rfl rfl Try.func27 (by kernel_rfl) rfl #[.int .i64 a0, .string x5_1] rfl (by (try simp only [List.map_toArray, List.map_cons, List.map_nil]); first | done | rfl | (simp only [List.length_drop, List.length_take]; rfl)) ?_; (with_reducible refine (impl_onward.calls k1 a0 x5_1 t135 t136 _ A4.out).mono ?_); rintro e w5 ⟨v137, v139, rfl, ho0, ho1, hb⟩; refine ⟨_, rfl, ?_⟩; have n0_ := Aside0.mk (Kd.R_lower ho0 (below_size (by repeat (first | (with_reducible first | exact HB.out | apply below_alloc | apply pw_below_drewN | apply below_drew1) | exact HB.out)))); have n1_ := Aside0.mk (Kd.R_lower ho1 (below_size (by repeat (first | (with_reducible first | exact HB.out | apply below_alloc | apply pw_below_drewN | apply below_drew1) | exact HB.out)))); have n2_ := Aside0.mk (below_step (by repeat (first | (with_reducible first | exact HB.out | apply below_alloc | apply pw_below_drewN | apply below_drew1) | exact HB.out)) hb); clear HB; have HO138 := n0_; have HO140 := n1_; have HB := n2_; clear n0_ n1_ n2_; (try clear hb); (try clear hb2); (try clear hk); (try clear hi); (try clear ho0); (try clear ho1)))
        go_loopg [1, 8] k1 (fun kq v1 v8 w' => ∃ (x1_2 : Int) (x8_2 : Int), v1 = .int .i64 x1_2 ∧ v8 = .int .i64 x8_2 ∧ Aside0 (impl_loopOfRank.l1 kq a0 x1_2 x5_1 t135 t136 x8_2 = some r) ∧ Aside0 (kq ≤ k1) ∧ Aside0 (Kd.R (Kd.int .u8) 5 w' w.heap.size (fun _ => True) v137 t135) ∧ Aside0 (Kd.R (Kd.int .i64) 3 w' w.heap.size (fun _ => True) v139 t136) ∧ Aside0 (Below w.heap.size w w'))
        case atStart => exact ⟨(x1_1), (0), (by first | rfl | (simp; done) | (simp [*]; done)), (by first | rfl | (simp; done) | (simp [*]; done)), H', ⟨Nat.le_refl _⟩, ⟨by (with_reducible repeat (first | apply Kd.R_alloc | apply Kd.R_drewN | apply Kd.R_drew)); exact HO138.out⟩, ⟨by (with_reducible repeat (first | apply Kd.R_alloc | apply Kd.R_drewN | apply Kd.R_drew)); exact HO140.out⟩, ⟨by repeat (first | (with_reducible first | exact HB.out | apply below_alloc | apply pw_below_drewN | apply below_drew1) | exact HB.out)⟩⟩
        case round =>
          clear H'
          try clear c1
          try clear c2
          try clear p2
          try clear c3
          try clear c3b0
          try clear p2
          obtain ⟨x1_2, x8_2, rfl, rfl, HA, HK2, HO_6, HO_7, HB⟩ := hrel
          cases gk with
          | zero => exact absurd HA.out (by simp [impl_loopOfRank.l1])
          | succ k2 =>
            have H := HA.out
            clear HA
            simp only [impl_loopOfRank.l1] at H
            by_cases c6 : 0 ≤ x8_2
            · rw [if_pos c6] at H
              have c6b0 : decide (0 ≤ x8_2) = true := decide_eq_true c6
              clear c6
              by_cases c7 : x8_2 < (t136.length : Int)
              · rw [if_pos c7] at H
                have c7b0 : decide (x8_2 < (t136.length : Int)) = true := decide_eq_true c7
                clear c7
                by_cases c8 : x1_2 ≥ (rd t136 x8_2)
                · rw [if_pos c8] at H
                  have c8b0 : decide ((rd t136 x8_2) ≤ x1_2) = true := decide_eq_true c8
                  clear c8
                  have H' := Aside0.mk H
                  clear H
                  obtain ⟨Ao9, co9, eo9⟩ := Kd.R_slice HO_7.out
                  subst eo9
                  have p141 : 0 ≤ (x8_2 : Int) := of_decide_eq_true (by first | (with_reducible assumption) | assumption)
                  have q141 : x8_2 < (t136.length : Int) := of_decide_eq_true (by first | (with_reducible assumption) | assumption)
                  obtain ⟨ad141, e141, hx141_0⟩ := Kd.at_int (Kd.R_reads' HO_7.out).2.2 x8_2 p141 q141
                  cases e141
                  replace p141 := eq_true p141
                  replace q141 := eq_true q141
                  have p142 : 0 ≤ (x8_2 : Int) := of_decide_eq_true (by first | (with_reducible assumption) | assumption)
                  have q142 : x8_2 < (t136.length : Int) := of_decide_eq_true (by first | (with_reducible assumption) | assumption)
                  obtain ⟨ad142, e142, hx142_0⟩ := Kd.at_int (Kd.R_reads' HO_7.out).2.2 x8_2 p142 q142
                  obtain rfl : ad141 = ad142 := (by injection e142)
                  replace p142 := eq_true p142
                  replace q142 := eq_true q142
                  go_wp2
                  go_roundg k2
                  case measure => have := HK1.out; have := HK2.out; omega
                  case rel => exact ⟨(wrap64 (x1_2 - (rd t136 x8_2))), (wrap64 (x8_2 + 1)), (by first | rfl | (simp; done) | (simp [*]; done)), (by first | rfl | (simp; done) | (simp [*]; done)), H', ⟨by have := HK1.out; have := HK2.out; omega⟩, ⟨by (with_reducible repeat (first | apply Kd.R_alloc | apply Kd.R_drewN | apply Kd.R_drew)); exact HO_6.out⟩, ⟨by (with_reducible repeat (first | apply Kd.R_alloc | apply Kd.R_drewN | apply Kd.R_drew)); exact HO_7.out⟩, ⟨by repeat (first | (with_reducible first | exact HB.out | apply below_alloc | apply pw_below_drewN | apply below_drew1) | exact HB.out)⟩⟩
                · rw [if_neg c8] at H
                  have c8b0 : decide ((rd t136 x8_2) ≤ x1_2) = false := decide_eq_false c8
                  clear c8
                  by_cases c10 : x8_2 < (t135.length : Int)
                  · rw [if_pos c10] at H
                    have c10b0 : decide (x8_2 < (t135.length : Int)) = true := decide_eq_true c10
                    clear c10
                    by_cases c11 : x5_1.size + (Utf8.encode (wrap32 (rd t135 x8_2))).size ≤ 9223372036854775807
                    · rw [if_pos c11] at H
                      have c11b0 := eq_true c11
                      have c11b1 : decide (x5_1.size + (Utf8.encode (wrap32 (rd t135 x8_2))).size ≤ 9223372036854775807) = true := decide_eq_true c11
                      try have c11b2 : (9223372036854775807 < x5_1.size + (Utf8.encode (wrap32 (rd t135 x8_2))).size) = False := eq_false (Nat.not_lt.2 c11)
                      have H' := Aside0.mk H
                      clear H
                      obtain ⟨Ao12, co12, eo12⟩ := Kd.R_slice HO_7.out
                      subst eo12
                      have p141 : 0 ≤ (x8_2 : Int) := of_decide_eq_true (by first | (with_reducible assumption) | assumption)
                      have q141 : x8_2 < (t136.length : Int) := of_decide_eq_true (by first | (with_reducible assumption) | assumption)
                      obtain ⟨ad141, e141, hx141_0⟩ := Kd.at_int (Kd.R_reads' HO_7.out).2.2 x8_2 p141 q141
                      cases e141
                      replace p141 := eq_true p141
                      replace q141 := eq_true q141
                      obtain ⟨Ao13, co13, eo13⟩ := Kd.R_slice HO_6.out
                      subst eo13
                      have p143 : 0 ≤ (x8_2 : Int) := of_decide_eq_true (by first | (with_reducible assumption) | assumption)
                      have q143 : x8_2 < (t135.length : Int) := of_decide_eq_true (by first | (with_reducible assumption) | assumption)
                      obtain ⟨ad143, e143, hx143_0⟩ := Kd.at_int (Kd.R_reads' HO_6.out).2.2 x8_2 p143 q143
                      cases e143
                      replace p143 := eq_true p143
                      replace q143 := eq_true q143
                      go_wp2
                      go_roundg k2
                      case measure => have := HK1.out; have := HK2.out; omega
                      case rel => exact ⟨(x1_2), (x5_1 ++ (Utf8.encode (wrap32 (rd t135 x8_2)))), (by first | rfl | (simp; done) | (simp [*]; done)), (by first | rfl | (simp; done) | (simp [*]; done)), H', ⟨by have := HK1.out; have := HK2.out; omega⟩, ⟨by repeat (first | (with_reducible first | exact HB.out | apply below_alloc | apply pw_below_drewN | apply below_drew1) | exact HB.out)⟩⟩
                    · rw [if_neg c11] at H
                      exact absurd H (by simp)
                  · rw [if_neg c10] at H
                    exact absurd H (by simp)
              · rw [if_neg c7] at H
                exact absurd H (by simp)
            · rw [if_neg c6] at H
              exact absurd H (by simp)
      · rw [if_neg c3] at H
        have c3b0 : decide ((x5_1.size : Int) < (wrap64 (2 * a0))) = false := decide_eq_false c3
        clear c3
        obtain rfl := Option.some.inj H
        go_wp2
        go_ret
        exact ⟨by first | rfl | (simp [errW_none, errW_some] <;> rfl) | (simp [*, errW_none, errW_some] <;> rfl), by repeat (first | (with_reducible first | exact HB.out | apply below_alloc | apply pw_below_drewN | apply below_drew1) | exact HB.out)⟩

end Go.Proofs.Ytgdpeabbmbclbaa.Pr

-- Written by a program for this claim.
namespace Go.Proofs.Ytgdpeabbmbclbaa.Pr
open Go.RowKit Go.Proofs.YtgdpeabbmbclbaaW.PrintWords Go.Proofs.YtgdpeabbmbclbaaW.PrintLast Go.Proofs.YtgdpeabbmbclbaaW.PrintMore
attribute [local go_sem] max2_int min2_int max_two min_two max_three min_three max_four min_four   -- for this text's walks alone
set_option linter.unusedVariables false
set_option linter.unusedSimpArgs false

/-! ### impl_allLoops: function 9 -/
def impl_allLoops.l0 : Nat → Int → List ByteArray → Int → Int → Option (List ByteArray)
  | 0, _, _, _, _ => none
  | k + 1, x0, x3, x7, x8 => if x8 < x7 then ((impl_loopOfRank.f k x0 x8).bind fun t148 => (if x3.length < 8796093022208 then (impl_allLoops.l0 k x0 (x3 ++ [t148]) x7 (wrap64 (x8 + 1))) else (none))) else (some x3)
def impl_allLoops.f (k : Nat) (a0 : Int) : Option (List ByteArray) := (impl_countOn.f k 0 a0).bind fun t147 => (impl_allLoops.l0 k a0 (([] : List ByteArray)) t147 0)
theorem impl_allLoops.mono_l : ∀ k, (∀ y0 y1 y2 y3, LeO (impl_allLoops.l0 k y0 y1 y2 y3) (impl_allLoops.l0 (k + 1) y0 y1 y2 y3))
  | 0 => fun _ _ _ _ r h => by simp [impl_allLoops.l0] at h
  | k + 1 => by
    have ih0 := impl_allLoops.mono_l k
    · intro y0 y1 y2 y3
      unfold impl_allLoops.l0
      repeat' first
      | (with_reducible exact ih0 _ _ _ _)
      | (with_reducible exact impl_countOn.mono _ _ _)
      | (with_reducible exact impl_loopOfRank.mono _ _ _)
      | (with_reducible exact LeO.refl _)
      | (with_reducible exact LeO.none _)
      | (with_reducible refine LeO.ite ?_ ?_)
      | (with_reducible refine LeO.bind ?_ (fun _ => ?_))
      | exact ih0 _ _ _ _
      | exact impl_countOn.mono _ _ _
      | exact impl_loopOfRank.mono _ _ _
      | exact LeO.none _
      | refine LeO.ite ?_ ?_
      | refine LeO.bind ?_ (fun _ => ?_)
theorem impl_allLoops.mono : ∀ a0 k, LeO (impl_allLoops.f k a0) (impl_allLoops.f (k + 1) a0) := by
  intro a0 k
  have ih0 := impl_allLoops.mono_l k
  unfold impl_allLoops.f
  repeat' first
      | (with_reducible exact ih0 _ _ _ _)
      | (with_reducible exact impl_countOn.mono _ _ _)
      | (with_reducible exact impl_loopOfRank.mono _ _ _)
      | (with_reducible exact LeO.refl _)
      | (with_reducible exact LeO.none _)
      | (with_reducible refine LeO.ite ?_ ?_)
      | (with_reducible refine LeO.bind ?_ (fun _ => ?_))
      | exact ih0 _ _ _ _
      | exact impl_countOn.mono _ _ _
      | exact impl_loopOfRank.mono _ _ _
      | exact LeO.none _
      | refine LeO.ite ?_ ?_
      | refine LeO.bind ?_ (fun _ => ?_)
set_option maxHeartbeats 8000000 in
set_option maxRecDepth 100000 in
theorem impl_allLoops.calls (k : Nat) (a0 : Int) (r : List ByteArray) (w : World) (h : impl_allLoops.f k a0 = some r) :
    Calls Try.prog 9 #[.int .i64 a0] w fun e w' => ∃ v0_ : Value, e = .returned (v0_) ∧ Kd.R Kd.string 9 w' w.heap.size (fun _ => True) v0_ r ∧ Below w.heap.size w w' := by
  have HB := Aside0.mk (Below.refl w.heap.size w)
  have H : ((impl_countOn.f k 0 a0).bind fun t147 => (impl_allLoops.l0 k a0 (([] : List ByteArray)) t147 0)) = some r := h
  clear h
  obtain ⟨y144, hy144⟩ : ∃ y_ : List ByteArray, y_ = (([] : List ByteArray)) := ⟨_, rfl⟩
  replace H : ((impl_countOn.f k 0 a0).bind fun t147 => (impl_allLoops.l0 k a0 y144 t147 0)) = some r := by first | (rw [hy144]; with_reducible exact H) | (have H2_ := (Option.bind_some _ _).symm.trans H; rw [hy144]; with_reducible exact H2_) | (have H2_ := (Option.bind_some _ _).symm.trans H; with_reducible exact H2_) | with_reducible exact H | (rw [hy144]; exact H) | exact H
  have Ny144 := Aside0.mk hy144
  clear hy144
  replace H := Option.bind_eq_some_iff.mp H
  obtain ⟨t147, A20, H⟩ := H
  replace H : (impl_allLoops.l0 k a0 y144 t147 0) = some r := H
  have A2 := Aside0.mk A20
  clear A20
  have H' := Aside0.mk H
  clear H
  go_enter Try.func9, Try.ntmps9
  go_wp2_with (first | ((with_reducible refine gate_dst (N := 5) rfl ?_); refine Kd.R_lit Kd.string _ 9 ?hg (N := 5) ?hd (xs := ([] : List ByteArray)) (inner := []) (ok := fun _ => True) (okp := fun _ => True) ?hr ?hp (fun _ hk => hk) trivial (Below.refl _ _) (Nat.le_refl _) (by simp) ?_; (case hd => rfl); (case hg => rfl); (case hr => first | (go_simp; done) | (go_simp; rfl)); (case hp => exact (Reps.none _ _)); intro v145 w3 ho4 hb hg_ hnew_; clear hg_ hnew_; (first | rw [← Ny144.out] at ho4 | (simp only [Int.reduceToNat] at ho4; rw [← Ny144.out] at ho4)); have n0_ := Aside0.mk (Kd.R_lower ho4 (below_size (by repeat (first | (with_reducible first | exact HB.out | apply below_alloc | apply pw_below_drewN | apply below_drew1) | exact HB.out)))); have n1_ := Aside0.mk (below_step (by repeat (first | (with_reducible first | exact HB.out | apply below_alloc | apply pw_below_drewN | apply below_drew1) | exact HB.out)) hb); clear HB; have HO146 := n0_; have HB := n1_; clear n0_ n1_; clear hb ho4) | ((with_reducible refine gate_callee (f := 17) rfl ?_); refine goesL_ (some 7) rfl rfl Try.func17 (by kernel_rfl) rfl #[.int .i64 0, .int .i64 a0] rfl (by (try simp only [List.map_toArray, List.map_cons, List.map_nil]); first | done | rfl | (simp only [List.length_drop, List.length_take]; rfl)) ?_; (with_reducible refine (impl_countOn.calls k 0 a0 t147 _ A2.out).mono ?_); rintro e w' ⟨rfl, ⟨nd, rfl⟩⟩; refine ⟨_, rfl, ?_⟩))
  go_loopg [3, 8] k (fun kq v3 v8 w' => ∃ (x3_1 : List ByteArray) (x8_1 : Int), v8 = .int .i64 x8_1 ∧ Aside0 (impl_allLoops.l0 kq a0 x3_1 t147 x8_1 = some r) ∧ Aside0 (kq ≤ k) ∧ Aside0 (Kd.R Kd.string 9 w' w.heap.size (fun _ => True) v3 x3_1) ∧ Aside0 (Below w.heap.size w w'))
  case atStart => exact ⟨(y144), (0), (by first | rfl | (simp; done) | (simp [*]; done)), H', ⟨Nat.le_refl _⟩, ⟨by (with_reducible repeat (first | apply Kd.R_alloc | apply Kd.R_drewN | apply Kd.R_drew)); exact HO146.out⟩, ⟨by repeat (first | (with_reducible first | exact HB.out | apply below_alloc | apply pw_below_drewN | apply below_drew1) | exact HB.out)⟩⟩
  case round =>
    clear H'
    try clear c1
    try clear p2
    obtain ⟨x3_1, x8_1, rfl, HA, HK1, HO_3, HB⟩ := hrel
    cases gk with
    | zero => exact absurd HA.out (by simp [impl_allLoops.l0])
    | succ k1 =>
      have H := HA.out
      clear HA
      simp only [impl_allLoops.l0] at H
      by_cases c5 : x8_1 < t147
      · rw [if_pos c5] at H
        have c5b0 : decide (x8_1 < t147) = true := decide_eq_true c5
        clear c5
        replace H := Option.bind_eq_some_iff.mp H
        obtain ⟨t148, A60, H⟩ := H
        replace H : (if x3_1.length < 8796093022208 then (impl_allLoops.l0 k1 a0 (x3_1 ++ [t148]) t147 (wrap64 (x8_1 + 1))) else (none)) = some r := H
        have A6 := Aside0.mk A60
        clear A60
        by_cases c7 : x3_1.length < 8796093022208
        · rw [if_pos c7] at H
          have LMc7 := Aside0.mk c7
          clear c7
          obtain ⟨y149, hy149⟩ : ∃ y_ : List ByteArray, y_ = (x3_1 ++ [t148]) := ⟨_, rfl⟩
          replace H : (impl_allLoops.l0 k1 a0 y149 t147 (wrap64 (x8_1 + 1))) = some r := by first | (rw [hy149]; with_reducible exact H) | (have H2_ := (Option.bind_some _ _).symm.trans H; rw [hy149]; with_reducible exact H2_) | (have H2_ := (Option.bind_some _ _).symm.trans H; with_reducible exact H2_) | with_reducible exact H | (rw [hy149]; exact H) | exact H
          have Ny149 := Aside0.mk hy149
          clear hy149
          have H' := Aside0.mk H
          clear H
          go_wp2_with (first | ((with_reducible refine gate_callee (f := 18) rfl ?_); refine goesL_ (some 14) rfl rfl Try.func18 (by kernel_rfl) rfl #[.int .i64 a0, .int .i64 x8_1] rfl (by (try simp only [List.map_toArray, List.map_cons, List.map_nil]); first | done | rfl | (simp only [List.length_drop, List.length_take]; rfl)) ?_; (with_reducible refine (impl_loopOfRank.calls k1 a0 x8_1 t148 _ A6.out).mono ?_); rintro e w8 ⟨rfl, hb⟩; refine ⟨_, rfl, ?_⟩; have n0_ := Aside0.mk (Kd.R_below (by (with_reducible repeat (first | apply Kd.R_alloc | apply Kd.R_drewN | apply Kd.R_drew)); exact HO_3.out) hb); have n1_ := Aside0.mk (below_step (by repeat (first | (with_reducible first | exact HB.out | apply below_alloc | apply pw_below_drewN | apply below_drew1) | exact HB.out)) hb); clear HO_3; clear HB; have HO_3 := n0_; have HB := n1_; clear n0_ n1_; (try clear hb); (try clear hb2); (try clear hk); (try clear hi)) | ((with_reducible refine gate_builtin (b := .append) (xs := #[.tmp 11, .tmp 15]) rfl ?_); at_builtin; refine Kd.R_append Kd.string (w0 := w) w.heap.size rfl (.tmp 11) (.tmp 15) 25 9 (.string ⟨#[]⟩) 16 rfl Try.underlying25 info9 rfl (by decide) (by omega) u3 x3_1 t148 [.string t148] (fun _ => True) (fun _ => False) rfl rfl ?aP (fun _ hk => hk.elim) ?aF ?aO ?aB ?aS ?aL ?_; (case aP => exact rfl); (case aB => exact (by repeat (first | (with_reducible first | exact HB.out | apply below_alloc | apply pw_below_drewN | apply below_drew1) | exact HB.out))); (case aF => exact (fun _ _ => trivial)); (case aO => exact (by (with_reducible repeat (first | apply Kd.R_alloc | apply Kd.R_drewN | apply Kd.R_drew)); exact HO_3.out)); (case aS => exact (below_size (by repeat (first | (with_reducible first | exact HB.out | apply below_alloc | apply pw_below_drewN | apply below_drew1) | exact HB.out)))); (case aL => have := LMc7.out; omega); intro v150 w9 ho hb hg hat; rw [← Ny149.out] at ho; have n0_ := Aside0.mk (hb); have n1_ := Aside0.mk (ho); clear HB; clear HO_3; have HB := n0_; have HO151 := n1_; clear n0_ n1_; clear ho hb hg hat))
          go_roundg k1
          case measure => have := HK1.out; omega
          case rel => exact ⟨(y149), (wrap64 (x8_1 + 1)), (by first | rfl | (simp; done) | (simp [*]; done)), H', ⟨by have := HK1.out; omega⟩, ⟨by (with_reducible repeat (first | apply Kd.R_alloc | apply Kd.R_drewN | apply Kd.R_drew)); exact HO151.out⟩, ⟨by repeat (first | (with_reducible first | exact HB.out | apply below_alloc | apply pw_below_drewN | apply below_drew1) | exact HB.out)⟩⟩
        · rw [if_neg c7] at H
          exact absurd H (by simp)
      · rw [if_neg c5] at H
        have c5b0 : decide (x8_1 < t147) = false := decide_eq_false c5
        clear c5
        obtain rfl := Option.some.inj H
        go_wp2
        go_ret
        exact ⟨_, by first | rfl | (simp [errW_none, errW_some] <;> rfl) | (simp [*, errW_none, errW_some] <;> rfl), by (with_reducible repeat (first | apply Kd.R_alloc | apply Kd.R_drewN | apply Kd.R_drew)); exact HO_3.out, by repeat (first | (with_reducible first | exact HB.out | apply below_alloc | apply pw_below_drewN | apply below_drew1) | exact HB.out)⟩

end Go.Proofs.Ytgdpeabbmbclbaa.Pr

-- Written by a program for this claim.
namespace Go.Proofs.Ytgdpeabbmbclbaa.Pr
open Go.RowKit Go.Proofs.YtgdpeabbmbclbaaW.PrintWords Go.Proofs.YtgdpeabbmbclbaaW.PrintLast Go.Proofs.YtgdpeabbmbclbaaW.PrintMore
attribute [local go_sem] max2_int min2_int max_two min_two max_three min_three max_four min_four   -- for this text's walks alone
set_option linter.unusedVariables false
set_option linter.unusedSimpArgs false

/-! ### impl_interlaced: function 21 -/
def impl_interlaced.f (a0 : ByteArray) (a1 : Int) (a2 : Int) : Option (Bool) := (strings_IndexByte.f a0 a1).bind fun t103 => ((strings_LastIndexByte.f a0 a1).bind fun t104 => (if 0 ≤ (wrap64 (t103 + 1)) then (if (wrap64 (t103 + 1)) ≤ t104 then (if t104 ≤ (a0.size : Int) then ((strings_Count.f (a0.extract ((wrap64 (t103 + 1)) : Int).toNat (t104 : Int).toNat) (Utf8.encode (wrap32 (a2)))).bind fun t105 => (some (t105 == 1))) else (none)) else (none)) else (none)))
set_option maxHeartbeats 8000000 in
set_option maxRecDepth 100000 in
theorem impl_interlaced.calls (a0 : ByteArray) (a1 : Int) (a2 : Int) (r : Bool) (w : World) (h : impl_interlaced.f a0 a1 a2 = some r) :
    Calls Try.prog 21 #[.string a0, .int .u8 a1, .int .u8 a2] w fun e w' => e = .returned (.bool r) ∧ Drawn0 w w' := by
  have H : ((strings_IndexByte.f a0 a1).bind fun t103 => ((strings_LastIndexByte.f a0 a1).bind fun t104 => (if 0 ≤ (wrap64 (t103 + 1)) then (if (wrap64 (t103 + 1)) ≤ t104 then (if t104 ≤ (a0.size : Int) then ((strings_Count.f (a0.extract ((wrap64 (t103 + 1)) : Int).toNat (t104 : Int).toNat) (Utf8.encode (wrap32 (a2)))).bind fun t105 => (some (t105 == 1))) else (none)) else (none)) else (none)))) = some r := h
  clear h
  replace H := Option.bind_eq_some_iff.mp H
  obtain ⟨t103, A40, H⟩ := H
  replace H : ((strings_LastIndexByte.f a0 a1).bind fun t104 => (if 0 ≤ (wrap64 (t103 + 1)) then (if (wrap64 (t103 + 1)) ≤ t104 then (if t104 ≤ (a0.size : Int) then ((strings_Count.f (a0.extract ((wrap64 (t103 + 1)) : Int).toNat (t104 : Int).toNat) (Utf8.encode (wrap32 (a2)))).bind fun t105 => (some (t105 == 1))) else (none)) else (none)) else (none))) = some r := H
  have A4 := Aside0.mk A40
  clear A40
  replace H := Option.bind_eq_some_iff.mp H
  obtain ⟨t104, A50, H⟩ := H
  replace H : (if 0 ≤ (wrap64 (t103 + 1)) then (if (wrap64 (t103 + 1)) ≤ t104 then (if t104 ≤ (a0.size : Int) then ((strings_Count.f (a0.extract ((wrap64 (t103 + 1)) : Int).toNat (t104 : Int).toNat) (Utf8.encode (wrap32 (a2)))).bind fun t105 => (some (t105 == 1))) else (none)) else (none)) else (none)) = some r := H
  have A5 := Aside0.mk A50
  clear A50
  obtain ⟨ji6, hji6⟩ : ∃ j_ : Int, (wrap64 (t103 + 1)) = j_ := ⟨_, rfl⟩
  replace H : (if 0 ≤ (ji6) then (if (ji6) ≤ t104 then (if t104 ≤ (a0.size : Int) then ((strings_Count.f (a0.extract ((ji6) : Int).toNat (t104 : Int).toNat) (Utf8.encode (wrap32 (a2)))).bind fun t105 => (some (t105 == 1))) else (none)) else (none)) else (none)) = some r := by first | (rw [hji6] at H; exact H) | (simp only [hji6] at H ⊢; exact H)
  (try rw [hji6] at A4)
  (try rw [hji6] at A5)
  have hji6w : (IntKind.i64.wrap (t103 + 1)) = ji6 := (i64_w _).trans hji6
  by_cases c7 : 0 ≤ (ji6)
  · rw [if_pos c7] at H
    have c7b0 := eq_true c7
    have c7b1 : decide (0 ≤ (ji6)) = true := decide_eq_true c7
    clear c7
    by_cases c8 : (ji6) ≤ t104
    · rw [if_pos c8] at H
      have c8b0 := eq_true c8
      have c8b1 : decide ((ji6) ≤ t104) = true := decide_eq_true c8
      clear c8
      by_cases c9 : t104 ≤ (a0.size : Int)
      · rw [if_pos c9] at H
        have c9b0 := eq_true c9
        have c9b1 : decide (t104 ≤ (a0.size : Int)) = true := decide_eq_true c9
        clear c9
        replace H := Option.bind_eq_some_iff.mp H
        obtain ⟨t105, A100, H⟩ := H
        replace H : (some (t105 == 1)) = some r := H
        have A10 := Aside0.mk A100
        clear A100
        obtain rfl := Option.some.inj H
        go_enter Try.func21, Try.ntmps21
        go_wp2_with (first | ((with_reducible refine gate_callee (f := 31) rfl ?_); refine goesL_ (some 11) rfl rfl Try.func31 (by kernel_rfl) rfl #[.string a0, .int .u8 a1] rfl (by (try simp only [List.map_toArray, List.map_cons, List.map_nil]); first | done | rfl | (simp only [List.length_drop, List.length_take]; rfl)) ?_; (with_reducible refine (strings_IndexByte.calls a0 a1 t103 _ A4.out).mono ?_); rintro e w' ⟨rfl, ⟨nd, rfl⟩⟩; refine ⟨_, rfl, ?_⟩) | ((with_reducible refine gate_callee (f := 32) rfl ?_); refine goesL_ (some 15) rfl rfl Try.func32 (by kernel_rfl) rfl #[.string a0, .int .u8 a1] rfl (by (try simp only [List.map_toArray, List.map_cons, List.map_nil]); first | done | rfl | (simp only [List.length_drop, List.length_take]; rfl)) ?_; (with_reducible refine (strings_LastIndexByte.calls a0 a1 t104 _ A5.out).mono ?_); rintro e w' ⟨rfl, ⟨nd, rfl⟩⟩; refine ⟨_, rfl, ?_⟩) | ((with_reducible refine gate_callee (f := 33) rfl ?_); refine goesL_ (some 21) rfl rfl Try.func33 (by kernel_rfl) rfl #[.string (a0.extract ((ji6) : Int).toNat (t104 : Int).toNat), .string (Utf8.encode (wrap32 (a2)))] rfl (by (try simp only [List.map_toArray, List.map_cons, List.map_nil]); first | done | (simp only [hji6]; rfl) | rfl | (simp only [List.length_drop, List.length_take]; rfl)) ?_; (with_reducible refine (strings_Count.calls (a0.extract ((ji6) : Int).toNat (t104 : Int).toNat) (Utf8.encode (wrap32 (a2))) t105 _ A10.out).mono ?_); rintro e w' ⟨rfl, ⟨nd, rfl⟩⟩; refine ⟨_, rfl, ?_⟩))
        go_ret
        exact ⟨by first | rfl | (simp; done) | (simp only [← hji6] <;> (first | rfl | simp)) | (simp [*]; done), by repeat (first | exact Drawn0.refl _ | apply Drawn0.step)⟩
      · rw [if_neg c9] at H
        exact absurd H (by simp)
    · rw [if_neg c8] at H
      exact absurd H (by simp)
  · rw [if_neg c7] at H
    exact absurd H (by simp)

end Go.Proofs.Ytgdpeabbmbclbaa.Pr

/- What the program's interlacedWith computes: the letters that are interlaced with one. -/
namespace Go.Proofs.Ytgdpeabbmbclbaa.Pr
open Go.RowKit Go.Proofs.YtgdpeabbmbclbaaW.PrintWords Go.Proofs.YtgdpeabbmbclbaaW.PrintLast Go.Proofs.YtgdpeabbmbclbaaW.PrintMore
set_option linter.unusedVariables false
set_option linter.unusedSimpArgs false

/-- Whether a letter is another one, and interlaced with it. -/
def withB (w : ByteArray) (a c : Int) : Bool := (c != a) && (impl_interlaced.f w a c).getD false
def okWith (w : ByteArray) (a : Int) : Bool := decide (w.size ≤ 16) && (M.abcL (w.size / 2)).all fun c => (impl_interlaced.f w a c).isSome
def impl_interlacedWith.f (a0 : ByteArray) (a1 : Int) : Option (ByteArray) := if okWith a0 a1 = true then some (strOfNums (M.lettP (withB a0 a1) 97 (a0.size / 2))) else none

set_option maxHeartbeats 4000000 in
theorem with_pred (w0 : ByteArray) (a : Int) (c : Int) (b : Bool) (hc : impl_interlaced.f w0 a c = some b) (B1 B2 : Nat) (W : World) (h1 : W.cell? ⟨B1, 0, none⟩ = some (.int .u8 a)) (h2 : W.cell? ⟨B2, 0, none⟩ = some (.string w0)) :
    Calls Try.prog 36 #[.int .u8 c, .pointer (some ⟨B1, 0, none⟩), .pointer (some ⟨B2, 0, none⟩)] W fun e w' => e = .returned (.bool ((c != a) && b)) ∧ Below W.heap.size W w' := by
  have HI := Aside0.mk (fun (W1 : World) => impl_interlaced.calls w0 a c b W1 hc)
  clear hc
  cases e : (c == a) with
  | true =>
    have e2 : (c != a) = false := by simpa using e
    go_enter Try.func36, Try.ntmps36
    go_wp2_with fail
    go_ret
    exact ⟨by rw [e2]; rfl, Below.refl _ _⟩
  | false =>
    have e2 : (c != a) = true := by simpa using e
    go_enter Try.func36, Try.ntmps36
    go_wp2_with (go_at_call 21; refine (HI.out _).mono ?_; rintro e w' ⟨rfl, ⟨nd, rfl⟩⟩)
    go_ret
    exact ⟨by rw [e2]; rfl, pw_below_drewN (Below.refl _ _) _⟩

theorem okWith_at {w : ByteArray} {a : Int} (h : okWith w a = true) : w.size ≤ 16 ∧ ∀ x : Int, 97 ≤ x → x < 97 + ((w.size / 2 : Nat) : Int) → ∃ b, impl_interlaced.f w a x = some b := by
  unfold okWith at h
  simp only [Bool.and_eq_true, decide_eq_true_eq, List.all_eq_true] at h
  exact ⟨h.1, fun x h1 h2 => Option.isSome_iff_exists.1 (h.2 x ((M.mem_abc _ x).2 ⟨h1, h2⟩))⟩

set_option maxHeartbeats 4000000 in
theorem impl_interlacedWith.calls (a0 : ByteArray) (a1 : Int) (r : ByteArray) (w : World) (h : impl_interlacedWith.f a0 a1 = some r) :
    Calls Try.prog 30 #[.string a0, .int .u8 a1] w fun e w' => e = .returned (.string r) ∧ Below w.heap.size w w' := by
  unfold impl_interlacedWith.f at h
  by_cases hk : okWith a0 a1 = true
  · rw [if_pos hk] at h
    obtain ⟨h16, hall⟩ := okWith_at hk
    obtain rfl := Option.some.inj h
    have eg : ∀ args w, (callFunc 36 args).run Try.prog w = .ok (.enter 36 args) w := enters_of Try.func36 (by kernel_rfl) rfl
    have hb0 : Below w.heap.size w ((w.alloc (.cells #[.string a0] 9)).alloc (.cells #[.int .u8 a1] 5)) := below_alloc (below_alloc (Below.refl _ _) _) _
    have hc1 : ((w.alloc (.cells #[.string a0] 9)).alloc (.cells #[.int .u8 a1] 5)).cell? ⟨w.heap.size, 0, none⟩ = some (.string a0) := by simp
    have hc2 : ((w.alloc (.cells #[.string a0] 9)).alloc (.cells #[.int .u8 a1] 5)).cell? ⟨w.heap.size + 1, 0, none⟩ = some (.int .u8 a1) := by
      have := (w.alloc (.cells #[.string a0] 9)).heap.size
      simp
    have hsz : w.heap.size + 1 < ((w.alloc (.cells #[.string a0] 9)).alloc (.cells #[.int .u8 a1] 5)).heap.size := by simp
    have hL := Aside0.mk (lettersWith_calls a0 (a0.size / 2) rfl (by omega) (withB a0 a1) 36 #[.pointer (some ⟨w.heap.size + 1, 0, none⟩), .pointer (some ⟨w.heap.size, 0, none⟩)] eg ((w.alloc (.cells #[.string a0] 9)).alloc (.cells #[.int .u8 a1] 5))
      (fun W2 x h1 h2 hb => by
        obtain ⟨b, hbx⟩ := hall x h1 h2
        have e : withB a0 a1 x = ((x != a1) && b) := by unfold withB; rw [hbx]; rfl
        rw [e]
        exact with_pred a0 a1 x b hbx (w.heap.size + 1) w.heap.size W2 ((hb.cell (p := ⟨w.heap.size + 1, 0, none⟩) hsz).trans hc2) ((hb.cell (p := ⟨w.heap.size, 0, none⟩) (show w.heap.size < _ by omega)).trans hc1)))
    generalize strOfNums (M.lettP (withB a0 a1) 97 (a0.size / 2)) = s at hL h
    have HB0 := Aside0.mk hb0
    clear h eg hc1 hc2 hall hb0
    go_enter Try.func30, Try.ntmps30
    go_wp2_with (go_at_call 28; refine hL.out.mono ?_; rintro e w' ⟨rfl, hb⟩)
    go_ret
    exact ⟨rfl, HB0.out.trans (hb.mono (by simp; omega))⟩
  · rw [if_neg hk] at h; cases h
end Go.Proofs.Ytgdpeabbmbclbaa.Pr

/- What the program's common computes: how many letters are interlaced with both. -/
namespace Go.Proofs.Ytgdpeabbmbclbaa.Pr
open Go.RowKit Go.Proofs.YtgdpeabbmbclbaaW.PrintWords Go.Proofs.YtgdpeabbmbclbaaW.PrintLast Go.Proofs.YtgdpeabbmbclbaaW.PrintMore
set_option linter.unusedVariables false
set_option linter.unusedSimpArgs false

/-- Whether a letter is a third one, and interlaced with both. -/
def commB (w : ByteArray) (a b c : Int) : Bool := (c != a) && (c != b) && (impl_interlaced.f w a c).getD false && (impl_interlaced.f w b c).getD false
def impl_common.f (a0 : ByteArray) (a1 : Int) (a2 : Int) : Option (Int) := if okWith a0 a1 = true ∧ okWith a0 a2 = true then some ((M.lettP (commB a0 a1 a2) 97 (a0.size / 2)).length : Int) else none

set_option maxHeartbeats 1000000 in
theorem comm_pred (w0 : ByteArray) (a b : Int) (c : Int) (p q : Bool) (hp : impl_interlaced.f w0 a c = some p) (hq : impl_interlaced.f w0 b c = some q) (B1 B2 B3 : Nat) (W : World) (h1 : W.cell? ⟨B1, 0, none⟩ = some (.int .u8 a)) (h2 : W.cell? ⟨B2, 0, none⟩ = some (.int .u8 b)) (h3 : W.cell? ⟨B3, 0, none⟩ = some (.string w0)) :
    Calls Try.prog 34 #[.int .u8 c, .pointer (some ⟨B1, 0, none⟩), .pointer (some ⟨B2, 0, none⟩), .pointer (some ⟨B3, 0, none⟩)] W fun e w' => e = .returned (.bool ((c != a) && (c != b) && p && q)) ∧ Below W.heap.size W w' := by
  have HP := Aside0.mk (fun (W1 : World) => impl_interlaced.calls w0 a c p W1 hp)
  have HQ := Aside0.mk (fun (W1 : World) => impl_interlaced.calls w0 b c q W1 hq)
  clear hp hq
  cases e : (c == a) with
  | true =>
    have e2 : (c != a) = false := by simpa using e
    go_enter Try.func34, Try.ntmps34
    go_wp2_with fail
    go_ret
    exact ⟨by rw [e2]; rfl, Below.refl _ _⟩
  | false =>
    have e2 : (c != a) = true := by simpa using e
    cases f : (c == b) with
    | true =>
      have f2 : (c != b) = false := by simpa using f
      go_enter Try.func34, Try.ntmps34
      go_wp2_with fail
      go_ret
      exact ⟨by rw [e2, f2]; rfl, Below.refl _ _⟩
    | false =>
      have f2 : (c != b) = true := by simpa using f
      cases p with
      | false =>
        go_enter Try.func34, Try.ntmps34
        go_wp2_with (go_at_call 21; with_reducible refine (HP.out _).mono ?_; rintro e w' ⟨rfl, ⟨nd, rfl⟩⟩)
        go_ret
        exact ⟨by rw [e2, f2]; rfl, pw_below_drewN (Below.refl _ _) _⟩
      | true =>
        go_enter Try.func34, Try.ntmps34
        go_wp2_with (first | (go_at_call 21; with_reducible refine (HP.out _).mono ?_; rintro e w' ⟨rfl, ⟨nd, rfl⟩⟩) | (go_at_call 21; with_reducible refine (HQ.out _).mono ?_; rintro e w' ⟨rfl, ⟨nd2, rfl⟩⟩))
        go_ret
        exact ⟨by rw [e2, f2]; rfl, pw_below_drewN (Below.refl _ _) _⟩

theorem fresh_cell (W : World) (u : Value) (t : TypeId) : (W.alloc (.cells #[u] t)).cell? ⟨W.heap.size, 0, none⟩ = some u := by simp
theorem kept_cell (W : World) (o : Obj) {B : Nat} {v : Value} (hB : B < W.heap.size) (h : W.cell? ⟨B, 0, none⟩ = some v) : (W.alloc o).cell? ⟨B, 0, none⟩ = some v := ((below_alloc (Below.refl W.heap.size W) o).cell (p := ⟨B, 0, none⟩) hB).trans h
theorem strOf_size (l : List Int) : (strOfNums l).size = l.length := by
  unfold strOfNums
  show (List.toArray _).size = _
  rw [List.size_toArray, List.length_map]

set_option maxHeartbeats 4000000 in
theorem impl_common.calls (a0 : ByteArray) (a1 : Int) (a2 : Int) (r : Int) (w : World) (h : impl_common.f a0 a1 a2 = some r) :
    Calls Try.prog 22 #[.string a0, .int .u8 a1, .int .u8 a2] w fun e w' => e = .returned (.int .i64 r) ∧ Below w.heap.size w w' := by
  unfold impl_common.f at h
  by_cases hk : okWith a0 a1 = true ∧ okWith a0 a2 = true
  · rw [if_pos hk] at h
    obtain ⟨h16, hall⟩ := okWith_at hk.1
    obtain ⟨_, hall2⟩ := okWith_at hk.2
    obtain rfl := Option.some.inj h
    have eg : ∀ args w, (callFunc 34 args).run Try.prog w = .ok (.enter 34 args) w := enters_of Try.func34 (by kernel_rfl) rfl
    obtain ⟨W0, hW0⟩ : ∃ W0, W0 = ((w.alloc (.cells #[.string a0] 9)).alloc (.cells #[.int .u8 a1] 5)).alloc (.cells #[.int .u8 a2] 5) := ⟨_, rfl⟩
    have hb0 : Below w.heap.size w W0 := by rw [hW0]; exact below_alloc (below_alloc (below_alloc (Below.refl _ _) _) _) _
    have z1 : (w.alloc (.cells #[.string a0] 9)).heap.size = w.heap.size + 1 := by simp
    have z2 : ((w.alloc (.cells #[.string a0] 9)).alloc (.cells #[.int .u8 a1] 5)).heap.size = w.heap.size + 1 + 1 := by simp
    have hc1 : W0.cell? ⟨w.heap.size, 0, none⟩ = some (.string a0) := by rw [hW0]; exact kept_cell _ _ (by rw [z2]; omega) (kept_cell _ _ (by rw [z1]; omega) (fresh_cell _ _ _))
    have hc2 : W0.cell? ⟨w.heap.size + 1, 0, none⟩ = some (.int .u8 a1) := by rw [hW0, ← z1]; exact kept_cell _ _ (by rw [z2, z1]; omega) (fresh_cell _ _ _)
    have hc3 : W0.cell? ⟨w.heap.size + 1 + 1, 0, none⟩ = some (.int .u8 a2) := by rw [hW0, ← z2]; exact fresh_cell _ _ _
    have hsz : w.heap.size + 1 + 1 < W0.heap.size := by rw [hW0]; simp
    have hL := Aside0.mk (lettersWith_calls a0 (a0.size / 2) rfl (by omega) (commB a0 a1 a2) 34 #[.pointer (some ⟨w.heap.size + 1, 0, none⟩), .pointer (some ⟨w.heap.size + 1 + 1, 0, none⟩), .pointer (some ⟨w.heap.size, 0, none⟩)] eg W0
      (fun W2 x h1 h2 hb => by
        obtain ⟨b, hbx⟩ := hall x h1 h2
        obtain ⟨q, hqx⟩ := hall2 x h1 h2
        have e : commB a0 a1 a2 x = ((x != a1) && (x != a2) && b && q) := by unfold commB; rw [hbx, hqx]; rfl
        rw [e]
        exact comm_pred a0 a1 a2 x b q hbx hqx (w.heap.size + 1) (w.heap.size + 1 + 1) w.heap.size W2 ((hb.cell (p := ⟨w.heap.size + 1, 0, none⟩) (show w.heap.size + 1 < _ by omega)).trans hc2) ((hb.cell (p := ⟨w.heap.size + 1 + 1, 0, none⟩) hsz).trans hc3) ((hb.cell (p := ⟨w.heap.size, 0, none⟩) (show w.heap.size < _ by omega)).trans hc1)))
    have hn := strOf_size (M.lettP (commB a0 a1 a2) 97 (a0.size / 2))
    rw [← hn]
    generalize strOfNums (M.lettP (commB a0 a1 a2) 97 (a0.size / 2)) = s at hL h
    have HB0 := Aside0.mk hb0
    have hwz := hb0.size
    clear h eg hc1 hc2 hc3 hall hall2 hb0 hn hk
    clear z1 z2 hsz
    subst hW0
    go_enter Try.func22, Try.ntmps22
    go_wp2_with (go_at_call 28; refine hL.out.mono ?_; rintro e w' ⟨rfl, hb⟩)
    go_ret
    exact ⟨rfl, HB0.out.trans (hb.mono hwz)⟩
  · rw [if_neg hk] at h; cases h
end Go.Proofs.Ytgdpeabbmbclbaa.Pr

/- A row of one's own of which no cell is frozen, whatever its mark: a text's bytes, appended to one by one. -/
namespace Go.Proofs.Ytgdpeabbmbclbaa.Pr
open Go.RowKit Go.Proofs.YtgdpeabbmbclbaaW.PrintWords Go.Proofs.YtgdpeabbmbclbaaW.PrintLast Go.Proofs.YtgdpeabbmbclbaaW.PrintMore
set_option linter.unusedVariables false
set_option linter.unusedSimpArgs false

/-- The row v of one's own holds xs; its mark touches none of its cells. -/
def OwnT (w : World) (base : Nat) (e : TypeId) (v : Value) (xs : List Value) : Prop :=
  ∃ g cap cur fz, v = .slice (some ⟨g, 0, none⟩) xs.length cap ∧ base ≤ g ∧ w.heap[g]? = some (.cells cur e fz) ∧ (fz.1 < fz.2 → cur.size ≤ fz.1) ∧ xs.length ≤ cap ∧ cap ≤ maxLen ∧ cur.size = cap ∧ cur.toList.take xs.length = xs
theorem OwnT.lt {w : World} {base : Nat} {e : TypeId} {v : Value} {xs : List Value} (h : OwnT w base e v xs) : ∃ g, v.ownBlock = some g ∧ base ≤ g ∧ g < w.heap.size := by
  obtain ⟨g, cap, cur, fz, rfl, hb, hg, _⟩ := h
  exact ⟨g, rfl, hb, (Array.getElem?_eq_some_iff.1 hg).1⟩
theorem OwnT.below {w w' : World} {base : Nat} {e : TypeId} {v : Value} {xs : List Value} (h : OwnT w base e v xs) (hb : Below w.heap.size w w') : OwnT w' base e v xs := by
  obtain ⟨g, cap, cur, fz, hv, hbg, hg, rest⟩ := h
  exact ⟨g, cap, cur, fz, hv, hbg, (hb.block g (Array.getElem?_eq_some_iff.1 hg).1).trans hg, rest⟩
theorem OwnT.cell {w : World} {base : Nat} {e : TypeId} {xs : List Value} {g n cap : Nat} (h : OwnT w base e (.slice (some ⟨g, 0, none⟩) n cap) xs) (j : Nat) (u : Value) (hu : xs[j]? = some u) : w.cell? ⟨g, j, none⟩ = some u := by
  obtain ⟨g', cap', cur, fz, hv, hbg, hg, hfz, hn, hm, hc, ht⟩ := h
  simp only [Value.slice.injEq, Option.some.injEq, Addr.mk.injEq] at hv
  obtain ⟨⟨rfl, _, _⟩, _, _⟩ := hv
  rw [← ht, List.getElem?_take] at hu
  split at hu
  · simp only [World.cell?, hg]
    simpa using hu
  · cases hu
theorem bytes_own (W : World) (e : TypeId) (s : ByteArray) (base : Nat) (hb : base ≤ W.heap.size) (hs : s.size ≤ 1000000) : OwnT (Lib.bytesWorld W e s) base e (.slice (some ⟨W.heap.size, 0, none⟩) s.size (grownCap W s.size 0 e)) (encs (fun (x : Int) => Value.int .u8 x) (bytesOf s)) := by
  have hlen := bytesOf_length s
  have hge := grownCap_ge W s.size 0 e
  have hl : (encs (fun (x : Int) => Value.int .u8 x) (bytesOf s)).length = s.size := by rw [encs_length, hlen]
  have hbs : (Lib.bytesCells W e s).size = grownCap W s.size 0 e := by
    unfold Lib.bytesCells
    rw [Array.size_append, Array.size_map, Array.size_replicate]
    have : s.data.size = s.size := rfl
    omega
  refine ⟨W.heap.size, grownCap W s.size 0 e, _, _, by rw [hl], hb, Lib.bytesWorld_at_new W e s, fun _ => Nat.le_refl _, by omega, grownCap_le_maxLen W s.size 0 e (by simp only [maxLen]; omega), hbs, ?_⟩
  rw [hl]
  unfold Lib.bytesCells
  rw [Array.toList_append, List.take_left' (by rw [Array.length_toList, Array.size_map]; rfl)]
  simp [encs, bytesOf]

/-- One cell more. -/
theorem append_tail {P : Program} (w : World) (base : Nat) (t ty e : TypeId) (i : TypeInfo) (z : Value) (ht : P.underlying t = some (.slice e)) (hi : P.info? e = some i) (hz : i.zero = some z) (hsize : i.size = 1) (hby : i.bytes = 1) (hzs : z.cells.size = 1)
    (v : Value) (xs : List Value) (hown : OwnT w base e v xs) (a : Addr) (c : Nat) (u : Value) (hu : w.cell? a = some u) (h1 : u.oneCell' = true) (hl : xs.length ≤ 1000000) (hbase : base ≤ w.heap.size) :
    ∃ v' w', (Builtin.append_ #[t, t] ty #[v, .slice (some a) 1 c]).run P w = .ok v' w' ∧ OwnT w' base e v' (xs ++ [u]) ∧ w.grownBy w' v.ownBlock := by
  have hn0 : ∀ j u', [u][j]? = some u' → w.cell? (a.add j) = some u' := by
    intro j u' hj
    match j, hj with
    | 0, hj =>
      injection hj with hj
      subst hj
      have : a.add 0 = a := by unfold Addr.add; split <;> simp_all
      rw [this]; exact hu
    | j + 1, hj => simp at hj
  obtain ⟨g, cap, cur, fz, rfl, hbg, hg, hfz, hn, hm, hc, htk⟩ := hown
  by_cases hroom : xs.length + 1 ≤ cap
  · have hf := run_firstCells_some (P := P) w i.size 1 a 1 c [u] (by rw [hsize]; rfl) hn0
    have hlt : xs.length < cur.size := by omega
    have hadd : (⟨g, xs.length, none⟩ : Addr).add 0 = ⟨g, xs.length, none⟩ := by unfold Addr.add; split <;> simp_all
    have hcell : w.cell? ⟨g, xs.length, none⟩ = some cur[xs.length] := by simp [World.cell?, hg, hlt]
    have hfro : w.frozen? ⟨g, xs.length, none⟩ = false := by
      obtain ⟨lo, hi'⟩ := fz
      simp only [World.frozen?, hg, Bool.and_eq_false_iff, decide_eq_false_iff_not]
      simp only at hfz
      by_cases h : lo < hi'
      · left
        have := hfz h
        omega
      · omega
    have hst : (storeCells ⟨g, xs.length, none⟩ [u] 0).run P w = .ok () (w.setRow g (cur.setIfInBounds xs.length u)) := by
      simp only [storeCells, Sem.run_bind, hadd]
      rw [run_store P w _ u _ h1, hcell]
      simp [hfro, setCell_eq_setRow w g xs.length cur e fz u hg, Result.andThen]
    refine ⟨.slice (some ⟨g, 0, none⟩) (xs.length + 1) cap, w.setRow g (cur.setIfInBounds xs.length u), ?_, ⟨g, cap, _, fz, by simp, hbg, setRow_heap w g cur _ e _ hg, ?_, by simpa using hroom, hm, by simpa using hc, ?_⟩, ⟨rfl, rfl, rfl, by simp, fun k _ hk => setRow_other w g k _ (fun e => hk (by simp [Value.ownBlock, e]))⟩⟩
    · simp [Builtin.append_, run_underlying ht, sizeOf, typeInfo, hi, hsize, Builtin.lenOf, hroom, hf, Addr.add_lit, hst]
      rw [hsize] at hf
      rw [hf]
      simp only [Result.andThen]
      rw [hst]
    · intro h
      rw [Array.size_setIfInBounds]
      exact hfz h
    · have hl2 : (xs ++ [u]).length = xs.length + 1 := by simp
      rw [hl2, Array.toList_setIfInBounds]
      have e1 : (cur.toList.set xs.length u).take (xs.length + 1) = cur.toList.take xs.length ++ [u] := by
        rw [List.take_add_one, List.take_set_of_le (Nat.le_refl _), List.getElem?_set_self (by rw [Array.length_toList]; exact hlt)]
        rfl
      rw [e1, htk]
  · have holds : ∀ j u', xs[j]? = some u' → w.cell? ((⟨g, 0, none⟩ : Addr).add j) = some u' := by
      intro j u' hj
      have hadd : (⟨g, 0, none⟩ : Addr).add j = ⟨g, j, none⟩ := by unfold Addr.add; split <;> simp_all
      rw [hadd]
      exact OwnT.cell (base := base) (n := xs.length) (cap := cap) ⟨g, cap, cur, fz, rfl, hbg, hg, hfz, hn, hm, hc, htk⟩ j u' hj
    have hr := run_append_grow (P := P) w t ty e i z ht hi hz ⟨g, 0, none⟩ xs.length cap xs (by rw [hsize]; omega) holds a 1 c [u] (by rw [hsize]; rfl) hn0 (by omega) (by omega) (growslice_fits (by omega) (by rw [hby]; omega))
    have hge := grownCap_ge w (xs.length + 1) cap e
    have hcm2 : grownCap w (xs.length + 1) cap e ≤ maxLen := grownCap_le_maxLen w (xs.length + 1) cap e (by simp only [maxLen]; omega)
    refine ⟨_, _, hr, ⟨w.heap.size, _, _, (0, 0), by simp, hbase, heap_alloc_new w.drew _, fun h => absurd h (by simp), by simpa using hge, hcm2, ?_, ?_⟩, ⟨rfl, rfl, rfl, by simp, fun k hk _ => heap_alloc_old w.drew _ hk⟩⟩
    · simp only [Array.size_append, List.size_toArray, size_zeroCells, hzs]
      simp only [List.length_singleton]
      omega
    · simp only [Array.toList_append, List.append_assoc]
      rw [← List.append_assoc]
      exact List.take_left

theorem wp_append_tail {P : Program} {ops : Array Oper} {rest : List Oper} {o : Oper} {a : Act} {Q : Exit → Act → World → Prop} {w0 W : World} (base : Nat) (hgd : o.guard = none) (s x : Operand) (t e : TypeId) (z : Value)
    (ho : o.op = .call { callee := .builtin .append, args := #[s, x], argTypes := #[t, t] }) (ht : P.underlying t = some (.slice e)) (hinfo : (P.info? e).map (fun i => (i.zero, i.size, i.bytes)) = some (some z, 1, 1)) (hzs : z.cells.size = 1)
    (v : Value) (xs : List Value) (u : Value) (hs : a.eval s = v) (hx : a.eval x = .slice (some ⟨W.heap.size, 0, none⟩) 1 1) (h1 : u.oneCell' = true)
    (HO : OwnT W base e v xs) (HB : Below base w0 W) (hbase : base ≤ W.heap.size) (hl : xs.length ≤ 1000000)
    (h : ∀ v1 w1, OwnT w1 base e v1 (xs ++ [u]) → Below base w0 w1 → wpList P ops Q rest (a.put o.dst v1) w1) : wpList P ops Q (o :: rest) a (W.alloc (.cells #[u] e)) := by
  obtain ⟨i0, hi, hzz⟩ := Option.map_eq_some_iff.1 hinfo
  simp only [Prod.mk.injEq] at hzz
  obtain ⟨hz0, hz1, hz2⟩ := hzz
  have hal : Below W.heap.size W (W.alloc (.cells #[u] e)) := below_alloc (Below.refl _ _) _
  have hu : (W.alloc (.cells #[u] e)).cell? ⟨W.heap.size, 0, none⟩ = some u := by simp
  refine wpList_plain hgd fun K hK => ?_
  obtain ⟨g, hg1, hg2, hg3⟩ := HO.lt
  obtain ⟨v', w', hr, h2, h3⟩ := append_tail (P := P) (W.alloc (.cells #[u] e)) base t o.type e i0 z ht hi hz0 hz1 hz2 hzs v xs (HO.below hal) ⟨W.heap.size, 0, none⟩ 1 u hu h1 hl (Nat.le_trans hbase hal.size)
  unfold Oper.wp execOp
  simp only [ho, resolve, invoke, builtin, Sem.run_bind, Sem.run_pure, Result.andThen_ok, List.map_toArray, List.map_cons, List.map_nil, hs, hx, hr]
  exact hK _ _ (h v' w' h2 ((HB.trans (hal.mono hbase)).grown h3 (Nat.le_trans hbase hal.size) (fun k hk => by rw [hg1] at hk; injection hk with hk; omega)))
/-- The text that such a row is. -/
theorem tail_string {P : Program} {w : World} {base : Nat} {src dst e e' : TypeId} {v : Value} {xs : List Int} (hs : P.underlying src = some (.slice e)) (he : P.underlying e = some (.int .u8)) (hd : P.underlying dst = some .string)
    (h : OwnT w base e' v (encs (fun (x : Int) => Value.int .u8 x) xs)) : (convert src dst v).run P w = .ok (.string (strOfNums xs)) w := by
  have h0 := h
  obtain ⟨g, cap, cur, fz, rfl, hbg, hg, rest⟩ := h
  have hl : (encs (fun (x : Int) => Value.int .u8 x) xs).length = xs.length := encs_length ..
  rw [hl] at h0 ⊢
  refine run_convert_bytes_arg w src e hs he g 0 xs.length cap xs rfl (fun i hi => ?_) dst hd
  have hc := OwnT.cell h0 i (.int .u8 (xs.getD i 0)) (by simp [encs, List.getElem?_eq_getElem hi, List.getD_eq_getElem?_getD])
  rw [Nat.zero_add]
  exact hc
end Go.Proofs.Ytgdpeabbmbclbaa.Pr

/- A row of one's own that begins somewhere in its block: cut at its front, and appended to. -/
namespace Go.Proofs.Ytgdpeabbmbclbaa.Pr
open Go.RowKit Go.Proofs.YtgdpeabbmbclbaaW.PrintWords Go.Proofs.YtgdpeabbmbclbaaW.PrintLast Go.Proofs.YtgdpeabbmbclbaaW.PrintMore
set_option linter.unusedVariables false
set_option linter.unusedSimpArgs false

/-- The row v of one's own, in block g from cell off on, holds xs; its mark touches none of its cells. -/
def OwnO (w : World) (base : Nat) (e : TypeId) (v : Value) (xs : List Value) : Prop :=
  ∃ g off cap cur fz, v = .slice (some ⟨g, off, none⟩) xs.length cap ∧ base ≤ g ∧ w.heap[g]? = some (.cells cur e fz) ∧ (fz.1 < fz.2 → cur.size ≤ fz.1) ∧ xs.length ≤ cap ∧ cap ≤ maxLen ∧ off + cap ≤ cur.size ∧ (cur.toList.drop off).take xs.length = xs
theorem OwnO.lt {w : World} {base : Nat} {e : TypeId} {v : Value} {xs : List Value} (h : OwnO w base e v xs) : ∃ g, v.ownBlock = some g ∧ base ≤ g ∧ g < w.heap.size := by
  obtain ⟨g, off, cap, cur, fz, rfl, hb, hg, _⟩ := h
  exact ⟨g, rfl, hb, (Array.getElem?_eq_some_iff.1 hg).1⟩
theorem OwnO.same {w w' : World} {base : Nat} {e : TypeId} {v : Value} {xs : List Value} (h : OwnO w base e v xs) (hb : ∀ g, v.ownBlock = some g → w'.heap[g]? = w.heap[g]?) : OwnO w' base e v xs := by
  obtain ⟨g, off, cap, cur, fz, hv, hbg, hg, rest⟩ := h
  refine ⟨g, off, cap, cur, fz, hv, hbg, (hb g (by rw [hv]; rfl)).trans hg, rest⟩
theorem OwnO.below {w w' : World} {base : Nat} {e : TypeId} {v : Value} {xs : List Value} (h : OwnO w base e v xs) (hb : Below w.heap.size w w') : OwnO w' base e v xs := by
  obtain ⟨g, h1, h2, h3⟩ := h.lt
  exact h.same fun g' e => by
    rw [h1] at e
    injection e with e
    exact hb.block g' (by omega)
theorem add_off (g off n : Nat) : (⟨g, off, none⟩ : Addr).add n = ⟨g, off + n, none⟩ := by
  unfold Addr.add
  split
  · simp_all
  · rfl
theorem OwnO.cell {w : World} {base : Nat} {e : TypeId} {xs : List Value} {g off n cap : Nat} (h : OwnO w base e (.slice (some ⟨g, off, none⟩) n cap) xs) (j : Nat) (u : Value) (hu : xs[j]? = some u) : w.cell? ⟨g, off + j, none⟩ = some u := by
  obtain ⟨g', off', cap', cur, fz, hv, hbg, hg, hfz, hn, hm, hc, ht⟩ := h
  simp only [Value.slice.injEq, Option.some.injEq, Addr.mk.injEq] at hv
  obtain ⟨⟨rfl, rfl, _⟩, _, _⟩ := hv
  rw [← ht, List.getElem?_take] at hu
  split at hu
  · rw [List.getElem?_drop] at hu
    simp only [World.cell?, hg]
    simpa using hu
  · cases hu
/-- The first cell cut away. -/
theorem OwnO.rest {w : World} {base : Nat} {e : TypeId} {x : Value} {xs : List Value} {g off n cap : Nat} (h : OwnO w base e (.slice (some ⟨g, off, none⟩) n cap) (x :: xs)) : OwnO w base e (.slice (if cap = 1 then some ⟨g, off, none⟩ else some ⟨g, off + 1, none⟩) (n - 1) (cap - 1)) xs := by
  obtain ⟨g', off', cap', cur, fz, hv, hbg, hg, hfz, hn, hm, hc, ht⟩ := h
  simp only [Value.slice.injEq, Option.some.injEq, Addr.mk.injEq] at hv
  obtain ⟨⟨rfl, rfl, _⟩, rfl, rfl⟩ := hv
  rw [List.length_cons] at hn ht ⊢
  by_cases h1 : cap = 1
  · subst h1
    have h0 : xs = [] := List.eq_nil_of_length_eq_zero (by omega)
    subst h0
    exact ⟨g, off, 0, cur, fz, by simp, hbg, hg, hfz, by simp, by omega, by omega, by simp⟩
  · refine ⟨g, off + 1, cap - 1, cur, fz, by rw [if_neg h1]; simp, hbg, hg, hfz, by omega, by omega, by omega, ?_⟩
    have hlt : off < cur.toList.length := by rw [Array.length_toList]; omega
    rw [List.drop_eq_getElem_cons hlt, List.take_succ_cons] at ht
    injection ht
/-- One cell more. -/
theorem append_off {P : Program} (w : World) (base : Nat) (t ty e : TypeId) (i : TypeInfo) (z : Value) (ht : P.underlying t = some (.slice e)) (hi : P.info? e = some i) (hz : i.zero = some z) (hsize : i.size = 1) (hby : i.bytes ≤ 8) (hzs : z.cells.size = 1)
    (v : Value) (xs : List Value) (hown : OwnO w base e v xs) (a : Addr) (c : Nat) (u : Value) (hu : w.cell? a = some u) (h1 : u.oneCell' = true) (hl : xs.length ≤ 1000000) (hbase : base ≤ w.heap.size) :
    ∃ v' w', (Builtin.append_ #[t, t] ty #[v, .slice (some a) 1 c]).run P w = .ok v' w' ∧ OwnO w' base e v' (xs ++ [u]) ∧ w.grownBy w' v.ownBlock ∧ (v'.ownBlock = v.ownBlock ∨ v'.ownBlock = some w.heap.size) := by
  have hn0 : ∀ j u', [u][j]? = some u' → w.cell? (a.add j) = some u' := by
    intro j u' hj
    match j, hj with
    | 0, hj =>
      injection hj with hj
      subst hj
      have : a.add 0 = a := by unfold Addr.add; split <;> simp_all
      rw [this]; exact hu
    | j + 1, hj => simp at hj
  obtain ⟨g, off, cap, cur, fz, rfl, hbg, hg, hfz, hn, hm, hc, htk⟩ := hown
  by_cases hroom : xs.length + 1 ≤ cap
  · have hf := run_firstCells_some (P := P) w i.size 1 a 1 c [u] (by rw [hsize]; rfl) hn0
    have hlt : off + xs.length < cur.size := by omega
    have hadd : (⟨g, off + xs.length, none⟩ : Addr).add 0 = ⟨g, off + xs.length, none⟩ := by unfold Addr.add; split <;> simp_all
    have hadd2 : (⟨g, off, none⟩ : Addr).add (xs.length * 1) = ⟨g, off + xs.length, none⟩ := by rw [Nat.mul_one, add_off]
    have hadd3 : (⟨g, off, none⟩ : Addr).add xs.length = ⟨g, off + xs.length, none⟩ := add_off _ _ _
    have hcell : w.cell? ⟨g, off + xs.length, none⟩ = some cur[off + xs.length] := by simp [World.cell?, hg, hlt]
    have hfro : w.frozen? ⟨g, off + xs.length, none⟩ = false := by
      obtain ⟨lo, hi'⟩ := fz
      simp only [World.frozen?, hg, Bool.and_eq_false_iff, decide_eq_false_iff_not]
      simp only at hfz
      by_cases h : lo < hi'
      · left
        have := hfz h
        omega
      · omega
    have hst : (storeCells ⟨g, off + xs.length, none⟩ [u] 0).run P w = .ok () (w.setRow g (cur.setIfInBounds (off + xs.length) u)) := by
      simp only [storeCells, Sem.run_bind, hadd]
      rw [run_store P w _ u _ h1, hcell]
      simp [hfro, setCell_eq_setRow w g (off + xs.length) cur e fz u hg, Result.andThen]
    refine ⟨.slice (some ⟨g, off, none⟩) (xs.length + 1) cap, w.setRow g (cur.setIfInBounds (off + xs.length) u), ?_, ⟨g, off, cap, _, fz, by simp, hbg, setRow_heap w g cur _ e _ hg, ?_, by simpa using hroom, hm, by simpa using hc, ?_⟩, ⟨rfl, rfl, rfl, by simp, fun k _ hk => setRow_other w g k _ (fun e => hk (by simp [Value.ownBlock, e]))⟩, .inl rfl⟩
    · simp [Builtin.append_, run_underlying ht, sizeOf, typeInfo, hi, hsize, Builtin.lenOf, hroom, hf, hadd2, hadd3, hst]
      rw [hsize] at hf
      rw [hf]
      simp only [Result.andThen]
      rw [hst]
    · intro h
      rw [Array.size_setIfInBounds]
      exact hfz h
    · have hl2 : (xs ++ [u]).length = xs.length + 1 := by simp
      rw [hl2, Array.toList_setIfInBounds]
      have e0 : (cur.toList.set (off + xs.length) u).drop off = (cur.toList.drop off).set xs.length u := by
        rw [List.drop_set, if_neg (by omega)]
        congr 1
        omega
      have e1 : ((cur.toList.drop off).set xs.length u).take (xs.length + 1) = (cur.toList.drop off).take xs.length ++ [u] := by
        rw [List.take_add_one, List.take_set_of_le (Nat.le_refl _), List.getElem?_set_self (by have := Array.length_toList (xs := cur); rw [List.length_drop]; omega)]
        rfl
      rw [e0, e1, htk]
  · have holds : ∀ j u', xs[j]? = some u' → w.cell? ((⟨g, off, none⟩ : Addr).add j) = some u' := by
      intro j u' hj
      rw [add_off]
      exact OwnO.cell (base := base) (n := xs.length) (cap := cap) ⟨g, off, cap, cur, fz, rfl, hbg, hg, hfz, hn, hm, hc, htk⟩ j u' hj
    have hr := run_append_grow (P := P) w t ty e i z ht hi hz ⟨g, off, none⟩ xs.length cap xs (by rw [hsize]; omega) holds a 1 c [u] (by rw [hsize]; rfl) hn0 (by omega) (by omega) (growslice_fits (by omega) (by have := Nat.mul_le_mul (show xs.length + 1 ≤ 1000001 by omega) hby; omega))
    have hge := grownCap_ge w (xs.length + 1) cap e
    have hcm2 : grownCap w (xs.length + 1) cap e ≤ maxLen := grownCap_le_maxLen w (xs.length + 1) cap e (by simp only [maxLen]; omega)
    refine ⟨_, _, hr, ⟨w.heap.size, 0, _, _, (0, 0), by simp, hbase, heap_alloc_new w.drew _, fun h => absurd h (by simp), by simpa using hge, hcm2, ?_, ?_⟩, ⟨rfl, rfl, rfl, by simp, fun k hk _ => heap_alloc_old w.drew _ hk⟩, .inr rfl⟩
    · simp only [Array.size_append, List.size_toArray, size_zeroCells, hzs]
      simp only [List.length_singleton]
      omega
    · simp only [Array.toList_append, List.append_assoc, List.drop_zero]
      rw [← List.append_assoc]
      exact List.take_left

theorem wp_append_off {P : Program} {ops : Array Oper} {rest : List Oper} {o : Oper} {a : Act} {Q : Exit → Act → World → Prop} {w0 W : World} (base : Nat) (hgd : o.guard = none) (s x : Operand) (t e : TypeId) (z : Value) (bz : Nat) (hbz : bz ≤ 8)
    (ho : o.op = .call { callee := .builtin .append, args := #[s, x], argTypes := #[t, t] }) (ht : P.underlying t = some (.slice e)) (hinfo : (P.info? e).map (fun i => (i.zero, i.size, i.bytes)) = some (some z, 1, bz)) (hzs : z.cells.size = 1)
    (v : Value) (xs : List Value) (u : Value) (hs : a.eval s = v) (hx : a.eval x = .slice (some ⟨W.heap.size, 0, none⟩) 1 1) (h1 : u.oneCell' = true)
    (HO : OwnO W base e v xs) (HB : Below base w0 W) (hbase : base ≤ W.heap.size) (hl : xs.length ≤ 1000000)
    (h : ∀ v1 w1, OwnO w1 base e v1 (xs ++ [u]) → Below base w0 w1 → (W.alloc (.cells #[u] e)).grownBy w1 v.ownBlock → (v1.ownBlock = v.ownBlock ∨ ∃ g, v1.ownBlock = some g ∧ W.heap.size ≤ g) → wpList P ops Q rest (a.put o.dst v1) w1) : wpList P ops Q (o :: rest) a (W.alloc (.cells #[u] e)) := by
  obtain ⟨i0, hi, hzz⟩ := Option.map_eq_some_iff.1 hinfo
  simp only [Prod.mk.injEq] at hzz
  obtain ⟨hz0, hz1, hz2⟩ := hzz
  have hal : Below W.heap.size W (W.alloc (.cells #[u] e)) := below_alloc (Below.refl _ _) _
  have hu : (W.alloc (.cells #[u] e)).cell? ⟨W.heap.size, 0, none⟩ = some u := by simp
  refine wpList_plain hgd fun K hK => ?_
  obtain ⟨g, hg1, hg2, hg3⟩ := HO.lt
  obtain ⟨v', w', hr, h2, h3, h4⟩ := append_off (P := P) (W.alloc (.cells #[u] e)) base t o.type e i0 z ht hi hz0 hz1 (by omega) hzs v xs (HO.below hal) ⟨W.heap.size, 0, none⟩ 1 u hu h1 hl (Nat.le_trans hbase hal.size)
  unfold Oper.wp execOp
  simp only [ho, resolve, invoke, builtin, Sem.run_bind, Sem.run_pure, Result.andThen_ok, List.map_toArray, List.map_cons, List.map_nil, hs, hx, hr]
  refine hK _ _ (h v' w' h2 ((HB.trans (hal.mono hbase)).grown h3 (Nat.le_trans hbase hal.size) (fun k hk => by rw [hg1] at hk; injection hk with hk; omega)) h3 ?_)
  rcases h4 with h4 | h4
  · exact .inl h4
  · exact .inr ⟨_, h4, hal.size⟩
end Go.Proofs.Ytgdpeabbmbclbaa.Pr

/- A search that puts letters into two halves finds a way just if there is one. Plain lists, no program. -/
namespace Go.Proofs.Ytgdpeabbmbclbaa.M
set_option linter.unusedVariables false
set_option linter.unusedSimpArgs false

def gtH (h : List Int) (j : Nat) : Int := h.getD j 0
theorem gt_set (h : List Int) (k : Nat) (v : Int) (hk : k < h.length) (j : Nat) : gtH (h.set k v) j = if j = k then v else gtH h j := by
  unfold gtH
  rw [List.getD_eq_getElem?_getD, List.getD_eq_getElem?_getD, List.getElem?_set]
  by_cases e : j = k
  · subst e; simp [hk]
  · rw [if_neg (fun e2 => e e2.symm), if_neg e]
theorem gt_out (h : List Int) (j : Nat) (hj : h.length ≤ j) : gtH h j = 0 := by
  unfold gtH
  rw [List.getD_eq_getElem?_getD, List.getElem?_eq_none hj]
  rfl
theorem count_set0 (h : List Int) (k : Nat) (v : Int) (hk : k < h.length) (h0 : gtH h k = 0) (hv : v ≠ 0) : (h.set k v).count 0 + 1 = h.count 0 := by
  have e : h[k] = 0 := by
    unfold gtH at h0
    rw [List.getD_eq_getElem?_getD, List.getElem?_eq_getElem hk] at h0
    simpa using h0
  have hp : 0 < h.count 0 := List.count_pos_iff.2 (e ▸ List.getElem_mem hk)
  rw [List.count_set hk, e]
  simp [hv]
  omega

section
variable (n : Nat) (E P : Nat → Nat → Bool)
def sgH (i k : Nat) : Int := if P i k = true then -1 else 1
def ValidH (s : Nat → Int) : Prop := (∀ j, s j = 1 ∨ s j = -1) ∧ ∀ a b, a < n → b < n → a ≠ b → E a b = true → s b = s a * sgH P a b
def ConH (h : List Int) (j : Nat) : Prop := ∀ k, k < n → k ≠ j → E j k = true → gtH h k = gtH h j * sgH P j k
def ClosedH (h : List Int) : Prop := ∀ j, j < n → gtH h j ≠ 0 → ConH n E P h j
def PMH (h : List Int) : Prop := ∀ j, gtH h j = 0 ∨ gtH h j = 1 ∨ gtH h j = -1
structure HInv (H0 h : List Int) (ln : List Nat) : Prop where
  len : h.length = n
  pm : PMH h
  old : ∀ j, gtH H0 j ≠ 0 → gtH h j = gtH H0 j
  inl : ∀ i ∈ ln, i < n ∧ gtH h i ≠ 0 ∧ gtH H0 i = 0
  con : ∀ j, j < n → gtH h j ≠ 0 → j ∈ ln ∨ ConH n E P h j
  sgn : ∀ s, ValidH n E P s → ∃ c : Int, (c = 1 ∨ c = -1) ∧ ∀ j, j < n → gtH H0 j = 0 → gtH h j ≠ 0 → gtH h j = c * s j
  room : h.count 0 + ln.length ≤ n
end
theorem sg_pm (P : Nat → Nat → Bool) (i k : Nat) : sgH P i k = 1 ∨ sgH P i k = -1 := by
  unfold sgH
  split <;> simp
theorem pm_mul {a b : Int} (ha : a = 1 ∨ a = -1) (hb : b = 1 ∨ b = -1) : a * b = 1 ∨ a * b = -1 := by
  rcases ha with rfl | rfl <;> rcases hb with rfl | rfl <;> simp

theorem con_set {n : Nat} {E P : Nat → Nat → Bool} {h : List Int} {k : Nat} {v : Int} (hk : k < h.length) (h0 : gtH h k = 0) {j : Nat} (hj : gtH h j ≠ 0) (hc : ConH n E P h j) (hkn : k < n) : ConH n E P (h.set k v) j := by
  intro q hq hqj he
  have e := hc q hq hqj he
  have hjk : j ≠ k := fun e2 => hj (e2 ▸ h0)
  have hsp := sg_pm P j q
  have hne : gtH h q ≠ 0 := by
    rw [e]
    rcases hsp with h | h <;> rw [h] <;> omega
  have hqk : q ≠ k := fun e2 => hne (e2 ▸ h0)
  rw [gt_set h k v hk, gt_set h k v hk, if_neg hqk, if_neg hjk]
  exact e

section
variable {n : Nat} {E P : Nat → Nat → Bool}
variable {RS : Nat → Nat → Nat → List Int → List Nat → Bool → Prop} {RB : Nat → List Int → List Nat → Bool → Prop} {RO : Nat → List Int → Bool → Prop}

theorem scan_ok (symE : ∀ a b, a < n → b < n → E a b = E b a) (symP : ∀ a b, a < n → b < n → P a b = P b a)
    (s_end : ∀ f i h rest r, h.length = n → RB f h rest r → RS f i n h (i :: rest) r)
    (s_skip : ∀ f i k h ln r, i < n → k < n → h.length = n → PMH h → (k = i ∨ E i k = false) → RS f i (k + 1) h ln r → RS f i k h ln r)
    (s_new : ∀ f i k h ln r, i < n → k < n → h.length = n → PMH h → ln.length ≤ n → k ≠ i → E i k = true → gtH h k = 0 → RS f i (k + 1) (h.set k (gtH h i * sgH P i k)) (ln ++ [k]) r → RS f i k h ln r)
    (s_bad : ∀ f i k h ln, i < n → k < n → h.length = n → PMH h → k ≠ i → E i k = true → gtH h k ≠ 0 → gtH h k = -(gtH h i * sgH P i k) → RS f i k h ln false)
    (s_fit : ∀ f i k h ln r, i < n → k < n → h.length = n → PMH h → k ≠ i → E i k = true → gtH h k ≠ 0 → gtH h k ≠ -(gtH h i * sgH P i k) → RS f i (k + 1) h ln r → RS f i k h ln r)
    (f i : Nat) (H0 : List Int) (hcl : ClosedH n E P H0) :
    ∀ (d k : Nat) (h : List Int) (rest : List Nat), k + d = n → HInv n E P H0 h (i :: rest) → (∀ q, q < k → q ≠ i → E i q = true → gtH h q = gtH h i * sgH P i q) →
      (∃ h' rest', HInv n E P H0 h' (i :: rest') ∧ ConH n E P h' i ∧ h'.count 0 + rest'.length = h.count 0 + rest.length ∧ (∀ j, gtH h j ≠ 0 → gtH h' j = gtH h j) ∧ ∀ r, RB f h' rest' r → RS f i k h (i :: rest) r)
      ∨ ((¬ ∃ s, ValidH n E P s) ∧ RS f i k h (i :: rest) false)
  | 0, k, h, rest, hk, hi, hd => by
    obtain rfl : k = n := by omega
    exact .inl ⟨h, rest, hi, fun q hq h1 h2 => hd q hq h1 h2, rfl, fun _ _ => rfl, fun r hr => s_end f i h rest r hi.len hr⟩
  | d + 1, k, h, rest, hk, hi, hd => by
    have hin := hi.inl i (List.mem_cons_self ..)
    have hkn : k < n := by omega
    by_cases hs : k = i ∨ E i k = false
    · rcases scan_ok symE symP s_end s_skip s_new s_bad s_fit f i H0 hcl d (k + 1) h rest (by omega) hi (fun q hq h1 h2 => by
        by_cases e : q = k
        · subst e
          rcases hs with hs | hs
          · exact absurd hs h1
          · rw [hs] at h2; cases h2
        · exact hd q (by omega) h1 h2) with ⟨h', rest', a1, a2, a3, a4, a5⟩ | ⟨a1, a2⟩
      · exact .inl ⟨h', rest', a1, a2, a3, a4, fun r hr => s_skip f i k h _ r hin.1 hkn hi.len hi.pm hs (a5 r hr)⟩
      · exact .inr ⟨a1, s_skip f i k h _ _ hin.1 hkn hi.len hi.pm hs a2⟩
    · have hki : k ≠ i := fun e => hs (.inl e)
      have hE : E i k = true := by
        cases he : E i k with
        | true => rfl
        | false => exact absurd (.inr he) hs
      have hgi : gtH h i = 1 ∨ gtH h i = -1 := by
        rcases hi.pm i with e | e
        · exact absurd e hin.2.1
        · exact e
      have hdue := pm_mul hgi (sg_pm P i k)
      have hlen : k < h.length := by rw [hi.len]; exact hkn
      by_cases h0 : gtH h k = 0
      · have hH0k : gtH H0 k = 0 := by
          by_cases e : gtH H0 k = 0
          · exact e
          · exact absurd (hi.old k e ▸ h0) e
        have hdn : gtH h i * sgH P i k ≠ 0 := by rcases hdue with e | e <;> omega
        have hgs := gt_set h k (gtH h i * sgH P i k) hlen
        have hcs := count_set0 h k (gtH h i * sgH P i k) hlen h0 hdn
        have hik : i ≠ k := fun e => hki e.symm
        have hinv : HInv n E P H0 (h.set k (gtH h i * sgH P i k)) (i :: (rest ++ [k])) := {
          len := by rw [List.length_set]; exact hi.len
          pm := fun j => by
            rw [hgs]
            by_cases e : j = k
            · rw [if_pos e]; exact .inr hdue
            · rw [if_neg e]; exact hi.pm j
          old := fun j hj => by
            rw [hgs, if_neg (fun e : j = k => hj (e ▸ hH0k))]
            exact hi.old j hj
          inl := fun j hj => by
            rw [hgs]
            by_cases e : j = k
            · subst e; rw [if_pos rfl]; exact ⟨hkn, hdn, hH0k⟩
            · rw [if_neg e]
              refine hi.inl j ?_
              simp only [List.mem_cons, List.mem_append, List.not_mem_nil, or_false] at hj ⊢
              rcases hj with h | h | h
              · exact .inl h
              · exact .inr h
              · exact absurd h e
          con := fun j hj hne => by
            rw [hgs] at hne
            by_cases e : j = k
            · subst e; exact .inl (by simp)
            · rw [if_neg e] at hne
              rcases hi.con j hj hne with h | h
              · exact .inl (by simp only [List.mem_cons, List.mem_append] at h ⊢; rcases h with h | h; (· exact .inl h); exact .inr (.inl h))
              · exact .inr (con_set hlen h0 hne h hkn)
          sgn := fun s hsv => by
            obtain ⟨c, hc, hcz⟩ := hi.sgn s hsv
            refine ⟨c, hc, fun j hj hj0 hne => ?_⟩
            rw [hgs] at hne ⊢
            by_cases e : j = k
            · subst e
              rw [if_pos rfl, hcz i hin.1 hin.2.2 hin.2.1, hsv.2 i j hin.1 hj hik hE, Int.mul_assoc]
            · rw [if_neg e] at hne ⊢
              exact hcz j hj hj0 hne
          room := by have := hi.room; simp at this ⊢; omega }
        have hd' : ∀ q, q < k + 1 → q ≠ i → E i q = true → gtH (h.set k (gtH h i * sgH P i k)) q = gtH (h.set k (gtH h i * sgH P i k)) i * sgH P i q := fun q hq h1 h2 => by
          rw [hgs, hgs, if_neg hik]
          by_cases e : q = k
          · subst e; rw [if_pos rfl]
          · rw [if_neg e]; exact hd q (by omega) h1 h2
        have hlr : (i :: rest).length ≤ n := by have := hi.room; omega
        rcases scan_ok symE symP s_end s_skip s_new s_bad s_fit f i H0 hcl d (k + 1) _ (rest ++ [k]) (by omega) hinv hd' with ⟨h', rest', a1, a2, a3, a4, a5⟩ | ⟨a1, a2⟩
        · refine .inl ⟨h', rest', a1, a2, by simp at a3; omega, fun j hj => ?_, fun r hr => s_new f i k h (i :: rest) r hin.1 hkn hi.len hi.pm hlr hki hE h0 (a5 r hr)⟩
          have hjk : j ≠ k := fun e => hj (e ▸ h0)
          have := a4 j (by rw [hgs, if_neg hjk]; exact hj)
          rw [this, hgs, if_neg hjk]
        · exact .inr ⟨a1, s_new f i k h (i :: rest) _ hin.1 hkn hi.len hi.pm hlr hki hE h0 a2⟩
      · by_cases hb : gtH h k = -(gtH h i * sgH P i k)
        · refine .inr ⟨?_, s_bad f i k h _ hin.1 hkn hi.len hi.pm hki hE h0 hb⟩
          rintro ⟨s, hs⟩
          obtain ⟨c, hc, hcs⟩ := hi.sgn s hs
          by_cases hH : gtH H0 k = 0
          · have e1 := hcs k hkn hH h0
            have e2 := hcs i hin.1 hin.2.2 hin.2.1
            have e3 := hs.2 i k hin.1 hkn (fun e => hki e.symm) hE
            have e4 : gtH h k = gtH h i * sgH P i k := by rw [e1, e2, e3, Int.mul_assoc]
            omega
          · have e1 := hcl k hkn hH i hin.1 (fun e => hki e.symm) ((symE k i hkn hin.1).trans hE)
            rw [hin.2.2] at e1
            rcases sg_pm P k i with e | e <;> rw [e] at e1 <;> omega
        · rcases scan_ok symE symP s_end s_skip s_new s_bad s_fit f i H0 hcl d (k + 1) h rest (by omega) hi (fun q hq h1 h2 => by
            by_cases e : q = k
            · subst e
              have hgq : gtH h q = 1 ∨ gtH h q = -1 := by
                rcases hi.pm q with e | e
                · exact absurd e h0
                · exact e
              rcases hgq with e1 | e1 <;> rcases hdue with e2 | e2 <;> omega
            · exact hd q (by omega) h1 h2) with ⟨h', rest', a1, a2, a3, a4, a5⟩ | ⟨a1, a2⟩
          · exact .inl ⟨h', rest', a1, a2, a3, a4, fun r hr => s_fit f i k h _ r hin.1 hkn hi.len hi.pm hki hE h0 hb (a5 r hr)⟩
          · exact .inr ⟨a1, s_fit f i k h _ _ hin.1 hkn hi.len hi.pm hki hE h0 hb a2⟩

theorem bfs_ok (symE : ∀ a b, a < n → b < n → E a b = E b a) (symP : ∀ a b, a < n → b < n → P a b = P b a)
    (b_go : ∀ f h i ln r, i < n → h.length = n → (i :: ln).length ≤ n → RS f i 0 h (i :: ln) r → RB f h (i :: ln) r)
    (s_end : ∀ f i h rest r, h.length = n → RB f h rest r → RS f i n h (i :: rest) r)
    (s_skip : ∀ f i k h ln r, i < n → k < n → h.length = n → PMH h → (k = i ∨ E i k = false) → RS f i (k + 1) h ln r → RS f i k h ln r)
    (s_new : ∀ f i k h ln r, i < n → k < n → h.length = n → PMH h → ln.length ≤ n → k ≠ i → E i k = true → gtH h k = 0 → RS f i (k + 1) (h.set k (gtH h i * sgH P i k)) (ln ++ [k]) r → RS f i k h ln r)
    (s_bad : ∀ f i k h ln, i < n → k < n → h.length = n → PMH h → k ≠ i → E i k = true → gtH h k ≠ 0 → gtH h k = -(gtH h i * sgH P i k) → RS f i k h ln false)
    (s_fit : ∀ f i k h ln r, i < n → k < n → h.length = n → PMH h → k ≠ i → E i k = true → gtH h k ≠ 0 → gtH h k ≠ -(gtH h i * sgH P i k) → RS f i (k + 1) h ln r → RS f i k h ln r)
    (f : Nat) (H0 : List Int) (hcl : ClosedH n E P H0) :
    ∀ (z : Nat) (h : List Int) (ln : List Nat), h.count 0 + ln.length = z → HInv n E P H0 h ln →
      (∃ h', HInv n E P H0 h' [] ∧ (∀ j, gtH h j ≠ 0 → gtH h' j = gtH h j) ∧ ∀ r, RB f h' [] r → RB f h ln r)
      ∨ ((¬ ∃ s, ValidH n E P s) ∧ RB f h ln false) := by
  intro z
  induction z with
  | zero =>
    intro h ln hz hi
    cases ln with
    | nil => exact .inl ⟨h, hi, fun _ _ => rfl, fun r hr => hr⟩
    | cons i rest => simp at hz
  | succ z ih =>
    intro h ln hz hi
    cases ln with
    | nil => exact .inl ⟨h, hi, fun _ _ => rfl, fun r hr => hr⟩
    | cons i rest =>
      have hin := hi.inl i (List.mem_cons_self ..)
      have hlr : (i :: rest).length ≤ n := by have := hi.room; omega
      rcases scan_ok symE symP s_end s_skip s_new s_bad s_fit f i H0 hcl n 0 h rest (by omega) hi (fun q hq => by omega) with ⟨h', rest', a1, a2, a3, a4, a5⟩ | ⟨a1, a2⟩
      · have hinv : HInv n E P H0 h' rest' := { a1 with
          inl := fun j hj => a1.inl j (List.mem_cons_of_mem _ hj)
          con := fun j hj hne => by
            rcases a1.con j hj hne with h | h
            · rcases List.mem_cons.1 h with e | h
              · subst e; exact .inr a2
              · exact .inl h
            · exact .inr h
          room := by have := a1.room; simp at this; omega }
        rcases ih h' rest' (by simp at hz; omega) hinv with ⟨h2, b1, b2, b3⟩ | ⟨b1, b2⟩
        · exact .inl ⟨h2, b1, fun j hj => by rw [← a4 j hj]; exact b2 j (by rw [a4 j hj]; exact hj), fun r hr => b_go f h i rest r hin.1 hi.len hlr (a5 r (b3 r hr))⟩
        · exact .inr ⟨b1, b_go f h i rest _ hin.1 hi.len hlr (a5 _ b2)⟩
      · exact .inr ⟨a1, b_go f h i rest _ hin.1 hi.len hlr a2⟩

theorem halves_ok (symE : ∀ a b, a < n → b < n → E a b = E b a) (symP : ∀ a b, a < n → b < n → P a b = P b a)
    (o_end : ∀ h, h.length = n → RO n h true)
    (o_skip : ∀ f h r, f < n → h.length = n → gtH h f ≠ 0 → RO (f + 1) h r → RO f h r)
    (o_go : ∀ f h r, f < n → h.length = n → gtH h f = 0 → RB f (h.set f 1) [f] r → RO f h r)
    (b_end : ∀ f h r, f < n → h.length = n → RO (f + 1) h r → RB f h [] r)
    (b_go : ∀ f h i ln r, i < n → h.length = n → (i :: ln).length ≤ n → RS f i 0 h (i :: ln) r → RB f h (i :: ln) r)
    (s_end : ∀ f i h rest r, h.length = n → RB f h rest r → RS f i n h (i :: rest) r)
    (s_skip : ∀ f i k h ln r, i < n → k < n → h.length = n → PMH h → (k = i ∨ E i k = false) → RS f i (k + 1) h ln r → RS f i k h ln r)
    (s_new : ∀ f i k h ln r, i < n → k < n → h.length = n → PMH h → ln.length ≤ n → k ≠ i → E i k = true → gtH h k = 0 → RS f i (k + 1) (h.set k (gtH h i * sgH P i k)) (ln ++ [k]) r → RS f i k h ln r)
    (s_bad : ∀ f i k h ln, i < n → k < n → h.length = n → PMH h → k ≠ i → E i k = true → gtH h k ≠ 0 → gtH h k = -(gtH h i * sgH P i k) → RS f i k h ln false)
    (s_fit : ∀ f i k h ln r, i < n → k < n → h.length = n → PMH h → k ≠ i → E i k = true → gtH h k ≠ 0 → gtH h k ≠ -(gtH h i * sgH P i k) → RS f i (k + 1) h ln r → RS f i k h ln r) :
    ∀ (d f : Nat) (h : List Int), f + d = n → h.length = n → PMH h → ClosedH n E P h → (∀ j, j < f → gtH h j ≠ 0) →
      ∃ b : Bool, RO f h b ∧ (b = true ↔ ∃ s, ValidH n E P s)
  | 0, f, h, hf, hl, hp, hcl, hd => by
    obtain rfl : f = n := by omega
    refine ⟨true, o_end h hl, fun _ => ⟨fun j => if gtH h j = -1 then -1 else 1, fun j => by dsimp only; split <;> simp, fun a b ha hb hab he => ?_⟩, fun _ => rfl⟩
    have e := hcl a ha (hd a ha) b hb (fun e => hab e.symm) he
    have v : ∀ j, j < f → (if gtH h j = -1 then (-1 : Int) else 1) = gtH h j := fun j hj => by
      rcases hp j with e | e | e
      · exact absurd e (hd j hj)
      · rw [e]; simp
      · rw [e]; simp
    dsimp only
    rw [v a ha, v b hb]
    exact e
  | d + 1, f, h, hf, hl, hp, hcl, hd => by
    have hfn : f < n := by omega
    by_cases h0 : gtH h f = 0
    · have hlen : f < h.length := by omega
      have hgs := gt_set h f 1 hlen
      have hcs := count_set0 h f 1 hlen h0 (by omega)
      have hcl0 : h.count 0 ≤ n := by rw [← hl]; exact List.count_le_length
      have hinv : HInv n E P h (h.set f 1) [f] := {
        len := by rw [List.length_set]; exact hl
        pm := fun j => by
          rw [hgs]
          split
          · exact .inr (.inl rfl)
          · exact hp j
        old := fun j hj => by rw [hgs, if_neg (fun e : j = f => hj (e ▸ h0))]
        inl := fun j hj => by
          obtain rfl : j = f := by simpa using hj
          exact ⟨hfn, by rw [hgs, if_pos rfl]; omega, h0⟩
        con := fun j hj hne => by
          rw [hgs] at hne
          by_cases e : j = f
          · exact .inl (by simp [e])
          · rw [if_neg e] at hne
            exact .inr (con_set hlen h0 hne (hcl j hj hne) hfn)
        sgn := fun s hs => by
          refine ⟨s f, hs.1 f, fun j hj hj0 hne => ?_⟩
          rw [hgs] at hne ⊢
          by_cases e : j = f
          · subst e
            rw [if_pos rfl]
            rcases hs.1 j with e | e <;> rw [e] <;> rfl
          · rw [if_neg e] at hne
            exact absurd hj0 hne
        room := by simp; omega }
      rcases bfs_ok symE symP b_go s_end s_skip s_new s_bad s_fit f h hcl _ _ _ rfl hinv with ⟨h', b1, b2, b3⟩ | ⟨b1, b2⟩
      · have hcl' : ClosedH n E P h' := fun j hj hne => by
          rcases b1.con j hj hne with h | h
          · simp at h
          · exact h
        obtain ⟨b, hb, hiff⟩ := halves_ok symE symP o_end o_skip o_go b_end b_go s_end s_skip s_new s_bad s_fit d (f + 1) h' (by omega) b1.len b1.pm hcl' (fun j hj => by
          by_cases e : j = f
          · subst e
            rw [b2 j (by rw [hgs, if_pos rfl]; omega), hgs, if_pos rfl]
            omega
          · have hj0 := hd j (by omega)
            rw [b2 j (by rw [hgs, if_neg e]; exact hj0), hgs, if_neg e]
            exact hj0)
        exact ⟨b, o_go f h b hfn hl h0 (b3 b (b_end f h' b hfn b1.len hb)), hiff⟩
      · exact ⟨false, o_go f h false hfn hl h0 b2, by simp; exact fun s hs => b1 ⟨s, hs⟩⟩
    · obtain ⟨b, hb, hiff⟩ := halves_ok symE symP o_end o_skip o_go b_end b_go s_end s_skip s_new s_bad s_fit d (f + 1) h (by omega) hl hp hcl (fun j hj => by
        by_cases e : j = f
        · subst e; exact h0
        · exact hd j (by omega))
      exact ⟨b, o_skip f h b hfn hl h0 hb, hiff⟩
end
end Go.Proofs.Ytgdpeabbmbclbaa.M

/- Steps for functions with a number of rounds: what holds from some number of rounds on. -/
namespace Go.Proofs.Ytgdpeabbmbclbaa.M
open Go.RowKit Go.Proofs.YtgdpeabbmbclbaaW.PrintWords
set_option linter.unusedVariables false
set_option linter.unusedSimpArgs false

theorem w64 {x : Int} (h0 : -9223372036854775808 ≤ x) (h1 : x ≤ 9223372036854775807) : wrap64 x = x := by
  unfold wrap64
  omega

theorem Ev.pos {α : Type} {c : Prop} [Decidable c] {A B : Nat → Option α} {r : α} (h : c) (e : Ev A r) : Ev (fun k => if c then A k else B k) r := by
  simp only [h, if_true]
  exact e
theorem Ev.neg {α : Type} {c : Prop} [Decidable c] {A B : Nat → Option α} {r : α} (h : ¬ c) (e : Ev B r) : Ev (fun k => if c then A k else B k) r := by
  simp only [h, if_false]
  exact e
theorem Ev.bindc {α β : Type} {o : Option α} {f : Nat → α → Option β} {a : α} {r : β} (h : o = some a) (e : Ev (fun k => f k a) r) : Ev (fun k => o.bind (f k)) r := by
  subst h
  exact e
theorem Ev.bindk {α β : Type} {g : Nat → Option α} {f : Nat → α → Option β} {a : α} {r : β} (h : Ev g a) (e : Ev (fun k => f k a) r) : Ev (fun k => (g k).bind (f k)) r := Ev.bind h e
theorem Ev.val {α : Type} {r r' : α} (h : r = r') : Ev (fun _ => some r) r' := by
  subst h
  exact Ev.now r
/-- Two values of one thing are one. -/
theorem Ev.uniq {α : Type} {g : Nat → Option α} {r r' : α} (h : Ev g r) (h' : Ev g r') : r = r' := by
  obtain ⟨K, h⟩ := h
  obtain ⟨K', h'⟩ := h'
  have e := (h (max K K') (Nat.le_max_left _ _)).symm.trans (h' (max K K') (Nat.le_max_right _ _))
  exact Option.some.inj e

/-- A loop over a list by its index: what is left of the list decides the answer R; P is kept. -/
theorem Ev.scan {α β γ : Type} (L : Nat → Int → β → Option γ) (xs : List α) (R : List α → β → γ) (P : Nat → β → Prop)
    (h0 : ∀ acc, P xs.length acc → Ev (fun k => L k (xs.length : Int) acc) (R [] acc))
    (h1 : ∀ (i : Nat) (h : i < xs.length) (acc : β), P i acc → (∃ acc', P (i + 1) acc' ∧ R (xs[i] :: xs.drop (i + 1)) acc = R (xs.drop (i + 1)) acc' ∧ ∀ r, Ev (fun k => L k ((i : Int) + 1) acc') r → Ev (fun k => L k (i : Int) acc) r)
      ∨ Ev (fun k => L k (i : Int) acc) (R (xs[i] :: xs.drop (i + 1)) acc)) :
    ∀ (d i : Nat) (acc : β), i + d = xs.length → P i acc → Ev (fun k => L k (i : Int) acc) (R (xs.drop i) acc) := by
  intro d
  induction d with
  | zero =>
    intro i acc hi hp
    obtain rfl : i = xs.length := by omega
    rw [List.drop_length]
    exact h0 acc hp
  | succ d ih =>
    intro i acc hi hp
    have hlt : i < xs.length := by omega
    rw [List.drop_eq_getElem_cons hlt]
    rcases h1 i hlt acc hp with ⟨acc', hp', hR, hk⟩ | h
    · rw [hR]
      refine hk _ ?_
      have e := ih (i + 1) acc' (by omega) hp'
      rw [show (((i + 1 : Nat)) : Int) = (i : Int) + 1 from by omega] at e
      exact e
    · exact h
theorem Ev.scan0 {α β γ : Type} (L : Nat → Int → β → Option γ) (xs : List α) (R : List α → β → γ) (P : Nat → β → Prop)
    (h0 : ∀ acc, P xs.length acc → Ev (fun k => L k (xs.length : Int) acc) (R [] acc))
    (h1 : ∀ (i : Nat) (h : i < xs.length) (acc : β), P i acc → (∃ acc', P (i + 1) acc' ∧ R (xs[i] :: xs.drop (i + 1)) acc = R (xs.drop (i + 1)) acc' ∧ ∀ r, Ev (fun k => L k ((i : Int) + 1) acc') r → Ev (fun k => L k (i : Int) acc) r)
      ∨ Ev (fun k => L k (i : Int) acc) (R (xs[i] :: xs.drop (i + 1)) acc)) (acc : β) (hp : P 0 acc) : Ev (fun k => L k 0 acc) (R xs acc) := by
  have e := Ev.scan L xs R P h0 h1 xs.length 0 acc (by omega) hp
  simpa using e

/-- Counting up from i to n. -/
theorem Ev.upto {β γ : Type} (L : Nat → Int → β → Option γ) (n : Int) (R : Int → β → γ) (P : Int → β → Prop)
    (h0 : ∀ i acc, n ≤ i → P i acc → Ev (fun k => L k i acc) (R i acc))
    (h1 : ∀ i acc, i < n → P i acc → (∃ acc', P (i + 1) acc' ∧ R i acc = R (i + 1) acc' ∧ ∀ r, Ev (fun k => L k (i + 1) acc') r → Ev (fun k => L k i acc) r) ∨ Ev (fun k => L k i acc) (R i acc)) :
    ∀ (d : Nat) (i : Int) (acc : β), n ≤ i + d → P i acc → Ev (fun k => L k i acc) (R i acc) := by
  intro d
  induction d with
  | zero => intro i acc hi hp; exact h0 i acc (by omega) hp
  | succ d ih =>
    intro i acc hi hp
    by_cases hlt : i < n
    · rcases h1 i acc hlt hp with ⟨acc', hp', hR, hk⟩ | h
      · rw [hR]
        exact hk _ (ih (i + 1) acc' (by omega) hp')
      · exact h
    · exact h0 i acc (by omega) hp
end Go.Proofs.Ytgdpeabbmbclbaa.M

/- The search for two halves as the program makes it, with a bound on its rounds. Plain lists, no program. -/
namespace Go.Proofs.Ytgdpeabbmbclbaa.M
open Go.RowKit Go.Proofs.YtgdpeabbmbclbaaW.PrintWords
set_option linter.unusedVariables false
set_option linter.unusedSimpArgs false

section
variable (n : Nat) (E P : Nat → Nat → Bool)
def dueW (h : List Int) (i k : Nat) : Int := if P i k = true then wrap64 (-(gtH h i)) else gtH h i
def scanW (i : Nat) : Nat → Nat → List Int → List Nat → Option (List Int × List Nat)
  | 0, _, h, ln => some (h, ln)
  | d + 1, k, h, ln => if k = i ∨ E i k = false then scanW i d (k + 1) h ln
      else if gtH h k = 0 then scanW i d (k + 1) (h.set k (dueW P h i k)) (ln ++ [k])
      else if gtH h k = wrap64 (-(dueW P h i k)) then none
      else scanW i d (k + 1) h ln
def bfsW : Nat → List Int → List Nat → Option (Option (List Int))
  | _, h, [] => some (some h)
  | 0, _, _ :: _ => none
  | z + 1, h, i :: rest => if 100 < rest.length then none else match scanW E P i n 0 h (i :: rest) with
    | none => some none
    | some p => bfsW z p.1 p.2.tail
def outW (y : Nat) : Nat → Nat → List Int → Option Bool
  | 0, _, _ => some true
  | d + 1, f, h => if gtH h f ≠ 0 then outW y d (f + 1) h else match bfsW n E P y (h.set f 1) [f] with
    | none => none
    | some none => some false
    | some (some h') => outW y d (f + 1) h'
def aftW (y f : Nat) : Option (Option (List Int)) → Option Bool
  | none => none
  | some none => some false
  | some (some h) => outW n E P y (n - (f + 1)) (f + 1) h
def RBw (f : Nat) (h : List Int) (ln : List Nat) (r : Bool) : Prop := ∃ Z, ∀ z y, Z ≤ z → Z ≤ y → aftW n E P y f (bfsW n E P z h ln) = some r
def ROw (f : Nat) (h : List Int) (r : Bool) : Prop := ∃ Z, ∀ y, Z ≤ y → outW n E P y (n - f) f h = some r
def scB (z : Nat) : Option (List Int × List Nat) → Option (Option (List Int))
  | none => some none
  | some p => bfsW n E P z p.1 p.2.tail
def RSw (f i k : Nat) (h : List Int) (ln : List Nat) (r : Bool) : Prop := ∃ Z, ∀ z y, Z ≤ z → Z ≤ y → aftW n E P y f (scB n E P z (scanW E P i (n - k) k h ln)) = some r
end
theorem bfsW_nil (n : Nat) (E P : Nat → Nat → Bool) (z : Nat) (h : List Int) : bfsW n E P z h [] = some (some h) := by cases z <;> rfl
theorem bfsW_cons (n : Nat) (E P : Nat → Nat → Bool) (z : Nat) (h : List Int) (i : Nat) (rest : List Nat) (hr : rest.length ≤ 100) : bfsW n E P (z + 1) h (i :: rest) = scB n E P z (scanW E P i n 0 h (i :: rest)) := by
  rw [bfsW, if_neg (by omega)]
  cases scanW E P i n 0 h (i :: rest) <;> rfl
theorem due_eq {P : Nat → Nat → Bool} {h : List Int} (hp : PMH h) (i k : Nat) : dueW P h i k = gtH h i * sgH P i k ∧ wrap64 (-(dueW P h i k)) = -(gtH h i * sgH P i k) := by
  unfold dueW sgH
  have w1 : wrap64 (-(1 : Int)) = -1 := by unfold wrap64; omega
  have w2 : wrap64 (-(-1 : Int)) = 1 := by unfold wrap64; omega
  have w0 : wrap64 (-(0 : Int)) = 0 := by unfold wrap64; omega
  rcases hp i with e | e | e <;> rw [e] <;> cases P i k <;> simp [w1, show wrap64 (0 : Int) = 0 by unfold wrap64; omega, show wrap64 (1 : Int) = 1 by unfold wrap64; omega]
/-- The search finds a way just if there is one. -/
theorem search_ok {n : Nat} {E P : Nat → Nat → Bool} (hn : n ≤ 100) (symE : ∀ a b, a < n → b < n → E a b = E b a) (symP : ∀ a b, a < n → b < n → P a b = P b a) :
    ∃ b : Bool, ROw n E P 0 (List.replicate n 0) b ∧ (b = true ↔ ∃ s, ValidH n E P s) := by
  have hz : ∀ j, gtH (List.replicate n 0) j = 0 := fun j => by
    unfold gtH
    rw [List.getD_eq_getElem?_getD, List.getElem?_replicate]
    split <;> rfl
  refine halves_ok (RS := RSw n E P) (RB := RBw n E P) (RO := ROw n E P) symE symP ?_ ?_ ?_ ?_ ?_ ?_ ?_ ?_ ?_ ?_ n 0 (List.replicate n 0) (by omega) (by simp) (fun j => .inl (hz j)) (fun j _ h => absurd (hz j) h) (fun j hj => by omega)
  · intro h _
    exact ⟨0, fun y _ => by rw [Nat.sub_self]; rfl⟩
  · rintro f h r hf hl h0 ⟨Z, hZ⟩
    refine ⟨Z, fun y hy => ?_⟩
    rw [show n - f = (n - (f + 1)) + 1 by omega, outW, if_pos h0]
    exact hZ y hy
  · rintro f h r hf hl h0 ⟨Z, hZ⟩
    refine ⟨Z, fun y hy => ?_⟩
    rw [show n - f = (n - (f + 1)) + 1 by omega, outW, if_neg (by simpa using h0)]
    have := hZ y y hy hy
    cases hb : bfsW n E P y (h.set f 1) [f] with
    | none => rw [hb] at this; exact this
    | some o => cases o with
      | none => rw [hb] at this; exact this
      | some h' => rw [hb] at this; exact this
  · rintro f h r hf hl ⟨Z, hZ⟩
    refine ⟨Z, fun z y hz hy => ?_⟩
    rw [bfsW_nil]
    exact hZ y hy
  · rintro f h i ln r hi hl hlen ⟨Z, hZ⟩
    refine ⟨Z + 1, fun z y hz hy => ?_⟩
    obtain ⟨z, rfl⟩ : ∃ z', z = z' + 1 := ⟨z - 1, by omega⟩
    rw [bfsW_cons n E P z h i ln (by simp at hlen; omega)]
    exact hZ z y (by omega) (by omega)
  · rintro f i h rest r hl ⟨Z, hZ⟩
    refine ⟨Z, fun z y hz hy => ?_⟩
    rw [Nat.sub_self, scanW]
    exact hZ z y hz hy
  · rintro f i k h ln r hi hk hl hp hs ⟨Z, hZ⟩
    refine ⟨Z, fun z y hz hy => ?_⟩
    rw [show n - k = (n - (k + 1)) + 1 by omega, scanW, if_pos hs]
    exact hZ z y hz hy
  · rintro f i k h ln r hi hk hl hp hlen hki hE h0 ⟨Z, hZ⟩
    refine ⟨Z, fun z y hz hy => ?_⟩
    rw [show n - k = (n - (k + 1)) + 1 by omega, scanW, if_neg (by rintro (e | e); (· exact hki e); rw [hE] at e; cases e), if_pos h0, (due_eq hp i k).1]
    exact hZ z y hz hy
  · rintro f i k h ln hi hk hl hp hki hE h0 hb
    refine ⟨0, fun z y hz hy => ?_⟩
    rw [show n - k = (n - (k + 1)) + 1 by omega, scanW, if_neg (by rintro (e | e); (· exact hki e); rw [hE] at e; cases e), if_neg h0, (due_eq hp i k).2, if_pos hb]
    rfl
  · rintro f i k h ln r hi hk hl hp hki hE h0 hb ⟨Z, hZ⟩
    refine ⟨Z, fun z y hz hy => ?_⟩
    rw [show n - k = (n - (k + 1)) + 1 by omega, scanW, if_neg (by rintro (e | e); (· exact hki e); rw [hE] at e; cases e), if_neg h0, (due_eq hp i k).2, if_neg hb]
    exact hZ z y hz hy
end Go.Proofs.Ytgdpeabbmbclbaa.M

/- What the program's haveHalves computes: a search for two halves. -/
namespace Go.Proofs.Ytgdpeabbmbclbaa.Pr
open Go.RowKit Go.Proofs.YtgdpeabbmbclbaaW.PrintWords Go.Proofs.YtgdpeabbmbclbaaW.PrintLast Go.Proofs.YtgdpeabbmbclbaaW.PrintMore
set_option linter.unusedVariables false
set_option linter.unusedSimpArgs false

def hvE (w : ByteArray) (i k : Nat) : Bool := (impl_interlaced.f w (97 + (i : Int)) (97 + (k : Int))).getD false
def hvP (w : ByteArray) (i k : Nat) : Bool := Int.tmod ((impl_common.f w (97 + (i : Int)) (97 + (k : Int))).getD 0) 2 == 0
def okAll (w : ByteArray) : Bool := decide (w.size ≤ 16) && ((M.abcL (w.size / 2)).all fun c => okWith w c)
theorem okAll_at {w : ByteArray} (h : okAll w = true) : w.size ≤ 16 ∧ ∀ c ∈ M.abcL (w.size / 2), okWith w c = true := by
  unfold okAll at h
  simpa only [Bool.and_eq_true, decide_eq_true_eq, List.all_eq_true] using h
def impl_haveHalves.f (k : Nat) (a0 : ByteArray) : Option (Bool) :=
  if okAll a0 = true then M.outW (a0.size / 2) (hvE a0) (hvP a0) k (a0.size / 2) 0 (List.replicate (a0.size / 2) 0) else none

def intV (h : List Int) : List Value := h.map fun x => .int .i64 x
def natV (l : List Nat) : List Value := l.map fun (n : Nat) => .int .i64 (n : Int)
/-- Where the search's row of halves and its first iterator stand. -/
structure HavW (base gh ko : Nat) (s : ByteArray) (W0 W : World) (p : Nat) (h : List Int) : Prop where
  below : Below base W0 W
  lo : base ≤ gh
  ord : gh < ko
  sz : ko < W.heap.size
  half : W.heap[gh]? = some (.cells (intV h).toArray 3 (0, 0))
  out : W.heap[ko]? = some (.stringIter s p)
structure LineW (ko ki : Nat) (s : ByteArray) (W : World) (p : Nat) (v : Value) (l : List Nat) : Prop where
  own : OwnO W (ko + 1) 3 v (natV l)
  it : W.heap[ki]? = some (.stringIter s p)
  ne : v.ownBlock ≠ some ki
  hi : ko < ki
theorem HavW.same {base gh ko : Nat} {s : ByteArray} {W0 W W' : World} {p : Nat} {h : List Int} (H : HavW base gh ko s W0 W p h) (hb : Below base W0 W') (hs : W.heap.size ≤ W'.heap.size) (hg : W'.heap[gh]? = W.heap[gh]?) (ho : W'.heap[ko]? = W.heap[ko]?) : HavW base gh ko s W0 W' p h :=
  ⟨hb, H.lo, H.ord, Nat.lt_of_lt_of_le H.sz hs, hg.trans H.half, ho.trans H.out⟩
theorem HavW.base_le {base gh ko : Nat} {s : ByteArray} {W0 W : World} {p : Nat} {h : List Int} (H : HavW base gh ko s W0 W p h) : base ≤ W.heap.size := by
  have := H.lo; have := H.ord; have := H.sz; omega
theorem HavW.go {base gh ko : Nat} {s : ByteArray} {W0 W W' : World} {p : Nat} {h : List Int} (H : HavW base gh ko s W0 W p h) (hb : Below W.heap.size W W') : HavW base gh ko s W0 W' p h :=
  H.same (H.below.trans (hb.mono H.base_le)) hb.size (hb.block gh (by have := H.ord; have := H.sz; omega)) (hb.block ko H.sz)
theorem HavW.cell {base gh ko : Nat} {s : ByteArray} {W0 W : World} {p : Nat} {h : List Int} (H : HavW base gh ko s W0 W p h) (i : Nat) (hi : i < h.length) : W.cell? ⟨gh, i, none⟩ = some (.int .i64 (M.gtH h i)) ∧ W.frozen? ⟨gh, i, none⟩ = false := by
  refine ⟨?_, (by simp [World.frozen?, H.half])⟩
  unfold M.gtH
  simp [World.cell?, H.half, intV, hi, List.getD_eq_getElem?_getD]
theorem HavW.put {base gh ko : Nat} {s : ByteArray} {W0 W : World} {p : Nat} {h : List Int} (H : HavW base gh ko s W0 W p h) (i : Nat) (x : Int) : HavW base gh ko s W0 (W.setCell ⟨gh, i, none⟩ (.int .i64 x)) p (h.set i x) ∧ (W.setCell ⟨gh, i, none⟩ (.int .i64 x)).heap.size = W.heap.size ∧ ∀ g, g ≠ gh → (W.setCell ⟨gh, i, none⟩ (.int .i64 x)).heap[g]? = W.heap[g]? := by
  have e : W.setCell ⟨gh, i, none⟩ (.int .i64 x) = W.setRow gh ((intV h).toArray.setIfInBounds i (.int .i64 x)) := setCell_eq_setRow W gh i _ 3 (0, 0) _ H.half
  have hs : (W.setRow gh ((intV h).toArray.setIfInBounds i (.int .i64 x))).heap.size = W.heap.size := by simp [World.setRow]
  have ho : ∀ g, g ≠ gh → (W.setRow gh ((intV h).toArray.setIfInBounds i (.int .i64 x))).heap[g]? = W.heap[g]? := fun g hg => setRow_other W gh g _ hg
  rw [e]
  refine ⟨⟨H.below.trans ⟨rfl, rfl, rfl, Nat.le_of_eq hs.symm, fun k hk => ho k (by have := H.lo; omega)⟩, H.lo, H.ord, by rw [hs]; exact H.sz, ?_, ?_⟩, hs, ho⟩
  · rw [setRow_heap W gh _ _ 3 _ H.half]
    congr 2
    rw [List.setIfInBounds_toArray]
    unfold intV
    rw [List.map_set]
  · rw [ho ko (by have := H.ord; omega)]
    exact H.out
theorem LineW.same {ko ki : Nat} {s : ByteArray} {W W' : World} {p : Nat} {v : Value} {l : List Nat} (L : LineW ko ki s W p v l) (h : ∀ g, ko < g → g < W.heap.size → W'.heap[g]? = W.heap[g]?) : LineW ko ki s W' p v l := by
  refine ⟨L.own.same fun g hg => ?_, ?_, L.ne, L.hi⟩
  · obtain ⟨g', h1, h2, h3⟩ := L.own.lt
    rw [h1] at hg
    injection hg with hg
    exact h g (by omega) (by omega)
  · have := (Array.getElem?_eq_some_iff.1 L.it).1
    rw [h ki L.hi this]
    exact L.it
theorem LineW.go {ko ki : Nat} {s : ByteArray} {W W' : World} {p : Nat} {v : Value} {l : List Nat} (L : LineW ko ki s W p v l) (hb : Below W.heap.size W W') : LineW ko ki s W' p v l := L.same fun g _ hg => hb.block g hg
theorem LineW.next {ko ki : Nat} {s : ByteArray} {W : World} {p : Nat} {v : Value} {l : List Nat} (L : LineW ko ki s W p v l) (q : Nat) : LineW ko ki s (W.iterAt ki s q) q v l :=
  ⟨L.own.same fun g hg => Lib.iterAt_other W ki g s q (fun e => L.ne (by rw [hg, e])), Lib.iterAt_heap W ki s p q L.it, L.ne, L.hi⟩
theorem HavW.next {base gh ko ki : Nat} {s : ByteArray} {W0 W : World} {p : Nat} {h : List Int} (H : HavW base gh ko s W0 W p h) (hk : ko < ki) (q : Nat) : HavW base gh ko s W0 (W.iterAt ki s q) p h :=
  H.same (Lib.below_iterAt H.below (by have := H.lo; have := H.ord; omega) s q) (Nat.le_of_eq (Lib.iterAt_size W ki s q).symm) (Lib.iterAt_other W ki gh s q (by have := H.ord; omega)) (Lib.iterAt_other W ki ko s q (by omega))
theorem HavW.step {base gh ko : Nat} {s : ByteArray} {W0 W : World} {p : Nat} {h : List Int} (H : HavW base gh ko s W0 W p h) (q : Nat) : HavW base gh ko s W0 (W.iterAt ko s q) q h :=
  ⟨Lib.below_iterAt H.below (by have := H.lo; have := H.ord; omega) s q, H.lo, H.ord, by rw [Lib.iterAt_size]; exact H.sz, (Lib.iterAt_other W ko gh s q (by have := H.ord; omega)).trans H.half, Lib.iterAt_heap W ko s p q H.out⟩

theorem okE {w : ByteArray} {n : Nat} (hn : w.size / 2 = n) (hk : ∀ c ∈ M.abcL n, okWith w c = true) (i k : Nat) (hi : i < n) (hkk : k < n) : impl_interlaced.f w (97 + (i : Int)) (97 + (k : Int)) = some (hvE w i k) := by
  obtain ⟨h1, h2⟩ := okWith_at (hk (97 + (i : Int)) ((M.mem_abc n _).2 (by omega)))
  obtain ⟨b, hb⟩ := h2 (97 + (k : Int)) (by omega) (by omega)
  unfold hvE
  rw [hb]
  rfl
theorem okP {w : ByteArray} {n : Nat} (hn : w.size / 2 = n) (hk : ∀ c ∈ M.abcL n, okWith w c = true) (i k : Nat) (hi : i < n) (hkk : k < n) : ∃ c, impl_common.f w (97 + (i : Int)) (97 + (k : Int)) = some c ∧ hvP w i k = (Int.tmod c 2 == 0) := by
  have h1 := hk (97 + (i : Int)) ((M.mem_abc n _).2 (by omega))
  have h2 := hk (97 + (k : Int)) ((M.mem_abc n _).2 (by omega))
  unfold hvP impl_common.f
  rw [if_pos ⟨h1, h2⟩]
  exact ⟨_, rfl, rfl⟩
theorem lett_byte : ∀ n : Fin 9, (lettS n.val).size = n.val ∧ ∀ i : Fin 8, (h : i.val < (lettS n.val).size) → ((lettS n.val)[i.val]'h).toNat = 97 + i.val := by decide +kernel
theorem LineW.app {ko ki : Nat} {s : ByteArray} {W w1 : World} {p : Nat} {v v1 u : Value} {l : List Nat} {ty : TypeId} (L : LineW ko ki s W p v l) (n : Nat) (ho : OwnO w1 (ko + 1) 3 v1 (natV l ++ [.int .i64 (n : Int)])) (hg : (W.alloc (.cells #[u] ty)).grownBy w1 v.ownBlock) (hv : v1.ownBlock = v.ownBlock ∨ ∃ g, v1.ownBlock = some g ∧ W.heap.size ≤ g) : LineW ko ki s w1 p v1 (l ++ [n]) := by
  have hki := (Array.getElem?_eq_some_iff.1 L.it).1
  refine ⟨by unfold natV at ho ⊢; rw [List.map_append]; exact ho, ?_, ?_, L.hi⟩
  · rw [hg.block ki (Nat.lt_of_lt_of_le hki (below_alloc (Below.refl _ _) _).size) (fun e => L.ne e.symm), heap_alloc_old W _ hki]
    exact L.it
  · rcases hv with e | ⟨g, e, h⟩
    · rw [e]; exact L.ne
    · rw [e]
      simp only [ne_eq, Option.some.injEq]
      omega
theorem HavW.app {base gh ko : Nat} {s : ByteArray} {W0 W w1 : World} {p : Nat} {h : List Int} (H : HavW base gh ko s W0 W p h) (hb : Below (ko + 1) W w1) : HavW base gh ko s W0 w1 p h :=
  H.same (H.below.trans (hb.mono (by have := H.lo; have := H.ord; omega))) hb.size (hb.block gh (by have := H.ord; omega)) (hb.block ko (by omega))
theorem LineW.put {base gh ko ki : Nat} {s : ByteArray} {W0 W : World} {p r : Nat} {v : Value} {l : List Nat} {h : List Int} (L : LineW ko ki s W p v l) (H : HavW base gh ko s W0 W r h) (i : Nat) (x : Int) : LineW ko ki s (W.setCell ⟨gh, i, none⟩ (.int .i64 x)) p v l :=
  L.same fun g hg _ => (H.put i x).2.2 g (by have := H.ord; omega)
theorem alloc_own (W : World) (base : Nat) (hb : base ≤ W.heap.size) (e : TypeId) (u : Value) : OwnO (W.alloc (.cells #[u] e)) base e (.slice (some ⟨W.heap.size, 0, none⟩) 1 1) [u] :=
  ⟨W.heap.size, 0, 1, #[u], (0, 0), rfl, hb, heap_alloc_new W _, fun h => absurd h (by decide), by simp, by simp [maxLen], by simp, by simp⟩
theorem made_zeros (n : Nat) : madeCells (Value.cells (.int .i64 0)) n = (intV (List.replicate n 0)).toArray := by
  unfold madeCells intV
  refine Array.ext (by simp) fun i h1 h2 => ?_
  simp [Value.cells, Nat.mod_one]
theorem info_int' : (Try.prog.info? 3).map (fun i => (i.zero, i.size, i.bytes)) = some (some (.int .i64 0), 1, 8) := by kernel_rfl

set_option maxHeartbeats 1000000 in
set_option maxRecDepth 100000 in
theorem impl_haveHalves.calls (k : Nat) (a0 : ByteArray) (r : Bool) (w : World) (h : impl_haveHalves.f k a0 = some r) :
    Calls Try.prog 23 #[.string a0] w fun e w' => e = .returned (.bool r) ∧ Below w.heap.size w w' := by
  unfold impl_haveHalves.f at h
  by_cases hq : okAll a0 = true
  · rw [if_pos hq] at h
    obtain ⟨h16, hok⟩ := okAll_at hq
    obtain ⟨n, hn⟩ : ∃ n, a0.size / 2 = n := ⟨_, rfl⟩
    rw [hn] at h hok
    have hn8 : n ≤ 8 := by omega
    have hle : impl_lettersOf.f a0 = some (lettS n) := by
      unfold impl_lettersOf.f
      rw [M.w64 (x := (a0.size : Int) / 2) (by omega) (by omega), if_pos (by omega), if_pos (by omega), show ((a0.size : Int) / 2).toNat = n by omega]
      rfl
    obtain ⟨hls, hlb⟩ := lett_byte ⟨n, by omega⟩
    obtain ⟨s, hs⟩ : ∃ s, s = lettS n := ⟨_, rfl⟩
    rw [← hs] at hle
    have hsz : s.size = n := by rw [hs]; exact hls
    have hby : ∀ (i : Nat) (hi : i < s.size), (s[i]'hi).toNat = 97 + i := by
      intro i hi
      subst hs
      exact hlb ⟨i, by omega⟩ hi
    clear hlb hls hs
    have HL := Aside0.mk (fun (W : World) => impl_lettersOf.calls a0 s W hle)
    have HE := Aside0.mk (fun (i k : Nat) (hi : i < n) (hk : k < n) (W : World) => (impl_interlaced.calls a0 _ _ _ W (okE hn hok i k hi hk)).mono (fun e w' h => (⟨h.1, by obtain ⟨m, hm⟩ := h.2; exact ⟨m, hm⟩⟩ : e = .returned (.bool (hvE a0 i k)) ∧ ∃ m, w' = W.drewN m)))
    have HP := Aside0.mk (fun (i k : Nat) (hi : i < n) (hk : k < n) => okP hn hok i k hi hk)
    have HBY := Aside0.mk hby
    have HH := Aside0.mk (show M.outW n (hvE a0) (hvP a0) k (n - 0) 0 (List.replicate n 0) = some r from h)
    have HB := Aside0.mk (Below.refl w.heap.size w)
    clear h hok hle hby hq
    go_enter Try.func23, Try.ntmps23
    go_wp2_with (go_at_call 20; refine (HL.out _).mono ?_; rintro e w1 ⟨rfl, ⟨nd, rfl⟩⟩)
    obtain ⟨i0, hi0, hzz⟩ := Option.map_eq_some_iff.1 info_int'
    simp only [Prod.mk.injEq] at hzz
    obtain ⟨hz0, hz1, hz2⟩ := hzz
    rw [run_makeSlice (P := Try.prog) (w.drewN nd) 41 3 i0 (.int .i64 0) Try.underlying41 hi0 hz0 .i64 .i64 (n : Int) (n : Int) (by omega) (Int.le_refl _) (by rw [hz1]; omega) (by rw [hz2]; omega) (by omega), hz1, Nat.mul_one, Int.toNat_natCast]
    simp only [Result.andThen]
    rw [Oper.upon_value]
    clear hi0 hz0 hz1 hz2
    have hmc : madeCells (Value.cells (.int .i64 0)) n = (intV (List.replicate n 0)).toArray := made_zeros n
    rw [hmc]
    obtain ⟨W1, hW1⟩ : ∃ W1, W1 = (w.drewN nd).alloc (.cells (intV (List.replicate n 0)).toArray 3) := ⟨_, rfl⟩
    obtain ⟨gh, hgh⟩ : ∃ gh, gh = w.heap.size := ⟨_, rfl⟩
    have HG1 := Aside0.mk (show W1.heap[gh]? = some (.cells (intV (List.replicate n 0)).toArray 3 (0, 0)) ∧ W1.heap.size = gh + 1 ∧ Below w.heap.size w W1 by
      subst hW1 hgh
      exact ⟨heap_alloc_new (w.drewN nd) _, by simp [World.alloc], below_alloc (pw_below_drewN (Below.refl _ _) nd) _⟩)
    rw [← hW1]
    clear hW1 hmc HB HL
    go_wp2_with fail
    obtain ⟨ko, hko⟩ : ∃ ko, ko = W1.heap.size := ⟨_, rfl⟩
    have HW := Aside0.mk (show HavW w.heap.size gh ko s w (W1.iter s 0) 0 (List.replicate n 0) by
      obtain ⟨g1, g2, g3⟩ := HG1.out
      have e : (W1.iter s 0).heap = W1.heap.push (.stringIter s 0) := rfl
      refine ⟨g3.alloc (by omega) _, by omega, by omega, by rw [e, Array.size_push]; omega, ?_, ?_⟩
      · rw [e, Array.getElem?_push, if_neg (by omega)]
        exact g1
      · rw [hko]
        exact World.iter_heap W1 s 0)
    rw [← hko, ← hgh]
    clear hko HG1 hgh
    generalize W1.iter s 0 = W2 at HW ⊢
    have hLen : (List.replicate n (0 : Int)).length = n := List.length_replicate
    generalize List.replicate n (0 : Int) = h0 at HW HH hLen
    have HLen := Aside0.mk hLen
    clear hLen
    go_loopg [5, 6, 7, 8, 9] n (fun gg v5 v6 v7 v8 v9 w' => ∃ (p : Nat) (h : List Int), Aside0 (p + gg = n) ∧ Aside0 (HavW w.heap.size gh ko s w w' p h) ∧ Aside0 (h.length = n) ∧ Aside0 (M.outW n (hvE a0) (hvP a0) k (n - p) p h = some r))
    case atStart => exact ⟨0, h0, ⟨by omega⟩, HW, HLen, HH⟩
    case round =>
      obtain ⟨p, h, HG, HW2, HLen2, HH2⟩ := hrel
      clear HW HLen HH
      have HW := HW2
      have HLen := HLen2
      have HH := HH2
      clear HW2 HLen2 HH2
      by_cases hp : p < n
      · obtain ⟨gm, rfl⟩ : ∃ gm, gk = gm + 1 := ⟨gk - 1, by have := HG.out; omega⟩
        have hnext : ∀ ty, (Instr.next (.pointer (some ⟨ko, 0, none⟩)) true ty).run Try.prog wr = _ := fun ty => Lib.run_next_ascii_at wr ko s p ty HW.out.out (by omega) (by have := HBY.out p (by omega); omega)
        have HW3 := Aside0.mk (HW.out.step (p + 1))
        clear HW
        generalize wr.iterAt ko s (p + 1) = W3 at hnext HW3
        have hc := HW3.out.cell p (by have := HLen.out; omega)
        have hH := HH.out
        rw [show n - p = (n - (p + 1)) + 1 by omega, M.outW] at hH
        obtain ⟨hc1, hc2⟩ := hc
        have b1 : ((n : Int) ≤ (p : Int)) = False := eq_false (by omega)
        have b2 : (p : Int) < (n : Int) := by omega
        by_cases hz : M.gtH h p = 0
        · rw [if_neg (by simpa using hz)] at hH
          have HH2 := Aside0.mk hH
          rw [hz] at hc1
          have hput := HW3.out.put p 1
          clear hH HH
          go_wp2_with fail
          have hW4 : HavW w.heap.size gh ko s w ((W3.setCell ⟨gh, p, none⟩ (.int .i64 1)).alloc (.cells #[.int .i64 (p : Int)] 3)) (p + 1) (h.set p 1) := hput.1.go (below_alloc (Below.refl _ _) _)
          have hO4 : OwnO ((W3.setCell ⟨gh, p, none⟩ (.int .i64 1)).alloc (.cells #[.int .i64 (p : Int)] 3)) (ko + 1) 3 (.slice (some ⟨W3.heap.size, 0, none⟩) 1 1) (natV [p]) := by
            have := alloc_own (W3.setCell ⟨gh, p, none⟩ (.int .i64 1)) (ko + 1) (by rw [hput.2.1]; have := HW3.out.sz; omega) 3 (.int .i64 (p : Int))
            rwa [hput.2.1] at this
          have HW4 := Aside0.mk hW4
          have HO4 := Aside0.mk hO4
          have HL4 := Aside0.mk (show (h.set p 1).length = n by rw [List.length_set]; exact HLen.out)
          have HR4 := Aside0.mk (show M.aftW n (hvE a0) (hvP a0) k p (M.bfsW n (hvE a0) (hvP a0) k (h.set p 1) [p]) = some r from by
            have e := HH2.out
            revert e
            cases M.bfsW n (hvE a0) (hvP a0) k (h.set p 1) [p] with
            | none => exact id
            | some o => cases o with
              | none => exact id
              | some h' => exact id)
          have HS4 := Aside0.mk (show ∀ j ∈ [p], j < n from fun j hj => by simp at hj; omega)
          clear hput hW4 hO4 HW3 hc1 hc2 HH2 hnext HLen hz
          generalize (W3.setCell ⟨gh, p, none⟩ (.int .i64 1)).alloc (.cells #[.int .i64 (p : Int)] 3) = W4 at HW4 HO4 ⊢
          generalize (Value.slice (some ⟨W3.heap.size, 0, none⟩) 1 1) = v40 at HO4 ⊢
          generalize h.set p 1 = h4 at HW4 HL4 HR4
          generalize [p] = l4 at HO4 HR4 HS4
          go_loopg [6, 7, 8, 9] k (fun gg v6 v7 v8 v9 w' => ∃ (h : List Int) (ln : List Nat), Aside0 (HavW w.heap.size gh ko s w w' (p + 1) h) ∧ Aside0 (h.length = n) ∧ Aside0 (OwnO w' (ko + 1) 3 v6 (natV ln)) ∧ Aside0 (∀ j ∈ ln, j < n) ∧ Aside0 (M.aftW n (hvE a0) (hvP a0) k p (M.bfsW n (hvE a0) (hvP a0) gg h ln) = some r))
          case atStart => exact ⟨h4, l4, HW4, HL4, HO4, HS4, HR4⟩
          case round =>
            obtain ⟨h, ln, HW, HLen, HO, HS, HR⟩ := hrel
            clear HW4 HO4 HL4 HR4 HS4
            obtain ⟨g, off, cap, cur, fz, rfl, hO⟩ := HO.out
            clear hO
            cases ln with
            | nil =>
              have HH2 := Aside0.mk (show M.outW n (hvE a0) (hvP a0) k (n - (p + 1)) (p + 1) h = some r by
                have e := HR.out
                rw [M.bfsW_nil] at e
                exact e)
              clear HR HO HS
              go_wp2_with fail
              go_roundg gm
              case measure => omega
              case rel => exact ⟨p + 1, h, ⟨by have := HG.out; omega⟩, HW, HLen, HH2⟩
            | cons i rest =>
              have hR := HR.out
              obtain ⟨z, rfl⟩ : ∃ z, gk = z + 1 := by
                cases gk with
                | zero => exact absurd hR (by simp [M.bfsW, M.aftW])
                | succ z => exact ⟨z, rfl⟩
              have hrl : rest.length ≤ 100 := by
                by_cases hc : 100 < rest.length
                · exfalso
                  rw [M.bfsW, if_pos hc] at hR
                  exact absurd hR (by simp [M.aftW])
                · omega
              rw [M.bfsW_cons _ _ _ _ _ _ _ hrl] at hR
              have HR2 := Aside0.mk (show M.aftW n (hvE a0) (hvP a0) k p (M.scB n (hvE a0) (hvP a0) z (M.scanW (hvE a0) (hvP a0) i (n - 0) 0 h (i :: rest))) = some r from hR)
              have hin : i < n := HS.out i (List.mem_cons_self ..)
              have hcl : wr.cell? ⟨g, off, none⟩ = some (.int .i64 (i : Int)) := by
                have := OwnO.cell HO.out 0 (.int .i64 (i : Int)) rfl
                rwa [Nat.add_zero] at this
              have hln : (natV (i :: rest)).length = rest.length + 1 := by simp [natV]
              rw [hln] at HO ⊢
              have b3 : ((0 : Int) < ((rest.length + 1 : Nat) : Int)) := by omega
              have b4 : (((rest.length + 1 : Nat) : Int) ≤ 0) = False := eq_false (by omega)
              clear hR HR
              go_wp2_with fail
              have hki : wr.heap.size = wr.heap.size := rfl
              obtain ⟨hg1, hg2, hg3⟩ : ko + 1 ≤ g ∧ g < wr.heap.size ∧ True := by
                obtain ⟨g', e1, e2, e3⟩ := HO.out.lt
                simp only [Value.ownBlock, Option.some.injEq] at e1
                subst e1
                exact ⟨e2, e3, trivial⟩
              have hph : (wr.iter s 0).heap = wr.heap.push (.stringIter s 0) := rfl
              have hold : ∀ q, q < wr.heap.size → (wr.iter s 0).heap[q]? = wr.heap[q]? := fun q hq => by rw [hph, Array.getElem?_push, if_neg (by omega)]
              have HW5 := Aside0.mk (show HavW w.heap.size gh ko s w (wr.iter s 0) (p + 1) h from HW.out.same (HW.out.below.alloc HW.out.base_le (.stringIter s 0)) (show wr.heap.size ≤ (wr.iter s 0).heap.size by rw [hph, Array.size_push]; omega) (hold gh (by have := HW.out.ord; have := HW.out.sz; omega)) (hold ko HW.out.sz))
              have HLi5 := Aside0.mk (show LineW ko wr.heap.size s (wr.iter s 0) 0 (.slice (some ⟨g, off, none⟩) (rest.length + 1) cap) (i :: rest) from
                ⟨HO.out.same fun q hq => by (simp only [Value.ownBlock, Option.some.injEq] at hq; subst hq; exact hold g hg2), World.iter_heap wr s 0, by simp only [Value.ownBlock, ne_eq, Option.some.injEq]; omega, HW.out.sz⟩)
              have HT5 := Aside0.mk (show ∃ t, i :: rest = i :: t from ⟨rest, rfl⟩)
              have HN5 := Aside0.mk (show (i :: rest).length ≤ 101 + 0 by simp; omega)
              clear hki hg1 hg2 hg3 hph hold HW HO hcl b3 b4 hln
              generalize wr.heap.size = ki at HLi5 ⊢
              generalize wr.iter s 0 = W5 at HW5 HLi5 ⊢
              generalize (Value.slice (some ⟨g, off, none⟩) (rest.length + 1) cap) = v60 at HLi5 ⊢
              generalize i :: rest = l6 at HLi5 HT5 HN5 HR2 HS
              go_loopg [6, 8, 9] n (fun gg v6 v8 v9 w' => ∃ (q : Nat) (h : List Int) (ln : List Nat), Aside0 (q + gg = n) ∧ Aside0 (HavW w.heap.size gh ko s w w' (p + 1) h) ∧ Aside0 (h.length = n) ∧ Aside0 (LineW ko ki s w' q v6 ln) ∧ Aside0 (∃ t, ln = i :: t) ∧ Aside0 (∀ j ∈ ln, j < n) ∧ Aside0 (ln.length ≤ 101 + q) ∧ Aside0 (M.aftW n (hvE a0) (hvP a0) k p (M.scB n (hvE a0) (hvP a0) z (M.scanW (hvE a0) (hvP a0) i (n - q) q h ln)) = some r))
              case atStart => exact ⟨0, h, l6, ⟨by omega⟩, HW5, HLen, HLi5, HT5, HS, HN5, HR2⟩
              case round =>
                clear HW5 HLen HLi5 HT5 HS HN5 HR2
                obtain ⟨q, h, ln, HGq, HW, HLen, HLi, HT, HS, HN, HR⟩ := hrel
                by_cases hqn : q < n
                · obtain ⟨gn, rfl⟩ : ∃ gn, gk = gn + 1 := ⟨gk - 1, by have := HGq.out; omega⟩
                  have hnext : ∀ ty, (Instr.next (.pointer (some ⟨ki, 0, none⟩)) true ty).run Try.prog wr = _ := fun ty => Lib.run_next_ascii_at wr ki s q ty HLi.out.it (by omega) (by have := HBY.out q (by omega); omega)
                  have HW2 := Aside0.mk (HW.out.next HLi.out.hi (q + 1))
                  have HLi2 := Aside0.mk (HLi.out.next (q + 1))
                  clear HW HLi
                  generalize wr.iterAt ki s (q + 1) = W6 at hnext HW2 HLi2
                  have hR := HR.out
                  rw [show n - q = (n - (q + 1)) + 1 by omega, M.scanW] at hR
                  have c1 : (((s[i]'(by omega)).toNat : Nat) : Int) = 97 + (i : Int) := by have := HBY.out i (by omega); omega
                  have c2 : (((s[q]'(by omega)).toNat : Nat) : Int) = 97 + (q : Int) := by have := HBY.out q (by omega); omega
                  have HE1 := Aside0.mk (fun (W : World) => HE.out i q hin hqn W)
                  have d1 : (i : Int) < (s.size : Int) := by omega
                  have d2 : (q : Int) < (s.size : Int) := by omega
                  by_cases hqi : q = i
                  · have e1 : ((q : Int) == (i : Int)) = true := beq_iff_eq.2 (by omega)
                    rw [if_pos (.inl hqi)] at hR
                    have HR2 := Aside0.mk hR
                    clear hR HR hqi
                    go_wp2_with fail
                    go_quiet (fail)
                    go_wp2_with fail
                    go_roundg gn
                    case measure => omega
                    case rel => exact ⟨q + 1, h, ln, ⟨by have := HGq.out; omega⟩, ⟨HW2.out.go (pw_below_drewN (Below.refl _ _) nq)⟩, HLen, ⟨HLi2.out.go (pw_below_drewN (Below.refl _ _) nq)⟩, HT, HS, ⟨by have := HN.out; omega⟩, HR2⟩
                  · have e1 : ((q : Int) == (i : Int)) = false := beq_eq_false_iff_ne.2 (by omega)
                    cases hE : hvE a0 i q with
                    | false =>
                      rw [if_pos (.inr hE)] at hR
                      rw [hE] at HE1
                      have HR2 := Aside0.mk hR
                      clear hR HR hqi hE
                      go_wp2_with fail
                      go_quiet ((go_at_call 21; exact Calls.quiet_of (HE1.out _)))
                      go_wp2_with fail
                      go_roundg gn
                      case measure => omega
                      case rel => exact ⟨q + 1, h, ln, ⟨by have := HGq.out; omega⟩, ⟨HW2.out.go (pw_below_drewN (Below.refl _ _) nq)⟩, HLen, ⟨HLi2.out.go (pw_below_drewN (Below.refl _ _) nq)⟩, HT, HS, ⟨by have := HN.out; omega⟩, HR2⟩
                    | true =>
                      rw [hE] at HE1
                      rw [if_neg (by rintro (e | e); (· exact hqi e); rw [hE] at e; cases e)] at hR
                      have HR2 := Aside0.mk hR
                      obtain ⟨c, hc1, hc2⟩ := HP.out i q hin hqn
                      have HC := Aside0.mk (fun (W : World) => impl_common.calls a0 _ _ c W hc1)
                      have HCP := Aside0.mk hc2
                      clear hR HR hE hc1 hc2
                      go_wp2_with fail
                      go_quiet ((go_at_call 21; exact Calls.quiet_of (HE1.out _)))
                      have HW3 := Aside0.mk (HW2.out.go (pw_below_drewN (Below.refl _ _) nq))
                      have HLi3 := Aside0.mk (HLi2.out.go (pw_below_drewN (Below.refl _ _) nq))
                      clear HW2 HLi2
                      generalize W6.drewN nq = W7 at HW3 HLi3 ⊢
                      have hci := (HW3.out.cell i (by have := HLen.out; omega)).1
                      have b5 : ((n : Int) ≤ (i : Int)) = False := eq_false (by omega)
                      have b6 : (i : Int) < (n : Int) := by omega
                      go_wp2_with fail
                      go_region_held3 (fun w' => Below W7.heap.size W7 w')
                        ((first | assumption | exact Below.refl _ _ | exact below_drew (Below.refl _ _) | exact below_drew (by assumption) | exact below_keep (by assumption) (by assumption) | (simp [*]; done)))
                        (first | (go_at_call 22; refine (HC.out _).mono ?_; rintro e w8 ⟨rfl, hb8⟩))
                      all_goals
                        rename_i hx8
                        have HW4 := Aside0.mk (HW3.out.go hx8)
                        have HLi4 := Aside0.mk (HLi3.out.go hx8)
                        clear HW3 HLi3 hb8 hx8 hci hnext
                        obtain ⟨hq1, hq2⟩ := HW4.out.cell q (by have := HLen.out; omega)
                        have hput := Aside0.mk (fun (x : Int) => HW4.out.put q x)
                        have b7 : ((n : Int) ≤ (q : Int)) = False := eq_false (by omega)
                        have b8 : (q : Int) < (n : Int) := by omega
                      all_goals
                        cases hcp : (Int.tmod c 2 == 0) with
                        | true =>
                          have HD := HCP.out
                          rw [hcp] at HD
                          have HD2 : M.dueW (hvP a0) h i q = wrap64 (-(M.gtH h i)) := by unfold M.dueW; rw [HD]; rfl
                          have hR := HR2.out
                          rw [HD2] at hR
                          clear HD HD2 HCP HR2
                          by_cases hz0 : M.gtH h q = 0
                          · rw [if_pos hz0] at hR
                            have HR3 := Aside0.mk hR
                            clear hR
                            have e2 : (M.gtH h q == 0) = true := beq_iff_eq.2 hz0
                            obtain ⟨due, hdue⟩ : ∃ d, d = wrap64 (-(M.gtH h i)) := ⟨_, rfl⟩
                            rw [← hdue] at HR3
                            have hp1 := HW4.out.put q due
                            have HW9 := Aside0.mk hp1.1
                            have HL9 := Aside0.mk (HLi4.out.put HW4.out q due)
                            have HS9 := Aside0.mk hp1.2.1
                            rw [hdue] at HW9 HL9 HS9
                            have hll : (natV ln).length ≤ 1000000 := by have := HN.out; simp [natV]; omega
                            have HLL := Aside0.mk hll
                            have HKO := Aside0.mk (show ko + 1 ≤ w8.heap.size from HW4.out.sz)
                            clear hp1 HW4 HLi4 hput hz0 hll
                            go_wp2_with (first | ((with_reducible refine gate_builtin (b := .append) (xs := #[.tmp 83, .tmp 85]) rfl ?_); at_builtin; refine wp_append_off (w0 := _) (ko + 1) rfl (.tmp 83) (.tmp 85) 41 3 (.int .i64 0) 8 (by omega) rfl Try.underlying41 info_int' rfl u6 (natV ln) _ rfl (by rw [HS9.out]; rfl) rfl HL9.out.own (Below.refl _ _) (by rw [HS9.out]; exact HKO.out) HLL.out ?_; intro v11 w11 ho hb hgb hov; have HO11 := Aside0.mk (HL9.out.app q ho hgb hov); have HW11 := Aside0.mk (HW9.out.app hb); clear ho hb hgb hov))
                            subst hdue
                            go_roundg gn
                            case measure => omega
                            case rel => exact ⟨q + 1, _, ln ++ [q], ⟨by have := HGq.out; omega⟩, HW11, ⟨by rw [List.length_set]; exact HLen.out⟩, HO11, ⟨by obtain ⟨t, ht⟩ := HT.out; exact ⟨t ++ [q], by rw [ht]; rfl⟩⟩, ⟨fun j hj => by rcases List.mem_append.1 hj with hj | hj; (· exact HS.out j hj); simp at hj; omega⟩, ⟨by have := HN.out; simp; omega⟩, HR3⟩
                          · rw [if_neg hz0] at hR
                            have e2 : (M.gtH h q == 0) = false := beq_eq_false_iff_ne.2 hz0
                            by_cases hbd : M.gtH h q = wrap64 (-wrap64 (-(M.gtH h i)))
                            · rw [if_pos hbd] at hR
                              obtain rfl : r = false := by
                                have e := hR
                                simp only [M.scB, M.aftW, Option.some.injEq] at e
                                exact e.symm
                              have e3 : (M.gtH h q == wrap64 (-wrap64 (-(M.gtH h i)))) = true := beq_iff_eq.2 hbd
                              clear hR hz0 hbd
                              go_wp2_with fail
                              go_ret
                              exact ⟨rfl, HW4.out.below⟩
                            · rw [if_neg hbd] at hR
                              have HR3 := Aside0.mk hR
                              have e3 : (M.gtH h q == wrap64 (-wrap64 (-(M.gtH h i)))) = false := beq_eq_false_iff_ne.2 hbd
                              clear hR hz0 hbd
                              go_wp2_with fail
                              go_roundg gn
                              case measure => omega
                              case rel => exact ⟨q + 1, h, ln, ⟨by have := HGq.out; omega⟩, HW4, HLen, HLi4, HT, HS, ⟨by have := HN.out; omega⟩, HR3⟩
                        | false =>
                          have HD := HCP.out
                          rw [hcp] at HD
                          have HD2 : M.dueW (hvP a0) h i q = M.gtH h i := by unfold M.dueW; rw [HD]; rfl
                          have hR := HR2.out
                          rw [HD2] at hR
                          clear HD HD2 HCP HR2
                          by_cases hz0 : M.gtH h q = 0
                          · rw [if_pos hz0] at hR
                            have HR3 := Aside0.mk hR
                            clear hR
                            have e2 : (M.gtH h q == 0) = true := beq_iff_eq.2 hz0
                            obtain ⟨due, hdue⟩ : ∃ d, d = M.gtH h i := ⟨_, rfl⟩
                            rw [← hdue] at HR3
                            have hp1 := HW4.out.put q due
                            have HW9 := Aside0.mk hp1.1
                            have HL9 := Aside0.mk (HLi4.out.put HW4.out q due)
                            have HS9 := Aside0.mk hp1.2.1
                            rw [hdue] at HW9 HL9 HS9
                            have hll : (natV ln).length ≤ 1000000 := by have := HN.out; simp [natV]; omega
                            have HLL := Aside0.mk hll
                            have HKO := Aside0.mk (show ko + 1 ≤ w8.heap.size from HW4.out.sz)
                            clear hp1 HW4 HLi4 hput hz0 hll
                            go_wp2_with (first | ((with_reducible refine gate_builtin (b := .append) (xs := #[.tmp 83, .tmp 85]) rfl ?_); at_builtin; refine wp_append_off (w0 := _) (ko + 1) rfl (.tmp 83) (.tmp 85) 41 3 (.int .i64 0) 8 (by omega) rfl Try.underlying41 info_int' rfl u6 (natV ln) _ rfl (by rw [HS9.out]; rfl) rfl HL9.out.own (Below.refl _ _) (by rw [HS9.out]; exact HKO.out) HLL.out ?_; intro v11 w11 ho hb hgb hov; have HO11 := Aside0.mk (HL9.out.app q ho hgb hov); have HW11 := Aside0.mk (HW9.out.app hb); clear ho hb hgb hov))
                            subst hdue
                            go_roundg gn
                            case measure => omega
                            case rel => exact ⟨q + 1, _, ln ++ [q], ⟨by have := HGq.out; omega⟩, HW11, ⟨by rw [List.length_set]; exact HLen.out⟩, HO11, ⟨by obtain ⟨t, ht⟩ := HT.out; exact ⟨t ++ [q], by rw [ht]; rfl⟩⟩, ⟨fun j hj => by rcases List.mem_append.1 hj with hj | hj; (· exact HS.out j hj); simp at hj; omega⟩, ⟨by have := HN.out; simp; omega⟩, HR3⟩
                          · rw [if_neg hz0] at hR
                            have e2 : (M.gtH h q == 0) = false := beq_eq_false_iff_ne.2 hz0
                            by_cases hbd : M.gtH h q = wrap64 (-(M.gtH h i))
                            · rw [if_pos hbd] at hR
                              obtain rfl : r = false := by
                                have e := hR
                                simp only [M.scB, M.aftW, Option.some.injEq] at e
                                exact e.symm
                              have e3 : (M.gtH h q == wrap64 (-(M.gtH h i))) = true := beq_iff_eq.2 hbd
                              clear hR hz0 hbd
                              go_wp2_with fail
                              go_ret
                              exact ⟨rfl, HW4.out.below⟩
                            · rw [if_neg hbd] at hR
                              have HR3 := Aside0.mk hR
                              have e3 : (M.gtH h q == wrap64 (-(M.gtH h i))) = false := beq_eq_false_iff_ne.2 hbd
                              clear hR hz0 hbd
                              go_wp2_with fail
                              go_roundg gn
                              case measure => omega
                              case rel => exact ⟨q + 1, h, ln, ⟨by have := HGq.out; omega⟩, HW4, HLen, HLi4, HT, HS, ⟨by have := HN.out; omega⟩, HR3⟩
                · have hnext : ∀ ty, (Instr.next (.pointer (some ⟨ki, 0, none⟩)) true ty).run Try.prog wr = _ := fun ty => Lib.run_next_end_at wr ki s q ty HLi.out.it (by omega)
                  have hR := HR.out
                  rw [show n - q = 0 by omega, M.scanW] at hR
                  obtain ⟨t, ht⟩ := HT.out
                  subst ht
                  have HR2 := Aside0.mk (show M.aftW n (hvE a0) (hvP a0) k p (M.bfsW n (hvE a0) (hvP a0) z h t) = some r from hR)
                  obtain ⟨g', off', cap', cur', fz', hv, hO'⟩ := HLi.out.own
                  have hO := HLi.out.own
                  have hnl : (natV (i :: t)).length = t.length + 1 := by simp [natV]
                  rw [hnl] at hv
                  subst hv
                  have hrest := OwnO.rest (x := .int .i64 (i : Int)) (xs := natV t) hO
                  have HS2 := Aside0.mk (show ∀ j ∈ t, j < n from fun j hj => HS.out j (List.mem_cons_of_mem _ hj))
                  have hcap : t.length + 1 ≤ cap' := by have := hO'.2.2.2.1; rwa [hnl] at this
                  clear hR HR hO hO' HS HN hnl
                  by_cases hc1 : cap' = 1
                  · subst hc1
                    have ht0 : t = [] := List.eq_nil_of_length_eq_zero (by omega)
                    subst ht0
                    rw [if_pos rfl] at hrest
                    have HO2 := Aside0.mk (show OwnO wr (ko + 1) 3 (.slice (some ⟨g', off', none⟩) 0 0) (natV []) from hrest)
                    clear hrest
                    go_wp2_with fail
                    go_roundg z
                    case measure => omega
                    case rel => exact ⟨h, _, HW, HLen, HO2, HS2, HR2⟩
                  · rw [if_neg hc1, Nat.add_sub_cancel] at hrest
                    have HO2 := Aside0.mk hrest
                    clear hrest
                    go_wp2_with fail
                    go_roundg z
                    case measure => omega
                    case rel => exact ⟨h, _, HW, HLen, HO2, HS2, HR2⟩
        · rw [if_pos hz] at hH
          have HH2 := Aside0.mk hH
          have e1 : (M.gtH h p != 0) = true := by simpa using hz
          generalize M.gtH h p = y at hc1 e1
          clear hH HH hz
          go_wp2_with fail
          go_roundg gm
          case measure => omega
          case rel => exact ⟨p + 1, h, ⟨by have := HG.out; omega⟩, HW3, HLen, HH2⟩
      · have hnext : ∀ ty, (Instr.next (.pointer (some ⟨ko, 0, none⟩)) true ty).run Try.prog wr = _ := fun ty => Lib.run_next_end_at wr ko s p ty HW.out.out (by omega)
        have hH := HH.out
        rw [show n - p = 0 by omega, M.outW] at hH
        obtain rfl := Option.some.inj hH
        clear hH HH
        go_wp2_with fail
        go_ret
        exact ⟨rfl, HW.out.below⟩
  · rw [if_neg hq] at h
    cases h
end Go.Proofs.Ytgdpeabbmbclbaa.Pr

/- What the program's isEvenLoop computes. -/
namespace Go.Proofs.Ytgdpeabbmbclbaa.Pr
open Go.RowKit Go.Proofs.YtgdpeabbmbclbaaW.PrintWords Go.Proofs.YtgdpeabbmbclbaaW.PrintLast Go.Proofs.YtgdpeabbmbclbaaW.PrintMore
set_option linter.unusedVariables false
set_option linter.unusedSimpArgs false

/-- Whether a letter is interlaced with an odd number of others. -/
def oddB (w : ByteArray) (c : Int) : Bool := (((strOfNums (M.lettP (withB w c) 97 (w.size / 2))).size : Int) % 2 == 1)
def impl_isEvenLoop.f (a0 : ByteArray) : Option (Bool) := if decide (a0.size ≤ 16) && ((M.abcL (a0.size / 2)).all fun c => okWith a0 c) then some ((strOfNums (M.lettP (oddB a0) 97 (a0.size / 2))).toList.isEmpty) else none

set_option maxHeartbeats 4000000 in
theorem even_pred (w0 : ByteArray) (c : Int) (hk : okWith w0 c = true) (B : Nat) (W : World) (h1 : W.cell? ⟨B, 0, none⟩ = some (.string w0)) :
    Calls Try.prog 29 #[.int .u8 c, .pointer (some ⟨B, 0, none⟩)] W fun e w' => e = .returned (.bool (oddB w0 c)) ∧ Below W.heap.size W w' := by
  unfold oddB
  have HI := Aside0.mk (fun (W1 : World) => impl_interlacedWith.calls w0 c _ W1 (if_pos hk))
  generalize strOfNums (M.lettP (withB w0 c) 97 (w0.size / 2)) = s at HI ⊢
  clear hk
  go_enter Try.func29, Try.ntmps29
  go_wp2_with (go_at_call 30; refine (HI.out _).mono ?_; rintro e w' ⟨rfl, hb⟩)
  go_ret
  exact ⟨rfl, hb⟩

set_option maxHeartbeats 4000000 in
theorem impl_isEvenLoop.calls (a0 : ByteArray) (r : Bool) (w : World) (h : impl_isEvenLoop.f a0 = some r) :
    Calls Try.prog 19 #[.string a0] w fun e w' => e = .returned (.bool r) ∧ Below w.heap.size w w' := by
  unfold impl_isEvenLoop.f at h
  by_cases hk : (decide (a0.size ≤ 16) && ((M.abcL (a0.size / 2)).all fun c => okWith a0 c)) = true
  · rw [if_pos hk] at h
    simp only [Bool.and_eq_true, decide_eq_true_eq, List.all_eq_true] at hk
    obtain ⟨h16, hall⟩ := hk
    obtain rfl := Option.some.inj h
    have eg : ∀ args w, (callFunc 29 args).run Try.prog w = .ok (.enter 29 args) w := enters_of Try.func29 (by kernel_rfl) rfl
    have hb0 : Below w.heap.size w (w.alloc (.cells #[.string a0] 9)) := below_alloc (Below.refl _ _) _
    have hs0 : w.heap.size < (w.alloc (.cells #[.string a0] 9)).heap.size := by simp
    have hx0 : (w.alloc (.cells #[.string a0] 9)).cell? ⟨w.heap.size, 0, none⟩ = some (.string a0) := by simp
    have hL := Aside0.mk (lettersWith_calls a0 (a0.size / 2) rfl (by omega) (oddB a0) 29 #[.pointer (some ⟨w.heap.size, 0, none⟩)] eg (w.alloc (.cells #[.string a0] 9))
      (fun W2 x h1 h2 hb => even_pred a0 x (hall x ((M.mem_abc _ x).2 ⟨h1, h2⟩)) w.heap.size W2 ((hb.cell (p := ⟨w.heap.size, 0, none⟩) hs0).trans hx0)))
    generalize strOfNums (M.lettP (oddB a0) 97 (a0.size / 2)) = s at hL h
    have HB0 := Aside0.mk hb0
    clear h eg hx0 hs0 hall hb0
    go_enter Try.func19, Try.ntmps19
    go_wp2_with (go_at_call 28; refine hL.out.mono ?_; rintro e w' ⟨rfl, hb⟩)
    go_ret
    exact ⟨rfl, HB0.out.trans (hb.mono (by simp))⟩
  · rw [if_neg hk] at h; cases h
end Go.Proofs.Ytgdpeabbmbclbaa.Pr

/- What the program's canBeDrawn computes. -/
namespace Go.Proofs.Ytgdpeabbmbclbaa.Pr
open Go.RowKit Go.Proofs.YtgdpeabbmbclbaaW.PrintWords Go.Proofs.YtgdpeabbmbclbaaW.PrintLast Go.Proofs.YtgdpeabbmbclbaaW.PrintMore
set_option linter.unusedVariables false
set_option linter.unusedSimpArgs false

/-- Two letters that keep a loop from being drawn. -/
def pairBad (w : ByteArray) (i j : Nat) : Bool := decide (i < j) && !(hvE w i j) && (Int.tmod ((impl_common.f w (97 + (i : Int)) (97 + (j : Int))).getD 0) 2 == 1)
def anyBad (w : ByteArray) (n : Nat) : Bool := (List.range n).any fun i => (List.range n).any fun j => pairBad w i j
def impl_canBeDrawn.f (k : Nat) (a0 : ByteArray) : Option (Bool) :=
  (impl_isEvenLoop.f a0).bind fun e => if e = true then (if okAll a0 = true then (if anyBad a0 (a0.size / 2) = true then some false else impl_haveHalves.f k a0) else none) else some false
theorem outW_mono (n : Nat) (E P : Nat → Nat → Bool) : ∀ (z : Nat) (h : List Int) (l : List Nat), LeO (M.bfsW n E P z h l) (M.bfsW n E P (z + 1) h l)
  | z, h, [] => by rw [M.bfsW_nil, M.bfsW_nil]; exact LeO.refl _
  | 0, h, i :: rest => LeO.none _
  | z + 1, h, i :: rest => by
    rw [M.bfsW, M.bfsW]
    refine LeO.ite (LeO.refl _) ?_
    cases M.scanW E P i n 0 h (i :: rest) with
    | none => exact LeO.refl _
    | some p => exact outW_mono n E P z _ _
theorem outW_mono2 (n : Nat) (E P : Nat → Nat → Bool) (y : Nat) : ∀ (d f : Nat) (h : List Int), LeO (M.outW n E P y d f h) (M.outW n E P (y + 1) d f h)
  | 0, f, h => LeO.refl _
  | d + 1, f, h => by
    rw [M.outW, M.outW]
    refine LeO.ite (outW_mono2 n E P y d (f + 1) h) ?_
    have hb := outW_mono n E P y (h.set f 1) [f]
    cases e : M.bfsW n E P y (h.set f 1) [f] with
    | none => exact LeO.none _
    | some o =>
      rw [hb _ e]
      cases o with
      | none => exact LeO.refl _
      | some h' => exact outW_mono2 n E P y d (f + 1) h'
theorem impl_haveHalves.mono : ∀ a0 k, LeO (impl_haveHalves.f k a0) (impl_haveHalves.f (k + 1) a0) := by
  intro a0 k
  unfold impl_haveHalves.f
  exact LeO.ite (outW_mono2 _ _ _ _ _ _ _) (LeO.refl _)
theorem impl_canBeDrawn.mono : ∀ a0 k, LeO (impl_canBeDrawn.f k a0) (impl_canBeDrawn.f (k + 1) a0) := by
  intro a0 k
  unfold impl_canBeDrawn.f
  exact LeO.bind (LeO.refl _) (fun _ => LeO.ite (LeO.ite (LeO.ite (LeO.refl _) (impl_haveHalves.mono _ _)) (LeO.refl _)) (LeO.refl _))

theorem bytes_cells (W : World) (s : ByteArray) (hs : s.size ≤ 1000) (j : Nat) (hj : j < s.size) : (Lib.bytesWorld W 5 s).cell? ⟨W.heap.size, j, none⟩ = some (.int .u8 ((s[j]'hj).toNat : Int)) := by
  have hc0 := bytes_C W 5 s (by omega)
  have hl := bytesOf_length s
  obtain ⟨ad, e1, hc⟩ := hc0.2.2 (by omega)
  injection e1 with e1
  subst e1
  have hg : (bytesOf s)[j]? = some ((s[j]'hj).toNat : Int) := by
    unfold bytesOf
    rw [List.getElem?_map, Array.getElem?_toList]
    show Option.map _ s.data[j]? = _
    rw [Array.getElem?_eq_getElem hj]
    rfl
  obtain ⟨cs_, h1, h2, h3⟩ := hc j _ hg
  have h4 := h3 0 (.int .u8 ((s[j]'hj).toNat : Int)) (by rw [show cs_ = [Value.int .u8 ((s[j]'hj).toNat : Int)] from h2]; rfl)
  have ha : (⟨W.heap.size, 0, none⟩ : Addr).add (j * (Kd.int .u8).sz + 0) = ⟨W.heap.size, j, none⟩ := by
    rw [add_plain]
    show (⟨W.heap.size, j * 1 + 0, none⟩ : Addr) = _
    rw [show j * 1 + 0 = j by omega]
  rwa [ha] at h4
/-- A text's letters, in a block of their own. -/
structure LetW (B n : Nat) (W : World) : Prop where
  lt : B < W.heap.size
  at_ : ∀ q : Nat, q < n → W.cell? ⟨B, q, none⟩ = some (.int .u8 (97 + (q : Int)))
theorem LetW.go {B n : Nat} {W W' : World} (L : LetW B n W) (hb : Below W.heap.size W W') : LetW B n W' :=
  ⟨Nat.lt_of_lt_of_le L.lt hb.size, fun q hq => (hb.cell (p := ⟨B, q, none⟩) L.lt).trans (L.at_ q hq)⟩
theorem let_bytes (W : World) (s : ByteArray) (n : Nat) (hs : s.size = n) (hn : n ≤ 8) (hby : ∀ (i : Nat) (hi : i < s.size), (s[i]'hi).toNat = 97 + i) : LetW W.heap.size n (Lib.bytesWorld W 5 s) := by
  refine ⟨by rw [Lib.bytesWorld_size]; omega, fun q hq => ?_⟩
  rw [bytes_cells W s (by omega) q (by omega)]
  have := hby q (by omega)
  congr 2
  omega
theorem anyBad_none {w : ByteArray} {n : Nat} (h : ∀ i j, i < n → j < n → pairBad w i j = false) : anyBad w n = false := by
  unfold anyBad
  rw [List.any_eq_false]
  intro i hi
  rw [Bool.not_eq_true, List.any_eq_false]
  intro j hj
  rw [Bool.not_eq_true]
  exact h i j (List.mem_range.1 hi) (List.mem_range.1 hj)
theorem anyBad_some {w : ByteArray} {n : Nat} {i j : Nat} (hi : i < n) (hj : j < n) (h : pairBad w i j = true) : anyBad w n = true := by
  unfold anyBad
  exact List.any_eq_true.2 ⟨i, List.mem_range.2 hi, List.any_eq_true.2 ⟨j, List.mem_range.2 hj, h⟩⟩

set_option maxHeartbeats 2000000 in
set_option maxRecDepth 100000 in
theorem impl_canBeDrawn.calls (k : Nat) (a0 : ByteArray) (r : Bool) (w : World) (h : impl_canBeDrawn.f k a0 = some r) :
    Calls Try.prog 10 #[.string a0] w fun e w' => e = .returned (.bool r) ∧ Below w.heap.size w w' := by
  obtain ⟨ev, hev, h⟩ := Option.bind_eq_some_iff.mp h
  have HEv := Aside0.mk (fun (W : World) => impl_isEvenLoop.calls a0 ev W hev)
  have HB := Aside0.mk (Below.refl w.heap.size w)
  cases ev with
  | false =>
    rw [if_neg (by decide)] at h
    obtain rfl := Option.some.inj h
    clear h hev
    go_enter Try.func10, Try.ntmps10
    go_wp2_with (go_at_call 19; refine (HEv.out _).mono ?_; rintro e w1 ⟨rfl, hb⟩)
    go_ret
    exact ⟨rfl, hb⟩
  | true =>
    rw [if_pos rfl] at h
    by_cases hq : okAll a0 = true
    · rw [if_pos hq] at h
      obtain ⟨h16, hok⟩ := okAll_at hq
      obtain ⟨n, hn⟩ : ∃ n, a0.size / 2 = n := ⟨_, rfl⟩
      rw [hn] at h hok
      have hn8 : n ≤ 8 := by omega
      have hle : impl_lettersOf.f a0 = some (lettS n) := by
        unfold impl_lettersOf.f
        rw [M.w64 (x := (a0.size : Int) / 2) (by omega) (by omega), if_pos (by omega), if_pos (by omega), show ((a0.size : Int) / 2).toNat = n by omega]
        rfl
      obtain ⟨hls, hlb⟩ := lett_byte ⟨n, by omega⟩
      obtain ⟨s, hs⟩ : ∃ s, s = lettS n := ⟨_, rfl⟩
      rw [← hs] at hle
      have hsz : s.size = n := by rw [hs]; exact hls
      have hby : ∀ (i : Nat) (hi : i < s.size), (s[i]'hi).toNat = 97 + i := by
        intro i hi
        subst hs
        exact hlb ⟨i, by omega⟩ hi
      have HLB := Aside0.mk (fun (W : World) => let_bytes W s n hsz hn8 hby)
      clear hlb hls hs hby
      have HL := Aside0.mk (fun (W : World) => impl_lettersOf.calls a0 s W hle)
      have HE := Aside0.mk (fun (i k : Nat) (hi : i < n) (hk : k < n) (W : World) => impl_interlaced.calls a0 _ _ _ W (okE hn hok i k hi hk))
      have HP := Aside0.mk (fun (i j : Nat) (hi : i < n) (hj : j < n) => (show ∃ c, (∀ W : World, Calls Try.prog 22 #[.string a0, .int .u8 (97 + (i : Int)), .int .u8 (97 + (j : Int))] W fun e w' => e = .returned (.int .i64 c) ∧ Below W.heap.size W w') ∧ pairBad a0 i j = (decide (i < j) && !(hvE a0 i j) && (Int.tmod c 2 == 1)) by
        obtain ⟨c, hc, _⟩ := okP hn hok i j hi hj
        refine ⟨c, fun W => impl_common.calls a0 _ _ c W hc, ?_⟩
        unfold pairBad
        rw [hc]
        rfl))
      have HH := Aside0.mk h
      clear h hok hle hev hq
      go_enter Try.func10, Try.ntmps10
      go_wp2_with (first | (go_at_call 19; refine (HEv.out _).mono ?_; rintro e w1 ⟨rfl, hb1⟩; have n0_ := Aside0.mk (below_keep hb1 HB.out); clear HB; have HB := n0_; clear n0_ hb1) | (go_at_call 20; refine (HL.out _).mono ?_; rintro e w2 ⟨rfl, ⟨nd, rfl⟩⟩; have n0_ := Aside0.mk (pw_below_drewN HB.out nd); clear HB; have HB := n0_; clear n0_))
      rw [print_bytes 9 36 5 Try.underlying9 Try.underlying36 Try.underlying5]
      simp only [Result.andThen]
      rw [Oper.upon_value, hsz]
      have HLe := Aside0.mk (HLB.out (w1.drewN nd))
      have HB2 := Aside0.mk (bytes_below HB.out (HB.out.size) 5 s)
      clear HB
      generalize Lib.bytesWorld (w1.drewN nd) 5 s = W1 at HLe HB2 ⊢
      generalize (w1.drewN nd).heap.size = B1 at HLe ⊢
      generalize grownCap (w1.drewN nd) n 0 5 = cp
      have HA := Aside0.mk (fun (i j : Nat) (hi : i < 0) (hj : j < n) => show pairBad a0 i j = false from absurd hi (Nat.not_lt_zero _))
      go_wp2_with fail
      go_loopg [4, 6, 14] n (fun gg v4 v6 v14 w' => ∃ (i : Nat), v14 = .int .i64 i ∧ Aside0 (i + gg = n) ∧ Aside0 (LetW B1 n w') ∧ Aside0 (Below w.heap.size w w') ∧ Aside0 (∀ i' j : Nat, i' < i → j < n → pairBad a0 i' j = false))
      case atStart => exact ⟨0, by first | rfl | (simp; done), ⟨by omega⟩, HLe, HB2, HA⟩
      case round =>
        obtain ⟨i, rfl, HG, HLe2, HB, HA2⟩ := hrel
        clear HLe HB2 HA
        by_cases hi : i < n
        · have e4 : decide ((i : Int) < (n : Int)) = true := decide_eq_true (by omega)
          have e5 : decide (i < n) = true := decide_eq_true hi
          obtain ⟨gm, rfl⟩ : ∃ gm, gk = gm + 1 := ⟨gk - 1, by have := HG.out; omega⟩
          have h0 := HLe2.out.at_ i hi
          have b1 : ((n : Int) ≤ (i : Int)) = False := eq_false (by omega)
          have b2 : (i : Int) < (n : Int) := by omega
          go_wp2_with (go_at_call 20; refine (HL.out _).mono ?_; rintro e w2 ⟨rfl, ⟨nd2, rfl⟩⟩)
          rw [print_bytes 9 36 5 Try.underlying9 Try.underlying36 Try.underlying5]
          simp only [Result.andThen]
          rw [Oper.upon_value, hsz]
          have HLi := Aside0.mk (HLB.out (wr.drewN nd2))
          have hb3 : Below wr.heap.size wr (Lib.bytesWorld (wr.drewN nd2) 5 s) := bytes_below (pw_below_drewN (Below.refl _ _) nd2) (Nat.le_refl _) 5 s
          have HB3 := Aside0.mk (below_keep hb3 HB.out)
          have HLo := Aside0.mk (HLe2.out.go hb3)
          clear HB HLe2 hb3 h0
          generalize Lib.bytesWorld (wr.drewN nd2) 5 s = W2 at HLi HB3 HLo ⊢
          generalize (wr.drewN nd2).heap.size = B2 at HLi ⊢
          generalize grownCap (wr.drewN nd2) n 0 5 = cp2
          have HA3 := Aside0.mk (fun (j : Nat) (hj : j < 0) => show pairBad a0 i j = false from absurd hj (Nat.not_lt_zero _))
          go_wp2_with fail
          go_loopg [6, 22] n (fun gg v6 v22 w' => ∃ (j : Nat), v22 = .int .i64 j ∧ Aside0 (j + gg = n) ∧ Aside0 (LetW B1 n w') ∧ Aside0 (LetW B2 n w') ∧ Aside0 (Below w.heap.size w w') ∧ Aside0 (∀ j' : Nat, j' < j → pairBad a0 i j' = false))
          case atStart => exact ⟨0, by first | rfl | (simp; done), ⟨by omega⟩, HLo, HLi, HB3, HA3⟩
          case round =>
            obtain ⟨j, rfl, HGj, HLo2, HLi2, HB, HA4⟩ := hrel
            clear HLo HLi HB3 HA3
            by_cases hj : j < n
            · have f4 : decide ((j : Int) < (n : Int)) = true := decide_eq_true (by omega)
              have f5 : decide (j < n) = true := decide_eq_true hj
              obtain ⟨gn, rfl⟩ : ∃ gn, gk = gn + 1 := ⟨gk - 1, by have := HGj.out; omega⟩
              have h1 := HLi2.out.at_ j hj
              have b3 : ((n : Int) ≤ (j : Int)) = False := eq_false (by omega)
              have b4 : (j : Int) < (n : Int) := by omega
              have HE1 := Aside0.mk (fun (W : World) => HE.out i j hi hj W)
              obtain ⟨c, hc1, hc2⟩ := HP.out i j hi hj
              have HC := Aside0.mk hc1
              have HPB := Aside0.mk hc2
              clear hc1 hc2
              by_cases hij : i < j
              · have e6 : decide (97 + (i : Int) < 97 + (j : Int)) = true := decide_eq_true (by omega)
                cases hE : hvE a0 i j with
                | true =>
                  rw [hE] at HE1
                  have HA5 := Aside0.mk (fun (j' : Nat) (hj' : j' < j + 1) => show pairBad a0 i j' = false from by
                    by_cases e : j' = j
                    · subst e
                      rw [HPB.out, hE]
                      simp
                    · exact HA4.out j' (by omega))
                  clear hE HPB
                  go_wp2_with (go_at_call 21; refine (HE1.out _).mono ?_; rintro e w3 ⟨rfl, ⟨nd3, rfl⟩⟩)
                  go_roundg gn
                  case measure => omega
                  case rel => exact ⟨j + 1, by first | rfl | (simp; done), ⟨by have := HGj.out; omega⟩, ⟨HLo2.out.go (pw_below_drewN (Below.refl _ _) nd3)⟩, ⟨HLi2.out.go (pw_below_drewN (Below.refl _ _) nd3)⟩, ⟨pw_below_drewN HB.out nd3⟩, HA5⟩
                | false =>
                  rw [hE] at HE1
                  cases hcp : (Int.tmod c 2 == 1) with
                  | true =>
                    have hbad : anyBad a0 n = true := anyBad_some hi hj (by rw [HPB.out, hE, hcp, decide_eq_true hij]; rfl)
                    obtain rfl : r = false := by
                      have e := HH.out
                      rw [if_pos hbad] at e
                      exact (Option.some.inj e).symm
                    clear hE HPB hbad
                    go_wp2_with (first | (go_at_call 21; refine (HE1.out _).mono ?_; rintro e w3 ⟨rfl, ⟨nd3, rfl⟩⟩; have n0_ := Aside0.mk (pw_below_drewN HB.out nd3); clear HB; have HB := n0_; clear n0_) | (go_at_call 22; refine (HC.out _).mono ?_; rintro e w4 ⟨rfl, hb4⟩; have n0_ := Aside0.mk (below_keep hb4 HB.out); clear HB; have HB := n0_; clear n0_))
                    go_ret
                    exact ⟨rfl, HB.out⟩
                  | false =>
                    have HA5 := Aside0.mk (fun (j' : Nat) (hj' : j' < j + 1) => show pairBad a0 i j' = false from by
                      by_cases e : j' = j
                      · subst e
                        rw [HPB.out, hcp]
                        simp
                      · exact HA4.out j' (by omega))
                    clear hE HPB
                    go_wp2_with (first | (go_at_call 21; refine (HE1.out _).mono ?_; rintro e w3 ⟨rfl, ⟨nd3, rfl⟩⟩) | (go_at_call 22; refine (HC.out _).mono ?_; rintro e w4 ⟨rfl, hb4⟩))
                    have hb5 : Below wr.heap.size wr w4 := (pw_below_drewN (Below.refl _ _) nd3).trans hb4
                    go_roundg gn
                    case measure => omega
                    case rel => exact ⟨j + 1, by first | rfl | (simp; done), ⟨by have := HGj.out; omega⟩, ⟨HLo2.out.go hb5⟩, ⟨HLi2.out.go hb5⟩, ⟨below_keep hb5 HB.out⟩, HA5⟩
              · have e6 : decide (97 + (i : Int) < 97 + (j : Int)) = false := decide_eq_false (by omega)
                have HA5 := Aside0.mk (fun (j' : Nat) (hj' : j' < j + 1) => show pairBad a0 i j' = false from by
                  by_cases e : j' = j
                  · subst e
                    rw [HPB.out, decide_eq_false hij]
                    simp
                  · exact HA4.out j' (by omega))
                clear HPB
                go_wp2_with fail
                go_roundg gn
                case measure => omega
                case rel => exact ⟨j + 1, by first | rfl | (simp; done), ⟨by have := HGj.out; omega⟩, HLo2, HLi2, HB, HA5⟩
            · have f4 : decide ((j : Int) < (n : Int)) = false := decide_eq_false (by omega)
              have f5 : decide (j < n) = false := decide_eq_false hj
              have HA5 := Aside0.mk (fun (i' j' : Nat) (hi' : i' < i + 1) (hj' : j' < n) => show pairBad a0 i' j' = false from by
                by_cases e : i' = i
                · subst e
                  exact HA4.out j' (by have := HGj.out; omega)
                · exact HA2.out i' j' (by omega) hj')
              go_wp2_with fail
              go_roundg gm
              case measure => omega
              case rel => exact ⟨i + 1, by first | rfl | (simp; done), ⟨by have := HG.out; omega⟩, HLo2, HB, HA5⟩
        · have e4 : decide ((i : Int) < (n : Int)) = false := decide_eq_false (by omega)
          have e5 : decide (i < n) = false := decide_eq_false hi
          have hgood : anyBad a0 n = false := anyBad_none (fun i' j h1 h2 => HA2.out i' j (by have := HG.out; omega) h2)
          have hH := HH.out
          rw [hgood, if_neg (by decide)] at hH
          have HC := Aside0.mk (fun (W : World) => impl_haveHalves.calls k a0 r W hH)
          clear hH hgood
          go_wp2_with (go_at_call 23; refine (HC.out _).mono ?_; rintro e w3 ⟨rfl, hb3⟩)
          go_ret
          exact ⟨rfl, below_keep hb3 HB.out⟩
    · rw [if_neg hq] at h
      cases h
end Go.Proofs.Ytgdpeabbmbclbaa.Pr

-- Written by a program for this claim.
namespace Go.Proofs.Ytgdpeabbmbclbaa.Pr
open Go.RowKit Go.Proofs.YtgdpeabbmbclbaaW.PrintWords Go.Proofs.YtgdpeabbmbclbaaW.PrintLast Go.Proofs.YtgdpeabbmbclbaaW.PrintMore
attribute [local go_sem] max2_int min2_int max_two min_two max_three min_three max_four min_four   -- for this text's walks alone
set_option linter.unusedVariables false
set_option linter.unusedSimpArgs false

/-! ### impl_CountDrawn: function 5 -/
def impl_CountDrawn.l0 : Nat → Int → List ByteArray → Int → Int → Option (Int × Bool)
  | 0, _, _, _, _ => none
  | k + 1, x4, x11, x12, x13 => if x13 < x12 then (if 0 ≤ x13 then (if x13 < (x11.length : Int) then ((impl_canBeDrawn.f k (rdOf ByteArray.empty x11 x13)).bind fun t157 => (if t157 = true then (impl_CountDrawn.l0 k (wrap64 (x4 + 1)) x11 x12 (wrap64 (x13 + 1))) else (impl_CountDrawn.l0 k x4 x11 x12 (wrap64 (x13 + 1))))) else (none)) else (none)) else (some (x4, true))
def impl_CountDrawn.f (k : Nat) (a0 : Int) : Option (Int × Bool) := (impl_within.f a0 0 4).bind fun t152 => (if t152 = true then ((impl_allLoops.f k a0).bind fun t153 => (impl_CountDrawn.l0 k 0 t153 (t153.length : Int) 0)) else (some (0, false)))
theorem impl_CountDrawn.mono_l : ∀ k, (∀ y0 y1 y2 y3, LeO (impl_CountDrawn.l0 k y0 y1 y2 y3) (impl_CountDrawn.l0 (k + 1) y0 y1 y2 y3))
  | 0 => fun _ _ _ _ r h => by simp [impl_CountDrawn.l0] at h
  | k + 1 => by
    have ih0 := impl_CountDrawn.mono_l k
    · intro y0 y1 y2 y3
      unfold impl_CountDrawn.l0
      repeat' first
      | (with_reducible exact ih0 _ _ _ _)
      | (with_reducible exact impl_allLoops.mono _ _)
      | (with_reducible exact impl_canBeDrawn.mono _ _)
      | (with_reducible exact LeO.refl _)
      | (with_reducible exact LeO.none _)
      | (with_reducible refine LeO.ite ?_ ?_)
      | (with_reducible refine LeO.bind ?_ (fun _ => ?_))
      | exact ih0 _ _ _ _
      | exact impl_allLoops.mono _ _
      | exact impl_canBeDrawn.mono _ _
      | exact LeO.none _
      | refine LeO.ite ?_ ?_
      | refine LeO.bind ?_ (fun _ => ?_)
theorem impl_CountDrawn.mono : ∀ a0 k, LeO (impl_CountDrawn.f k a0) (impl_CountDrawn.f (k + 1) a0) := by
  intro a0 k
  have ih0 := impl_CountDrawn.mono_l k
  unfold impl_CountDrawn.f
  repeat' first
      | (with_reducible exact ih0 _ _ _ _)
      | (with_reducible exact impl_allLoops.mono _ _)
      | (with_reducible exact impl_canBeDrawn.mono _ _)
      | (with_reducible exact LeO.refl _)
      | (with_reducible exact LeO.none _)
      | (with_reducible refine LeO.ite ?_ ?_)
      | (with_reducible refine LeO.bind ?_ (fun _ => ?_))
      | exact ih0 _ _ _ _
      | exact impl_allLoops.mono _ _
      | exact impl_canBeDrawn.mono _ _
      | exact LeO.none _
      | refine LeO.ite ?_ ?_
      | refine LeO.bind ?_ (fun _ => ?_)
set_option maxHeartbeats 8000000 in
set_option maxRecDepth 100000 in
theorem impl_CountDrawn.calls (k : Nat) (a0 : Int) (r1 : Int) (r2 : Bool) (w : World) (h : impl_CountDrawn.f k a0 = some (r1, r2)) :
    Calls Try.prog 5 #[.int .i64 a0] w fun e w' => e = .returned (.tuple #[.int .i64 r1, .bool r2]) ∧ Below w.heap.size w w' := by
  have HB := Aside0.mk (Below.refl w.heap.size w)
  have H : ((impl_within.f a0 0 4).bind fun t152 => (if t152 = true then ((impl_allLoops.f k a0).bind fun t153 => (impl_CountDrawn.l0 k 0 t153 (t153.length : Int) 0)) else (some (0, false)))) = some (r1, r2) := h
  clear h
  replace H := Option.bind_eq_some_iff.mp H
  obtain ⟨t152, A20, H⟩ := H
  replace H : (if t152 = true then ((impl_allLoops.f k a0).bind fun t153 => (impl_CountDrawn.l0 k 0 t153 (t153.length : Int) 0)) else (some (0, false))) = some (r1, r2) := H
  have A2 := Aside0.mk A20
  clear A20
  by_cases c3 : t152 = true
  · subst c3
    have H1 : ((impl_allLoops.f k a0).bind fun t153 => (impl_CountDrawn.l0 k 0 t153 (t153.length : Int) 0)) = some (r1, r2) := by rw [if_pos rfl] at H; exact H
    clear H
    have H := H1
    clear H1
    replace H := Option.bind_eq_some_iff.mp H
    obtain ⟨t153, A40, H⟩ := H
    replace H : (impl_CountDrawn.l0 k 0 t153 (t153.length : Int) 0) = some (r1, r2) := H
    have A4 := Aside0.mk A40
    clear A40
    have H' := Aside0.mk H
    clear H
    go_enter Try.func5, Try.ntmps5
    go_wp2_with (first | ((with_reducible refine gate_callee (f := 8) rfl ?_); refine goesL_ (some 8) rfl rfl Try.func8 (by kernel_rfl) rfl #[.int .i64 a0, .int .i64 0, .int .i64 4] rfl (by (try simp only [List.map_toArray, List.map_cons, List.map_nil]); first | done | rfl | (simp only [List.length_drop, List.length_take]; rfl)) ?_; (with_reducible refine (impl_within.calls a0 0 4 true _ A2.out).mono ?_); rintro e w' ⟨rfl, ⟨nd, rfl⟩⟩; refine ⟨_, rfl, ?_⟩) | ((with_reducible refine gate_callee (f := 9) rfl ?_); refine goesL_ (some 11) rfl rfl Try.func9 (by kernel_rfl) rfl #[.int .i64 a0] rfl (by (try simp only [List.map_toArray, List.map_cons, List.map_nil]); first | done | rfl | (simp only [List.length_drop, List.length_take]; rfl)) ?_; (with_reducible refine (impl_allLoops.calls k a0 t153 _ A4.out).mono ?_); rintro e w5 ⟨v154, rfl, ho0, hb⟩; refine ⟨_, rfl, ?_⟩; have n0_ := Aside0.mk (Kd.R_lower ho0 (below_size (by repeat (first | (with_reducible first | exact HB.out | apply below_alloc | apply pw_below_drewN | apply below_drew1) | exact HB.out)))); have n1_ := Aside0.mk (below_step (by repeat (first | (with_reducible first | exact HB.out | apply below_alloc | apply pw_below_drewN | apply below_drew1) | exact HB.out)) hb); clear HB; have HO155 := n0_; have HB := n1_; clear n0_ n1_; (try clear hb); (try clear hb2); (try clear hk); (try clear hi); (try clear ho0); obtain ⟨Ao6, co6, eo6⟩ := Kd.R_slice HO155.out; subst eo6))
    go_loopg [4, 13] k (fun kq v4 v13 w' => ∃ (x4_1 : Int) (x13_1 : Int), v4 = .int .i64 x4_1 ∧ v13 = .int .i64 x13_1 ∧ Aside0 (impl_CountDrawn.l0 kq x4_1 t153 (t153.length : Int) x13_1 = some (r1, r2)) ∧ Aside0 (kq ≤ k) ∧ Aside0 (Kd.R Kd.string 9 w' w.heap.size (fun _ => True) (.slice Ao6 t153.length co6) t153) ∧ Aside0 (Below w.heap.size w w'))
    case atStart => exact ⟨(0), (0), (by first | rfl | (simp; done) | (simp [*]; done)), (by first | rfl | (simp; done) | (simp [*]; done)), H', ⟨Nat.le_refl _⟩, ⟨by (with_reducible repeat (first | apply Kd.R_alloc | apply Kd.R_drewN | apply Kd.R_drew)); exact HO155.out⟩, ⟨by repeat (first | (with_reducible first | exact HB.out | apply below_alloc | apply pw_below_drewN | apply below_drew1) | exact HB.out)⟩⟩
    case round =>
      clear H'
      try clear p2
      try clear c3
      try clear c5
      obtain ⟨x4_1, x13_1, rfl, rfl, HA, HK1, HO_11, HB⟩ := hrel
      cases gk with
      | zero => exact absurd HA.out (by simp [impl_CountDrawn.l0])
      | succ k1 =>
        have H := HA.out
        clear HA
        simp only [impl_CountDrawn.l0] at H
        by_cases c7 : x13_1 < (t153.length : Int)
        · rw [if_pos c7] at H
          have c7b0 : decide (x13_1 < (t153.length : Int)) = true := decide_eq_true c7
          clear c7
          by_cases c8 : 0 ≤ x13_1
          · rw [if_pos c8] at H
            have c8b0 : decide (0 ≤ x13_1) = true := decide_eq_true c8
            clear c8
            by_cases c9 : x13_1 < (t153.length : Int)
            · rw [if_pos c9] at H
              have c9b0 : decide (x13_1 < (t153.length : Int)) = true := decide_eq_true c9
              clear c9
              replace H := Option.bind_eq_some_iff.mp H
              obtain ⟨t157, A100, H⟩ := H
              replace H : (if t157 = true then (impl_CountDrawn.l0 k1 (wrap64 (x4_1 + 1)) t153 (t153.length : Int) (wrap64 (x13_1 + 1))) else (impl_CountDrawn.l0 k1 x4_1 t153 (t153.length : Int) (wrap64 (x13_1 + 1)))) = some (r1, r2) := H
              have A10 := Aside0.mk A100
              clear A100
              by_cases c11 : t157 = true
              · subst c11
                have H1 : (impl_CountDrawn.l0 k1 (wrap64 (x4_1 + 1)) t153 (t153.length : Int) (wrap64 (x13_1 + 1))) = some (r1, r2) := by rw [if_pos rfl] at H; exact H
                clear H
                have H := H1
                clear H1
                have H' := Aside0.mk H
                clear H
                have p156 : 0 ≤ (x13_1 : Int) := of_decide_eq_true (by first | (with_reducible assumption) | assumption)
                have q156 : x13_1 < (t153.length : Int) := of_decide_eq_true (by first | (with_reducible assumption) | assumption)
                obtain ⟨ad156, e156, hx156_0⟩ := Kd.at_string (Kd.R_reads' HO_11.out).2.2 x13_1 p156 q156
                cases e156
                replace p156 := eq_true p156
                replace q156 := eq_true q156
                go_wp2_with (first | ((with_reducible refine gate_callee (f := 10) rfl ?_); refine goesL_ (some 18) rfl rfl Try.func10 (by kernel_rfl) rfl #[.string (rdOf ByteArray.empty t153 x13_1)] rfl (by (try simp only [List.map_toArray, List.map_cons, List.map_nil]); first | done | rfl | (simp only [List.length_drop, List.length_take]; rfl)) ?_; (with_reducible refine (impl_canBeDrawn.calls k1 (rdOf ByteArray.empty t153 x13_1) true _ A10.out).mono ?_); rintro e w12 ⟨rfl, hb⟩; refine ⟨_, rfl, ?_⟩; have n0_ := Aside0.mk (Kd.R_below (by (with_reducible repeat (first | apply Kd.R_alloc | apply Kd.R_drewN | apply Kd.R_drew)); exact HO_11.out) hb); have n1_ := Aside0.mk (below_step (by repeat (first | (with_reducible first | exact HB.out | apply below_alloc | apply pw_below_drewN | apply below_drew1) | exact HB.out)) hb); clear HO_11; clear HB; have HO_11 := n0_; have HB := n1_; clear n0_ n1_; (try clear hb); (try clear hb2); (try clear hk); (try clear hi)))
                go_roundg k1
                case measure => have := HK1.out; omega
                case rel => exact ⟨(wrap64 (x4_1 + 1)), (wrap64 (x13_1 + 1)), (by first | rfl | (simp; done) | (simp [*]; done)), (by first | rfl | (simp; done) | (simp [*]; done)), H', ⟨by have := HK1.out; omega⟩, ⟨by (with_reducible repeat (first | apply Kd.R_alloc | apply Kd.R_drewN | apply Kd.R_drew)); exact HO_11.out⟩, ⟨by repeat (first | (with_reducible first | exact HB.out | apply below_alloc | apply pw_below_drewN | apply below_drew1) | exact HB.out)⟩⟩
              · replace c11 := Bool.eq_false_iff.mpr c11
                subst c11
                have H1 : (impl_CountDrawn.l0 k1 x4_1 t153 (t153.length : Int) (wrap64 (x13_1 + 1))) = some (r1, r2) := by rw [if_neg (show ¬ (false = true) by decide)] at H; exact H
                clear H
                have H := H1
                clear H1
                have H' := Aside0.mk H
                clear H
                have p156 : 0 ≤ (x13_1 : Int) := of_decide_eq_true (by first | (with_reducible assumption) | assumption)
                have q156 : x13_1 < (t153.length : Int) := of_decide_eq_true (by first | (with_reducible assumption) | assumption)
                obtain ⟨ad156, e156, hx156_0⟩ := Kd.at_string (Kd.R_reads' HO_11.out).2.2 x13_1 p156 q156
                cases e156
                replace p156 := eq_true p156
                replace q156 := eq_true q156
                go_wp2_with (first | ((with_reducible refine gate_callee (f := 10) rfl ?_); refine goesL_ (some 18) rfl rfl Try.func10 (by kernel_rfl) rfl #[.string (rdOf ByteArray.empty t153 x13_1)] rfl (by (try simp only [List.map_toArray, List.map_cons, List.map_nil]); first | done | rfl | (simp only [List.length_drop, List.length_take]; rfl)) ?_; (with_reducible refine (impl_canBeDrawn.calls k1 (rdOf ByteArray.empty t153 x13_1) false _ A10.out).mono ?_); rintro e w13 ⟨rfl, hb⟩; refine ⟨_, rfl, ?_⟩; have n0_ := Aside0.mk (Kd.R_below (by (with_reducible repeat (first | apply Kd.R_alloc | apply Kd.R_drewN | apply Kd.R_drew)); exact HO_11.out) hb); have n1_ := Aside0.mk (below_step (by repeat (first | (with_reducible first | exact HB.out | apply below_alloc | apply pw_below_drewN | apply below_drew1) | exact HB.out)) hb); clear HO_11; clear HB; have HO_11 := n0_; have HB := n1_; clear n0_ n1_; (try clear hb); (try clear hb2); (try clear hk); (try clear hi)))
                go_roundg k1
                case measure => have := HK1.out; omega
                case rel => exact ⟨(x4_1), (wrap64 (x13_1 + 1)), (by first | rfl | (simp; done) | (simp [*]; done)), (by first | rfl | (simp; done) | (simp [*]; done)), H', ⟨by have := HK1.out; omega⟩, ⟨by (with_reducible repeat (first | apply Kd.R_alloc | apply Kd.R_drewN | apply Kd.R_drew)); exact HO_11.out⟩, ⟨by repeat (first | (with_reducible first | exact HB.out | apply below_alloc | apply pw_below_drewN | apply below_drew1) | exact HB.out)⟩⟩
            · rw [if_neg c9] at H
              exact absurd H (by simp)
          · rw [if_neg c8] at H
            exact absurd H (by simp)
        · rw [if_neg c7] at H
          have c7b0 : decide (x13_1 < (t153.length : Int)) = false := decide_eq_false c7
          clear c7
          simp only [Option.some.injEq, Prod.mk.injEq] at H
          obtain ⟨rfl, rfl⟩ := H
          go_wp2
          go_ret2
          exact ⟨by first | rfl | (simp [errW_none, errW_some] <;> rfl) | (simp [*, errW_none, errW_some] <;> rfl), by repeat (first | (with_reducible first | exact HB.out | apply below_alloc | apply pw_below_drewN | apply below_drew1) | exact HB.out)⟩
  · replace c3 := Bool.eq_false_iff.mpr c3
    subst c3
    have H1 : (some (0, false)) = some (r1, r2) := by rw [if_neg (show ¬ (false = true) by decide)] at H; exact H
    clear H
    have H := H1
    clear H1
    simp only [Option.some.injEq, Prod.mk.injEq] at H
    obtain ⟨rfl, rfl⟩ := H
    go_enter Try.func5, Try.ntmps5
    go_wp2_with (first | ((with_reducible refine gate_callee (f := 8) rfl ?_); refine goesL_ (some 8) rfl rfl Try.func8 (by kernel_rfl) rfl #[.int .i64 a0, .int .i64 0, .int .i64 4] rfl (by (try simp only [List.map_toArray, List.map_cons, List.map_nil]); first | done | rfl | (simp only [List.length_drop, List.length_take]; rfl)) ?_; (with_reducible refine (impl_within.calls a0 0 4 false _ A2.out).mono ?_); rintro e w' ⟨rfl, ⟨nd, rfl⟩⟩; refine ⟨_, rfl, ?_⟩))
    go_ret2
    exact ⟨by first | rfl | (simp [errW_none, errW_some] <;> rfl) | (simp [*, errW_none, errW_some] <;> rfl), by repeat (first | (with_reducible first | exact HB.out | apply below_alloc | apply pw_below_drewN | apply below_drew1) | exact HB.out)⟩

end Go.Proofs.Ytgdpeabbmbclbaa.Pr

-- Written by a program for this claim.
namespace Go.Proofs.Ytgdpeabbmbclbaa.Pr
open Go.RowKit Go.Proofs.YtgdpeabbmbclbaaW.PrintWords Go.Proofs.YtgdpeabbmbclbaaW.PrintLast Go.Proofs.YtgdpeabbmbclbaaW.PrintMore
attribute [local go_sem] max2_int min2_int max_two min_two max_three min_three max_four min_four   -- for this text's walks alone
set_option linter.unusedVariables false
set_option linter.unusedSimpArgs false

/-! ### laws_FnExactCountDrawn: function 3 -/
def laws_FnExactCountDrawn.f (k : Nat) (a0 : Int) : Option (Bool) := (spec_CountDrawn.f k a0).bind fun bt158 => ((impl_CountDrawn.f k a0).bind fun bt160 => (if bt160.1 = bt158.1 then (if (bt160.2 != bt158.2) = true then (some false) else (some true)) else (some false)))
theorem laws_FnExactCountDrawn.mono : ∀ a0 k, LeO (laws_FnExactCountDrawn.f k a0) (laws_FnExactCountDrawn.f (k + 1) a0) := by
  intro a0 k
  unfold laws_FnExactCountDrawn.f
  repeat' first
      | (with_reducible exact impl_CountDrawn.mono _ _)
      | (with_reducible exact spec_CountDrawn.mono _ _)
      | (with_reducible exact LeO.refl _)
      | (with_reducible exact LeO.none _)
      | (with_reducible refine LeO.ite ?_ ?_)
      | (with_reducible refine LeO.bind ?_ (fun _ => ?_))
      | exact impl_CountDrawn.mono _ _
      | exact spec_CountDrawn.mono _ _
      | exact LeO.none _
      | refine LeO.ite ?_ ?_
      | refine LeO.bind ?_ (fun _ => ?_)
set_option maxHeartbeats 8000000 in
set_option maxRecDepth 100000 in
theorem laws_FnExactCountDrawn.calls (k : Nat) (a0 : Int) (r : Bool) (w : World) (h : laws_FnExactCountDrawn.f k a0 = some r) :
    Calls Try.prog 3 #[.int .i64 a0] w fun e w' => e = .returned (.bool r) ∧ Below w.heap.size w w' := by
  have HB := Aside0.mk (Below.refl w.heap.size w)
  have H : ((spec_CountDrawn.f k a0).bind fun bt158 => ((impl_CountDrawn.f k a0).bind fun bt160 => (if bt160.1 = bt158.1 then (if (bt160.2 != bt158.2) = true then (some false) else (some true)) else (some false)))) = some r := h
  clear h
  replace H := Option.bind_eq_some_iff.mp H
  obtain ⟨⟨t158, t159⟩, A20, H⟩ := H
  replace H : ((impl_CountDrawn.f k a0).bind fun bt160 => (if bt160.1 = t158 then (if (bt160.2 != t159) = true then (some false) else (some true)) else (some false))) = some r := H
  have A2 := Aside0.mk A20
  clear A20
  replace H := Option.bind_eq_some_iff.mp H
  obtain ⟨⟨t160, t161⟩, A30, H⟩ := H
  replace H : (if t160 = t158 then (if (t161 != t159) = true then (some false) else (some true)) else (some false)) = some r := H
  have A3 := Aside0.mk A30
  clear A30
  by_cases c4 : t160 = t158
  · rw [if_pos c4] at H
    have c4b0 : (t160 == t158) = true := beq_iff_eq.mpr c4
    have c4b1 : (t160 != t158) = false := bne_eq_false_iff_eq.mpr c4
    clear c4
    by_cases c5 : (t161 != t159) = true
    · rw [if_pos c5] at H
      have c5b0 : (t161 != t159) = true := c5
      (try (have c5b1 : decide (t161 = t159) = false := by simpa using c5))
      (try (have c5b2 : (t161 == t159) = false := by simpa using c5))
      (try (have c5b3 : ¬ (t161 = t159) := by simpa using c5))
      clear c5
      obtain rfl := Option.some.inj H
      go_enter Try.func3, Try.ntmps3
      go_wp2_with (first | ((with_reducible refine gate_callee (f := 4) rfl ?_); refine goesL_ (some 9) rfl rfl Try.func4 (by kernel_rfl) rfl #[.int .i64 a0] rfl (by (try simp only [List.map_toArray, List.map_cons, List.map_nil]); first | done | rfl | (simp only [List.length_drop, List.length_take]; rfl)) ?_; (with_reducible refine (spec_CountDrawn.calls k a0 t158 t159 _ A2.out).mono ?_); rintro e w6 ⟨rfl, hb⟩; refine ⟨_, rfl, ?_⟩; have n0_ := Aside0.mk (below_step (by repeat (first | (with_reducible first | exact HB.out | apply below_alloc | apply pw_below_drewN | apply below_drew1) | exact HB.out)) hb); clear HB; have HB := n0_; clear n0_; (try clear hb); (try clear hb2); (try clear hk); (try clear hi)) | ((with_reducible refine gate_callee (f := 5) rfl ?_); refine goesL_ (some 14) rfl rfl Try.func5 (by kernel_rfl) rfl #[.int .i64 a0] rfl (by (try simp only [List.map_toArray, List.map_cons, List.map_nil]); first | done | rfl | (simp only [List.length_drop, List.length_take]; rfl)) ?_; (with_reducible refine (impl_CountDrawn.calls k a0 t160 t161 _ A3.out).mono ?_); rintro e w7 ⟨rfl, hb⟩; refine ⟨_, rfl, ?_⟩; have n0_ := Aside0.mk (below_step (by repeat (first | (with_reducible first | exact HB.out | apply below_alloc | apply pw_below_drewN | apply below_drew1) | exact HB.out)) hb); clear HB; have HB := n0_; clear n0_; (try clear hb); (try clear hb2); (try clear hk); (try clear hi)))
      go_ret
      exact ⟨by first | rfl | (simp [errW_none, errW_some] <;> rfl) | (simp [*, errW_none, errW_some] <;> rfl), by repeat (first | (with_reducible first | exact HB.out | apply below_alloc | apply pw_below_drewN | apply below_drew1) | exact HB.out)⟩
    · rw [if_neg c5] at H
      have c5b0 : (t161 != t159) = false := by simpa using c5
      (try (have c5b1 : decide (t161 = t159) = true := by simpa using c5))
      (try (have c5b2 : (t161 == t159) = true := by simpa using c5))
      clear c5
      obtain rfl := Option.some.inj H
      go_enter Try.func3, Try.ntmps3
      go_wp2_with (first | ((with_reducible refine gate_callee (f := 4) rfl ?_); refine goesL_ (some 9) rfl rfl Try.func4 (by kernel_rfl) rfl #[.int .i64 a0] rfl (by (try simp only [List.map_toArray, List.map_cons, List.map_nil]); first | done | rfl | (simp only [List.length_drop, List.length_take]; rfl)) ?_; (with_reducible refine (spec_CountDrawn.calls k a0 t158 t159 _ A2.out).mono ?_); rintro e w8 ⟨rfl, hb⟩; refine ⟨_, rfl, ?_⟩; have n0_ := Aside0.mk (below_step (by repeat (first | (with_reducible first | exact HB.out | apply below_alloc | apply pw_below_drewN | apply below_drew1) | exact HB.out)) hb); clear HB; have HB := n0_; clear n0_; (try clear hb); (try clear hb2); (try clear hk); (try clear hi)) | ((with_reducible refine gate_callee (f := 5) rfl ?_); refine goesL_ (some 14) rfl rfl Try.func5 (by kernel_rfl) rfl #[.int .i64 a0] rfl (by (try simp only [List.map_toArray, List.map_cons, List.map_nil]); first | done | rfl | (simp only [List.length_drop, List.length_take]; rfl)) ?_; (with_reducible refine (impl_CountDrawn.calls k a0 t160 t161 _ A3.out).mono ?_); rintro e w9 ⟨rfl, hb⟩; refine ⟨_, rfl, ?_⟩; have n0_ := Aside0.mk (below_step (by repeat (first | (with_reducible first | exact HB.out | apply below_alloc | apply pw_below_drewN | apply below_drew1) | exact HB.out)) hb); clear HB; have HB := n0_; clear n0_; (try clear hb); (try clear hb2); (try clear hk); (try clear hi)))
      go_ret
      exact ⟨by first | rfl | (simp [errW_none, errW_some] <;> rfl) | (simp [*, errW_none, errW_some] <;> rfl), by repeat (first | (with_reducible first | exact HB.out | apply below_alloc | apply pw_below_drewN | apply below_drew1) | exact HB.out)⟩
  · rw [if_neg c4] at H
    have c4b0 : (t160 == t158) = false := beq_eq_false_iff_ne.mpr c4
    have c4b1 : (t160 != t158) = true := bne_iff_ne.mpr c4
    obtain rfl := Option.some.inj H
    go_enter Try.func3, Try.ntmps3
    go_wp2_with (first | ((with_reducible refine gate_callee (f := 4) rfl ?_); refine goesL_ (some 9) rfl rfl Try.func4 (by kernel_rfl) rfl #[.int .i64 a0] rfl (by (try simp only [List.map_toArray, List.map_cons, List.map_nil]); first | done | rfl | (simp only [List.length_drop, List.length_take]; rfl)) ?_; (with_reducible refine (spec_CountDrawn.calls k a0 t158 t159 _ A2.out).mono ?_); rintro e w10 ⟨rfl, hb⟩; refine ⟨_, rfl, ?_⟩; have n0_ := Aside0.mk (below_step (by repeat (first | (with_reducible first | exact HB.out | apply below_alloc | apply pw_below_drewN | apply below_drew1) | exact HB.out)) hb); clear HB; have HB := n0_; clear n0_; (try clear hb); (try clear hb2); (try clear hk); (try clear hi)) | ((with_reducible refine gate_callee (f := 5) rfl ?_); refine goesL_ (some 14) rfl rfl Try.func5 (by kernel_rfl) rfl #[.int .i64 a0] rfl (by (try simp only [List.map_toArray, List.map_cons, List.map_nil]); first | done | rfl | (simp only [List.length_drop, List.length_take]; rfl)) ?_; (with_reducible refine (impl_CountDrawn.calls k a0 t160 t161 _ A3.out).mono ?_); rintro e w11 ⟨rfl, hb⟩; refine ⟨_, rfl, ?_⟩; have n0_ := Aside0.mk (below_step (by repeat (first | (with_reducible first | exact HB.out | apply below_alloc | apply pw_below_drewN | apply below_drew1) | exact HB.out)) hb); clear HB; have HB := n0_; clear n0_; (try clear hb); (try clear hb2); (try clear hk); (try clear hi)))
    go_ret
    exact ⟨by first | rfl | (simp [errW_none, errW_some] <;> rfl) | (simp [*, errW_none, errW_some] <;> rfl), by repeat (first | (with_reducible first | exact HB.out | apply below_alloc | apply pw_below_drewN | apply below_drew1) | exact HB.out)⟩

/-- THE ONE PURE STATEMENT of laws_FnExactCountDrawn: yours. -/
def laws_FnExactCountDrawn.Pure : Prop := ∀ (a0 : Int), (Lit.int .i64 a0).wf = true → ∃ k, laws_FnExactCountDrawn.f k a0 = some true
theorem laws_FnExactCountDrawn.walk (P : laws_FnExactCountDrawn.Pure) (a0 : Int) (w : World) (w0 : (Lit.int .i64 a0).wf = true) :
    Calls Try.prog 3 #[.int .i64 a0] w fun e w' => e = .returned (.bool true) ∧ Below w.heap.size w w' := by
  obtain ⟨k, h⟩ := P a0 w0
  refine (laws_FnExactCountDrawn.calls k a0 true w h).mono ?_
  rintro e w' ⟨rfl, hd⟩
  exact ⟨rfl, hd⟩

end Go.Proofs.Ytgdpeabbmbclbaa.Pr

/- CountDrawn: the plain law: five numbers of crossings, each reckoned out. -/
namespace Go.Proofs.Ytgdpeabbmbclbaa.Pure
open Go.RowKit Go.Proofs.Ytgdpeabbmbclbaa.Pr Go.Proofs.YtgdpeabbmbclbaaW.PrintWords Go.Proofs.YtgdpeabbmbclbaaW.PrintLast
set_option linter.unusedVariables false
set_option linter.unusedSimpArgs false

theorem few : ∀ n : Fin 4, laws_FnExactCountDrawn.f 250 (n.val : Int) = some true := by decide +kernel
theorem four : laws_FnExactCountDrawn.f 250 4 = some true := by decide +kernel
theorem none_ (n : Int) (h : ¬ (0 ≤ n ∧ n ≤ 4)) : laws_FnExactCountDrawn.f 1 n = some true := by
  have e1 : impl_within.f n 0 4 = some false := by
    unfold impl_within.f
    by_cases h0 : n ≥ 0
    · rw [if_pos h0, decide_eq_false (by omega)]
    · rw [if_neg h0]
  have e2 : spec_l1In.f n 0 4 = some false := by
    unfold spec_l1In.f
    by_cases h0 : n ≥ 0
    · rw [if_pos h0, decide_eq_false (by omega)]
    · rw [if_neg h0]
  unfold laws_FnExactCountDrawn.f spec_CountDrawn.f impl_CountDrawn.f spec_AllLoops.f
  rw [e1, e2]
  simp
theorem FnExactCountDrawn : ∀ (a0 : Int), (Lit.int .i64 a0).wf = true → ∃ k, laws_FnExactCountDrawn.f k a0 = some true := by
  intro n _
  by_cases h : 0 ≤ n ∧ n ≤ 4
  · by_cases h4 : n = 4
    · exact ⟨250, by rw [h4]; exact four⟩
    · have e := few ⟨n.toNat, by omega⟩
      rw [show ((⟨n.toNat, by omega⟩ : Fin 4).val : Int) = n from Int.toNat_of_nonneg h.1] at e
      exact ⟨250, e⟩
  · exact ⟨1, none_ n h⟩
end Go.Proofs.Ytgdpeabbmbclbaa.Pure

/- Shared steps of the rows: an argument that is a slice of structs of whole numbers, read as a list of lists of numbers. -/
namespace Go.Proofs.Ytgdpeabbmbclbaa.RowA
open Go.ChangeShapes Go.WideShapes Go.Deep Go.RowKit Go.Proofs.YtgdpeabbmbclbaaW.PrintWords
section
variable {H : Type} {enc : TypeId × Value → H} {P : Program} {w : World} {base : Nat} {spare : Nat → Bool} {held : Bool}

/-- A slice of structs whose fields are one cell each: nil, or an address with, for each element and each field, the cell and the field's own reading. -/
theorem open_cells {t e : TypeId} {fs : Array Field} {fuel : Nat} {cs : List Value} {x : DataW H × List MemPlace} (ht : P.underlying t = some (.slice e)) (he : P.underlying e = some (.struct fs))
    (hone : oneCellFields P fs = true) (hC : P.cellsOf e = fs.size) (h : DataW.trod enc P w base spare held fuel t cs = some x) :
    cs = [.slice none 0 0] ∨
    ∃ (a : Addr) (len cap : Nat), cs = [.slice (some a) len cap] ∧ len ≤ cap ∧ cap ≤ maxLen ∧
      ∀ i, i < len → ∃ n, ∀ (j : Nat) (f : Field), fs[j]? = some f → ∃ (v : Value) (y : DataW H × List MemPlace), w.cell? (a.add (i * fs.size + j)) = some v ∧ DataW.trod enc P w base spare held n f.type [v] = some y := by
  rcases open_slice ht h with h0 | ⟨a, len, cap, m, n, D, Pl, hcs, hb, hl, hm, hmm, hx, hi⟩
  · exact .inl h0.1
  · refine .inr ⟨a, len, cap, hcs, hl, hm, fun i hil => ?_⟩
    have him : i < m := by
      rw [hmm]
      split
      · omega
      · exact hil
    obtain ⟨cs', hc, ht'⟩ := hi i him
    rw [hC] at hc
    obtain ⟨ys, n', hn', hy, hlen, hyl, hf⟩ := DataW.trod_struct he ht'
    obtain ⟨_, hcl, hat⟩ := World.cells?_some hc
    refine ⟨n', fun j f hj => ?_⟩
    obtain ⟨ho, hk⟩ := hone_of hone j f hj
    have hjl : j < fs.size := (Array.getElem?_eq_some_iff.1 hj).1
    have hcell := hat j hjl
    have hv : cs'[j]? = some (cs'[j]'(by omega)) := List.getElem?_eq_getElem (by omega)
    have h1 := hf j f hj
    rw [ho, hk] at h1
    have hone' : (cs'.drop j).take 1 = [cs'[j]'(by omega)] := by
      rw [List.drop_eq_getElem_cons (by omega)]
      rfl
    rw [hone'] at h1
    have hys : ys[j]? = some (ys[j]'(by omega)) := List.getElem?_eq_getElem (by omega)
    refine ⟨_, _, ?_, h1.trans hys⟩
    rw [← Go.Deep.add_add, hcell, hv]

/-- One whole number's reading. -/
theorem read_i64 {t : TypeId} {n : Nat} {v : Value} {y : DataW H × List MemPlace} (hu : P.underlying t = some (.int .i64)) (h : DataW.trod enc P w base spare held n t [v] = some y) :
    ∃ z : Int, v = .int .i64 z ∧ (Lit.int .i64 z).wf = true := by
  obtain ⟨z, hz, _, hw⟩ := DataW.trod_int hu h
  simp at hz
  exact ⟨z, hz, hw⟩

/-- A slice of structs of m whole numbers, as it is handed over: the numbers by element and field. -/
theorem open_nums {t e : TypeId} {fs : Array Field} {a : Option Addr} {len cap : Nat} {d : DataW H} {ps : List MemPlace} (ht : P.underlying t = some (.slice e)) (he : P.underlying e = some (.struct fs))
    (hone : oneCellFields P fs = true) (hC : P.cellsOf e = fs.size) (hi : ∀ (j : Nat) (f : Field), fs[j]? = some f → P.underlying f.type = some (.int .i64))
    (h : DataW.Trod enc P w base spare held t (.slice a len cap) d ps) :
    len ≤ cap ∧ len ≤ maxLen ∧ ∃ z : Nat → Nat → Int, (∀ i j, i < len → j < fs.size → (Lit.int .i64 (z i j)).wf = true) ∧
      (0 < len → ∃ ad, a = some ad ∧ ∀ i j, i < len → j < fs.size → w.cell? (ad.add (i * fs.size + j)) = some (.int .i64 (z i j))) := by
  obtain ⟨fuel, hf⟩ := h
  rcases open_cells ht he hone hC hf with hcs | ⟨x, l, c, hcs, hl, hm, hcell⟩
  · simp [Value.cells] at hcs
    obtain ⟨rfl, rfl, rfl⟩ := hcs
    exact ⟨Nat.le_refl _, Nat.zero_le _, fun _ _ => 0, fun i j h => absurd h (Nat.not_lt_zero _), fun h => absurd h (Nat.not_lt_zero _)⟩
  · simp [Value.cells] at hcs
    obtain ⟨rfl, rfl, rfl⟩ := hcs
    refine ⟨hl, Nat.le_trans hl hm, ?_⟩
    have hz : ∀ i j, ∃ z : Int, i < len → j < fs.size → w.cell? (x.add (i * fs.size + j)) = some (.int .i64 z) ∧ (Lit.int .i64 z).wf = true := by
      intro i j
      by_cases h1 : i < len
      · by_cases h2 : j < fs.size
        · obtain ⟨n, hn⟩ := hcell i h1
          obtain ⟨v, y, hv, hy⟩ := hn j fs[j] (Array.getElem?_eq_getElem h2)
          obtain ⟨z, rfl, hw⟩ := read_i64 (hi j fs[j] (Array.getElem?_eq_getElem h2)) hy
          exact ⟨z, fun _ _ => ⟨hv, hw⟩⟩
        · exact ⟨0, fun _ h => absurd h h2⟩
      · exact ⟨0, fun h _ => absurd h h1⟩
    exact ⟨fun i j => (hz i j).choose, fun i j h1 h2 => ((hz i j).choose_spec h1 h2).2, fun _ => ⟨x, rfl, fun i j h1 h2 => ((hz i j).choose_spec h1 h2).1⟩⟩
/-- The same, of one reading. -/
theorem open_nums_at {t e : TypeId} {fs : Array Field} {a : Option Addr} {len cap fuel : Nat} {x : DataW H × List MemPlace} (ht : P.underlying t = some (.slice e)) (he : P.underlying e = some (.struct fs))
    (hone : oneCellFields P fs = true) (hC : P.cellsOf e = fs.size) (hi : ∀ (j : Nat) (f : Field), fs[j]? = some f → P.underlying f.type = some (.int .i64))
    (hf : DataW.trod enc P w base spare held fuel t [.slice a len cap] = some x) :
    len ≤ cap ∧ len ≤ maxLen ∧ ∃ z : Nat → Nat → Int, (∀ i j, i < len → j < fs.size → (Lit.int .i64 (z i j)).wf = true) ∧
      (0 < len → ∃ ad, a = some ad ∧ ∀ i j, i < len → j < fs.size → w.cell? (ad.add (i * fs.size + j)) = some (.int .i64 (z i j))) :=
  open_nums (d := x.1) (ps := x.2) ht he hone hC hi ⟨fuel, by simpa [Value.cells] using hf⟩

/-- A struct of one slice. -/
theorem open_one {r : Reach} {b0 : Nat} {t e : TypeId} {f0 : Field} {v : Value} {d : DataW H} {p : List MemPlace} (hs : P.underlying t = some (.struct #[f0])) (hf0 : P.underlying f0.type = some (.slice e)) (hone : oneCellFields P #[f0] = true) (hC : P.cellsOf t = 1)
    (hv : Value.okWide P w r b0 t v) (h : DataW.Trod enc P w base spare held t v d p) :
    ∃ (a : Option Addr) (len cap : Nat) (y : DataW H × List MemPlace) (n : Nat), v = .agg #[.slice a len cap] ∧ DataW.trod enc P w base spare held n f0.type [.slice a len cap] = some y := by
  obtain ⟨cs, rfl, hsz⟩ := okWide_struct hs hv
  rw [hC] at hsz
  obtain ⟨c0, rfl⟩ : ∃ c, cs = #[c] := Array.size_eq_one_iff.mp hsz
  obtain ⟨fuel, hf⟩ := h
  obtain ⟨ys, n', hn', hy, hlen, hyl, hg⟩ := DataW.trod_struct hs hf
  obtain ⟨o0, k0⟩ := hone_of hone 0 f0 rfl
  have h1 := hg 0 f0 rfl
  rw [o0, k0] at h1
  have hv1 : (List.drop 0 (Value.agg #[c0]).cells.toList).take 1 = [c0] := rfl
  have h2 : DataW.trod enc P w base spare held n' f0.type [c0] = ys[0]? := h1
  have hys : ys[0]? = some (ys[0]'(by rw [hyl]; exact Nat.zero_lt_one)) := List.getElem?_eq_getElem _
  rw [hys] at h2
  rcases open_slice hf0 h2 with h0 | ⟨a, len, cap, m, n, D, Pl, hcs, _⟩
  · have := h0.1
    simp at this
    subst this
    exact ⟨none, 0, 0, _, n', rfl, h2⟩
  · simp at hcs
    subst hcs
    exact ⟨some a, len, cap, _, n', rfl, h2⟩
/-- A desk: a struct of two whole numbers, a whole number and a text. -/
theorem open_desk {r : Reach} {b0 : Nat} {t : TypeId} {F0 F1 F2 G0 G1 : Field} {v : Value} {d : DataW H} {p : List MemPlace} (hs : P.underlying t = some (.struct #[F0, F1, F2])) (hs0 : P.underlying F0.type = some (.struct #[G0, G1]))
    (g0 : P.underlying G0.type = some (.int .i64)) (g1 : P.underlying G1.type = some (.int .i64)) (f1 : P.underlying F1.type = some (.int .i64)) (f2 : P.underlying F2.type = some .string) (hone : oneCellFields P #[G0, G1] = true)
    (hC : (P.cellsOf t == 4 && F0.offset == 0 && P.cellsOf F0.type == 2 && F1.offset == 2 && P.cellsOf F1.type == 1 && F2.offset == 3 && P.cellsOf F2.type == 1) = true)
    (hv : Value.okWide P w r b0 t v) (h : DataW.Trod enc P w base spare held t v d p) :
    ∃ (x0 x1 x2 : Int) (s : ByteArray), v = .agg #[.int .i64 x0, .int .i64 x1, .int .i64 x2, .string s] ∧ (Lit.int .i64 x0).wf = true ∧ (Lit.int .i64 x1).wf = true ∧ (Lit.int .i64 x2).wf = true ∧ s.size ≤ maxLen := by
  simp only [Bool.and_eq_true, beq_iff_eq] at hC
  obtain ⟨⟨⟨⟨⟨⟨q0, q1⟩, q2⟩, q3⟩, q4⟩, q5⟩, q6⟩ := hC
  obtain ⟨cs, rfl, hsz⟩ := okWide_struct hs hv
  obtain ⟨l⟩ := cs
  have hl4 : l.length = 4 := hsz.trans q0
  obtain ⟨c0, c1, c2, c3, rfl⟩ : ∃ c0 c1 c2 c3, l = [c0, c1, c2, c3] := by
    match l, hl4 with
    | [c0, c1, c2, c3], _ => exact ⟨c0, c1, c2, c3, rfl⟩
  obtain ⟨fuel, hf⟩ := h
  obtain ⟨ys, n', hn', hy, hlen, hyl, hg⟩ := DataW.trod_struct hs hf
  have hyl3 : ys.length = 3 := hyl
  have k0 := hg 0 F0 rfl
  have k1 := hg 1 F1 rfl
  have k2 := hg 2 F2 rfl
  rw [q1, q2] at k0
  rw [q3, q4] at k1
  rw [q5, q6] at k2
  have k0' : DataW.trod enc P w base spare held n' F0.type [c0, c1] = ys[0]? := k0
  have k1' : DataW.trod enc P w base spare held n' F1.type [c2] = ys[1]? := k1
  have k2' : DataW.trod enc P w base spare held n' F2.type [c3] = ys[2]? := k2
  rw [List.getElem?_eq_getElem (show 0 < ys.length by omega)] at k0'
  rw [List.getElem?_eq_getElem (show 1 < ys.length by omega)] at k1'
  rw [List.getElem?_eq_getElem (show 2 < ys.length by omega)] at k2'
  obtain ⟨x2, rfl, w2⟩ := read_i64 f1 k1'
  obtain ⟨s, hs1, _, hs2⟩ := DataW.trod_string f2 k2'
  simp only [List.cons.injEq, and_true] at hs1
  subst hs1
  obtain ⟨zs, n2, _, _, _, hzl, hz⟩ := DataW.trod_struct hs0 k0'
  have hzl2 : zs.length = 2 := hzl
  obtain ⟨o0, u0⟩ := hone_of hone 0 G0 rfl
  obtain ⟨o1, u1⟩ := hone_of hone 1 G1 rfl
  have m0 := hz 0 G0 rfl
  have m1 := hz 1 G1 rfl
  rw [o0, u0] at m0
  rw [o1, u1] at m1
  have m0' : DataW.trod enc P w base spare held n2 G0.type [c0] = zs[0]? := m0
  have m1' : DataW.trod enc P w base spare held n2 G1.type [c1] = zs[1]? := m1
  rw [List.getElem?_eq_getElem (show 0 < zs.length by omega)] at m0'
  rw [List.getElem?_eq_getElem (show 1 < zs.length by omega)] at m1'
  obtain ⟨x0, rfl, w0⟩ := read_i64 g0 m0'
  obtain ⟨x1, rfl, w1⟩ := read_i64 g1 m1'
  exact ⟨x0, x1, x2, s, rfl, w0, w1, w2, hs2⟩
end
end Go.Proofs.Ytgdpeabbmbclbaa.RowA

/- The row of the law FnExactCountDrawn: The program's CountDrawn returns what the reference's returns, for all arguments. -/
namespace Go.Proofs.Ytgdpeabbmbclbaa.fnExactCountDrawn
open Go.ChangeShapes Go.WideShapes Go.ChangeAt Go.RowKit Go.Proofs.Ytgdpeabbmbclbaa.Pr Go.Proofs.YtgdpeabbmbclbaaW.PrintWords
open Go.ChangeMaps (open_string shut_string)
set_option linter.unusedVariables false
theorem own : ownKnob Try.prog.godebug = none := by kernel_rfl
set_option maxRecDepth 100000 in
theorem lifted (os : Os) (started : os.Started) (H : Type) (enc : TypeId × Value → H) :
    ReturnsInHanded {} Try.checked os 3 .any (Rows.fnExactCountDrawnSpec.pre6 enc Try.prog Try.f3 Rows.fnExactCountDrawnRow.domain false) (Rows.fnExactCountDrawnSpec.post enc Try.prog Try.f3 false true false false) := by
  refine returnsInHanded_of_change_sized (C := Try.checked) own started (by kernel_rfl) Try.func3
    (ChangeSpec.witness6 (enc := enc) (C := Try.checked) false ⟨#[], #[.int .i64 0], []⟩ 8 (by kernel_rfl) (by kernel_rfl) (by kernel_rfl) (by kernel_rfl)) ?_
  intro W base args ds gs before hval0 hW hcnd hsz0 _
  have hsz : (DataW.weightsEach Try.prog (Try.f3.params.toList ++ Rows.fnExactCountDrawnSpec.plain.varTypes Try.prog) (ds ++ gs)).all (· ≤ reachBytes) = true := hsz0
  have hval : ∀ (j : Nat) t v, Try.f3.params[j]? = some t → args[j]? = some v → Value.okWide Try.prog W .any base t v := hval0
  have hW' := hW
  obtain ⟨p, q, hA0, hV, rfl, hfz, hnd⟩ := hW
  have hA : DataW.TrodAll enc Try.prog W 0 (fun _ => true) true Try.f3.params.toList args.toList ds p := hA0
  rw [Try.params3] at hA hval hsz
  obtain ⟨v0, vs0, d0, ds0, p0, q0, hargs, rfl, rfl, h0, r0⟩ := trodAll_cons hA
  obtain ⟨rfl, rfl, rfl⟩ := trodAll_nil r0
  obtain rfl : args = #[v0] := by cases args; simp_all
  obtain ⟨rfl, rfl⟩ := trodVars_none hV
  obtain ⟨a0, rfl, rfl, rfl, w0⟩ := open_int Try.underlying3 (hval 0 3 v0 rfl rfl) h0
  clear hA0 hval0 hsz0 hsz
  obtain ⟨k, hk⟩ := Pure.FnExactCountDrawn a0 w0
  refine (laws_FnExactCountDrawn.calls k a0 true W  hk).mono fun e W' he => ?_
  obtain ⟨he, bel0⟩ := he
  have bel : Below W.heap.size W W' := bel0
  subst he
  exact ⟨_, rfl, _, _, _, [], _, [], hW', trodAll_mk1 (shut_bool Try.underlying4 _), (trodAll_cons_mk (shut_int Try.underlying3 w0) trodAll_mk0), rfl, bel.frame _, fun h => by cases h⟩
theorem over : Rows.fnExactCountDrawnRow.holds Try.pinned (OpenSpec.ofChange Rows.fnExactCountDrawnSpec) :=
  OpenClaim.holds_of_wide 3 Try.f3 rfl rfl rfl rfl rfl rfl rfl ⟨rfl, rfl, rfl, rfl, rfl⟩ rfl rfl rfl rfl rfl (by kernel_rfl) Try.func3 (by kernel_rfl)
    (of_decide_eq_true (by kernel_rfl)) (by unfold Func.isWrapper; first | (rw [if_pos (by decide +kernel)]; kernel_rfl) | (rw [if_neg (by decide +kernel)]; exact ⟨rfl, rfl⟩))
    (fun os started H enc _ => lifted os started H enc)
theorem proved : Rows.FnExactCountDrawnSaid := over
end Go.Proofs.Ytgdpeabbmbclbaa.fnExactCountDrawn
namespace Go.Proofs.Ytgdpeabbmbclbaa
/-- The row, under a short name, for the claim. -/
theorem fnExactCountDrawn_holds : Rows.FnExactCountDrawnSaid := fnExactCountDrawn.proved
#print axioms fnExactCountDrawn_holds
end Go.Proofs.Ytgdpeabbmbclbaa
