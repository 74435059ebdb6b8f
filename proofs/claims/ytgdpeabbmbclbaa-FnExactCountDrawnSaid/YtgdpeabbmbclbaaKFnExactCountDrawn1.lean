/- The program's CountDrawn returns what the reference's returns, for all arguments. (Part 2 of 3.) -/
import Derived.Test.YtgdpeabbmbclbaaProg
import Derived.Below
import Derived.Deep.Draws
import Derived.Deep.AppendLies
import Derived.Maps.AppendAt
import Derived.OwnWalk
import Derived.Laws.BytesArg
import Derived.Laws.MakeOwn
import Derived.Laws.OwnMore
import Derived.Deep.OwnRows
import Derived.Tactics
import Derived.Lib.ConvBytes
import Derived.Laws.Slices
import Derived.WalkKit
import Derived.KernelRfl
import Derived.RowKit3
import Derived.Deep.LoopGhost
import Derived.Deep.QuietTactic
import Derived.BigQuiet
import Derived.WideLaws
import Derived.Deep.DeepCutAuto
import Derived.Deep.CutBlock
import Derived.Deep.RegionHeld3
import Derived.Laws.Rows
import Derived.Lib.AppendStr
import Derived.ArgAppend
import Derived.Laws.IdiomCopy
import Derived.OrdersHeld
import Derived.Laws.BitsLemmas
import Derived.RowKit
import Derived.Shelf.Abstract
import Derived.Laws.Strings
import Derived.Shelf.Small.Strs
import Derived.Ground.NamesProg
import Derived.Shelf.Strings.LastIndex
import Derived.Shelf.Strings.Count
import Derived.Shelf.Strings.Search3
import Derived.Shelf.Strings.SlTrimAscii
import Derived.IntWalk
import Derived.Test.YtgdpeabbmbclbaaKFnExactCountDrawn0
-- Written by a program for this claim.
namespace Go.Proofs.Ytgdpeabbmbclbaa.Pr
open Go.RowKit Go.Proofs.YtgdpeabbmbclbaaW.PrintWords Go.Proofs.YtgdpeabbmbclbaaW.PrintLast Go.Proofs.YtgdpeabbmbclbaaW.PrintMore
attribute [local go_sem] max2_int min2_int max_two min_two max_three min_three max_four min_four   -- for this text's walks alone
set_option linter.unusedVariables false
set_option linter.unusedSimpArgs false



def errW : Option Int → Value
  | none => .nilIface
  | some c => .iface 0 (.int .i64 c)
theorem errW_none : errW none = .nilIface := rfl
theorem errW_some (c : Int) : errW (some c) = .iface 0 (.int .i64 c) := rfl

theorem info3 : (Try.prog.info? 3).map (fun i => (i.zero, i.size, i.bytes)) = some (some (.int .i64 0), 1, 8) := by kernel_rfl
theorem info5 : (Try.prog.info? 5).map (fun i => (i.zero, i.size, i.bytes)) = some (some (.int .u8 0), 1, 1) := by kernel_rfl
theorem info9 : (Try.prog.info? 9).map (fun i => (i.zero, i.size, i.bytes)) = some (some (.string ⟨#[]⟩), 1, 16) := by kernel_rfl
-- the values' own types
def rd_L4 (xs : List (List Int)) (i : Int) : (List Int) := xs.getD i.toNat ([] : List Int)
theorem at_L4 {w : World} {A : Option Addr} {n : Nat} {xs : List (List Int)} (h : Kd.C (Kd.slice 5 (Kd.int .u8)) w A n xs) (i : Int) (h0 : 0 ≤ i) (h1 : i < n) : ∃ ad A0 c0, A = some ad ∧ w.cell? (ad.add i.toNat) = some (.slice A0 (rd_L4 xs i).length c0) ∧ (rd_L4 xs i).length ≤ c0 ∧ (Kd.int .u8).C w A0 (rd_L4 xs i).length (rd_L4 xs i) := by
  obtain ⟨ad, c, e, _, hK, hc0⟩ := Kd.C_get h ([] : List Int) i h0 h1
  have hc : ∀ j u, c[j]? = some u → w.cell? (ad.add (i.toNat * 1 + j)) = some u := hc0
  obtain ⟨A0, c0, rfl, l0, g0⟩ := hK
  exact ⟨ad, A0, c0, e, by have hq := hc 0 _ rfl; rwa [Nat.mul_one, Nat.add_zero] at hq, l0, g0⟩

def rd_L5 (xs : List (List Int)) (i : Int) : (List Int) := xs.getD i.toNat ([] : List Int)
theorem at_L5 {w : World} {A : Option Addr} {n : Nat} {xs : List (List Int)} (h : Kd.C (Kd.slice 3 (Kd.int .i64)) w A n xs) (i : Int) (h0 : 0 ≤ i) (h1 : i < n) : ∃ ad A0 c0, A = some ad ∧ w.cell? (ad.add i.toNat) = some (.slice A0 (rd_L5 xs i).length c0) ∧ (rd_L5 xs i).length ≤ c0 ∧ (Kd.int .i64).C w A0 (rd_L5 xs i).length (rd_L5 xs i) := by
  obtain ⟨ad, c, e, _, hK, hc0⟩ := Kd.C_get h ([] : List Int) i h0 h1
  have hc : ∀ j u, c[j]? = some u → w.cell? (ad.add (i.toNat * 1 + j)) = some u := hc0
  obtain ⟨A0, c0, rfl, l0, g0⟩ := hK
  exact ⟨ad, A0, c0, e, by have hq := hc 0 _ rfl; rwa [Nat.mul_one, Nat.add_zero] at hq, l0, g0⟩

end Go.Proofs.Ytgdpeabbmbclbaa.Pr

-- Written by a program for this claim.
namespace Go.Proofs.Ytgdpeabbmbclbaa.Pr
open Go.RowKit Go.Proofs.YtgdpeabbmbclbaaW.PrintWords Go.Proofs.YtgdpeabbmbclbaaW.PrintLast Go.Proofs.YtgdpeabbmbclbaaW.PrintMore
attribute [local go_sem] max2_int min2_int max_two min_two max_three min_three max_four min_four   -- for this text's walks alone
set_option linter.unusedVariables false
set_option linter.unusedSimpArgs false

/-! ### spec_l1In: function 11 -/
def spec_l1In.f (a0 : Int) (a1 : Int) (a2 : Int) : Option (Bool) := if a0 ≥ a1 then (some (decide (a0 ≤ a2))) else (some false)
set_option maxHeartbeats 8000000 in
set_option maxRecDepth 100000 in
theorem spec_l1In.calls (a0 : Int) (a1 : Int) (a2 : Int) (r : Bool) (w : World) (h : spec_l1In.f a0 a1 a2 = some r) :
    Calls Try.prog 11 #[.int .i64 a0, .int .i64 a1, .int .i64 a2] w fun e w' => e = .returned (.bool r) ∧ Drawn0 w w' := by
  have H : (if a0 ≥ a1 then (some (decide (a0 ≤ a2))) else (some false)) = some r := h
  clear h
  by_cases c4 : a0 ≥ a1
  · rw [if_pos c4] at H
    have c4b0 : decide (a1 ≤ a0) = true := decide_eq_true c4
    clear c4
    obtain rfl := Option.some.inj H
    go_enter Try.func11, Try.ntmps11
    go_wp2
    go_ret
    exact ⟨by first | rfl | (simp; done) | (simp [*]; done), by repeat (first | exact Drawn0.refl _ | apply Drawn0.step)⟩
  · rw [if_neg c4] at H
    have c4b0 : decide (a1 ≤ a0) = false := decide_eq_false c4
    clear c4
    obtain rfl := Option.some.inj H
    go_enter Try.func11, Try.ntmps11
    go_wp2
    go_ret
    exact ⟨by first | rfl | (simp; done) | (simp [*]; done), by repeat (first | exact Drawn0.refl _ | apply Drawn0.step)⟩

end Go.Proofs.Ytgdpeabbmbclbaa.Pr

-- Written by a program for this claim.
namespace Go.Proofs.Ytgdpeabbmbclbaa.Pr
open Go.RowKit Go.Proofs.YtgdpeabbmbclbaaW.PrintWords Go.Proofs.YtgdpeabbmbclbaaW.PrintLast Go.Proofs.YtgdpeabbmbclbaaW.PrintMore
attribute [local go_sem] max2_int min2_int max_two min_two max_three min_three max_four min_four   -- for this text's walks alone
set_option linter.unusedVariables false
set_option linter.unusedSimpArgs false

/-! ### spec_loCount: function 12 -/
def spec_loCount.l0 : Nat → Int → Int → Int → Option (Int)
  | 0, _, _, _ => none
  | k + 1, x0, x3, x4 => if x4 ≤ x0 then (spec_loCount.l0 k x0 (wrap64 (x3 * (wrap64 ((wrap64 (2 * x4)) - 1)))) (wrap64 (x4 + 1))) else (some x3)
def spec_loCount.f (k : Nat) (a0 : Int) : Option (Int) := spec_loCount.l0 k a0 1 1
theorem spec_loCount.mono_l : ∀ k, (∀ y0 y1 y2, LeO (spec_loCount.l0 k y0 y1 y2) (spec_loCount.l0 (k + 1) y0 y1 y2))
  | 0 => fun _ _ _ r h => by simp [spec_loCount.l0] at h
  | k + 1 => by
    have ih0 := spec_loCount.mono_l k
    · intro y0 y1 y2
      unfold spec_loCount.l0
      repeat' first
      | (with_reducible exact ih0 _ _ _)
      | (with_reducible exact LeO.refl _)
      | (with_reducible exact LeO.none _)
      | (with_reducible refine LeO.ite ?_ ?_)
      | (with_reducible refine LeO.bind ?_ (fun _ => ?_))
      | exact ih0 _ _ _
      | exact LeO.none _
      | refine LeO.ite ?_ ?_
      | refine LeO.bind ?_ (fun _ => ?_)
theorem spec_loCount.mono : ∀ a0 k, LeO (spec_loCount.f k a0) (spec_loCount.f (k + 1) a0) := by
  intro a0 k
  have ih0 := spec_loCount.mono_l k
  unfold spec_loCount.f
  repeat' first
      | (with_reducible exact ih0 _ _ _)
      | (with_reducible exact LeO.refl _)
      | (with_reducible exact LeO.none _)
      | (with_reducible refine LeO.ite ?_ ?_)
      | (with_reducible refine LeO.bind ?_ (fun _ => ?_))
      | exact ih0 _ _ _
      | exact LeO.none _
      | refine LeO.ite ?_ ?_
      | refine LeO.bind ?_ (fun _ => ?_)
set_option maxHeartbeats 8000000 in
set_option maxRecDepth 100000 in
theorem spec_loCount.calls (k : Nat) (a0 : Int) (r : Int) (w : World) (h : spec_loCount.f k a0 = some r) :
    Calls Try.prog 12 #[.int .i64 a0] w fun e w' => e = .returned (.int .i64 r) ∧ Drawn0 w w' := by
  have H : (spec_loCount.l0 k a0 1 1) = some r := h
  clear h
  have H' := Aside0.mk H
  clear H
  go_enter Try.func12, Try.ntmps12
  go_wp2
  go_loopg [3, 4] k (fun kq v3 v4 w' => ∃ (x3_1 : Int) (x4_1 : Int), v3 = .int .i64 x3_1 ∧ v4 = .int .i64 x4_1 ∧ Aside0 (spec_loCount.l0 kq a0 x3_1 x4_1 = some r) ∧ Aside0 (kq ≤ k) ∧ Drawn0 w w')
  case atStart => exact ⟨(1), (1), (by first | rfl | (simp; done) | (simp [*]; done)), (by first | rfl | (simp; done) | (simp [*]; done)), H', ⟨Nat.le_refl _⟩, by repeat (first | exact Drawn0.refl _ | apply Drawn0.step)⟩
  case round =>
    clear H'
    try clear c1
    obtain ⟨x3_1, x4_1, rfl, rfl, HA, HK1, ⟨m1, rfl⟩⟩ := hrel
    cases gk with
    | zero => exact absurd HA.out (by simp [spec_loCount.l0])
    | succ k1 =>
      have H := HA.out
      clear HA
      simp only [spec_loCount.l0] at H
      by_cases c2 : x4_1 ≤ a0
      · rw [if_pos c2] at H
        have c2b0 : decide (x4_1 ≤ a0) = true := decide_eq_true c2
        clear c2
        have H' := Aside0.mk H
        clear H
        go_wp2
        go_roundg k1
        case measure => have := HK1.out; omega
        case rel => exact ⟨(wrap64 (x3_1 * (wrap64 ((wrap64 (2 * x4_1)) - 1)))), (wrap64 (x4_1 + 1)), (by first | rfl | (simp; done) | (simp [*]; done)), (by first | rfl | (simp; done) | (simp [*]; done)), H', ⟨by have := HK1.out; omega⟩, by repeat (first | exact Drawn0.refl _ | apply Drawn0.step)⟩
      · rw [if_neg c2] at H
        have c2b0 : decide (x4_1 ≤ a0) = false := decide_eq_false c2
        clear c2
        obtain rfl := Option.some.inj H
        go_wp2
        go_ret
        exact ⟨by first | rfl | (simp; done) | (simp [*]; done), by repeat (first | exact Drawn0.refl _ | apply Drawn0.step)⟩

end Go.Proofs.Ytgdpeabbmbclbaa.Pr

-- Written by a program for this claim.
namespace Go.Proofs.Ytgdpeabbmbclbaa.Pr
open Go.RowKit Go.Proofs.YtgdpeabbmbclbaaW.PrintWords Go.Proofs.YtgdpeabbmbclbaaW.PrintLast Go.Proofs.YtgdpeabbmbclbaaW.PrintMore
attribute [local go_sem] max2_int min2_int max_two min_two max_three min_three max_four min_four   -- for this text's walks alone
set_option linter.unusedVariables false
set_option linter.unusedSimpArgs false

/-! ### spec_loWays: function 24 -/
mutual
def spec_loWays.j0 : Nat → Int → Int → Bool → Option (Int)
  | 0, _, _, _ => none
  | k + 1, x0, x1, x11 => if x11 = true then (some 1) else (if x0 > 0 then ((spec_loWays.f k (wrap64 (x0 - 1)) x1).bind fun t108 => (if x1 > 0 then ((spec_loWays.f k (wrap64 (x0 + 1)) (wrap64 (x1 - 1))).bind fun t109 => (some (wrap64 ((wrap64 (0 + (wrap64 (x0 * t108)))) + t109)))) else (some (wrap64 (0 + (wrap64 (x0 * t108))))))) else (if x1 > 0 then ((spec_loWays.f k (wrap64 (x0 + 1)) (wrap64 (x1 - 1))).bind fun t110 => (some (wrap64 (0 + t110)))) else (some 0)))
def spec_loWays.f : Nat → Int → Int → Option (Int)
  | 0, _, _ => none
  | k + 1, a0, a1 => if a0 = 0 then (spec_loWays.j0 k a0 a1 (a1 == 0)) else (spec_loWays.j0 k a0 a1 false)
end
theorem spec_loWays.mono_l : ∀ k, (∀ y0 y1, LeO (spec_loWays.f k y0 y1) (spec_loWays.f (k + 1) y0 y1)) ∧ (∀ y0 y1 y2, LeO (spec_loWays.j0 k y0 y1 y2) (spec_loWays.j0 (k + 1) y0 y1 y2))
  | 0 => ⟨fun _ _ r h => by simp [spec_loWays.f] at h, fun _ _ _ r h => by simp [spec_loWays.j0] at h⟩
  | k + 1 => by
    obtain ⟨ih0, ih1⟩ := spec_loWays.mono_l k
    refine ⟨?_, ?_⟩
    · intro y0 y1
      unfold spec_loWays.f
      repeat' first
      | (with_reducible exact ih0 _ _)
      | (with_reducible exact ih1 _ _ _)
      | (with_reducible exact LeO.refl _)
      | (with_reducible exact LeO.none _)
      | (with_reducible refine LeO.ite ?_ ?_)
      | (with_reducible refine LeO.bind ?_ (fun _ => ?_))
      | exact ih0 _ _
      | exact ih1 _ _ _
      | exact LeO.none _
      | refine LeO.ite ?_ ?_
      | refine LeO.bind ?_ (fun _ => ?_)
    · intro y0 y1 y2
      unfold spec_loWays.j0
      repeat' first
      | (with_reducible exact ih0 _ _)
      | (with_reducible exact ih1 _ _ _)
      | (with_reducible exact LeO.refl _)
      | (with_reducible exact LeO.none _)
      | (with_reducible refine LeO.ite ?_ ?_)
      | (with_reducible refine LeO.bind ?_ (fun _ => ?_))
      | exact ih0 _ _
      | exact ih1 _ _ _
      | exact LeO.none _
      | refine LeO.ite ?_ ?_
      | refine LeO.bind ?_ (fun _ => ?_)
theorem spec_loWays.mono : ∀ a0 a1 k, LeO (spec_loWays.f k a0 a1) (spec_loWays.f (k + 1) a0 a1) := by
  intro a0 a1 k
  obtain ⟨ih0, ih1⟩ := spec_loWays.mono_l k
  exact ih0 a0 a1
set_option maxHeartbeats 8000000 in
set_option maxRecDepth 100000 in
theorem spec_loWays.calls (k : Nat) : ∀ (a0 : Int) (a1 : Int) (r : Int) (w : World) (h : spec_loWays.f k a0 a1 = some r),
    Calls Try.prog 24 #[.int .i64 a0, .int .i64 a1] w fun e w' => e = .returned (.int .i64 r) ∧ Drawn0 w w' := by
  induction k using Nat.strongRecOn with
  | _ k ih =>
  intro a0 a1 r w h
  cases k with
  | zero => exact absurd h (by simp [spec_loWays.f])
  | succ k =>
  simp only [spec_loWays.f] at h
  have H : (if a0 = 0 then (spec_loWays.j0 k a0 a1 (a1 == 0)) else (spec_loWays.j0 k a0 a1 false)) = some r := h
  clear h
  have HC3 := Aside0.mk H
  clear H
  go_enter Try.func24, Try.ntmps24
  go_upto_region 1 with (fail)
  go_cut [11] (fun v11 wc => ∃ (kq : Nat) (x11_2 : Bool), v11 = .bool x11_2 ∧ Aside0 (spec_loWays.j0 kq a0 a1 x11_2 = some r) ∧ Aside0 (kq ≤ k) ∧ Drawn0 w wc)
  case first =>
    have H := HC3.out
    clear HC3
    by_cases c4 : a0 = 0
    · rw [if_pos c4] at H
      have c4b0 : (a0 == 0) = true := beq_iff_eq.mpr c4
      have c4b1 : (a0 != 0) = false := bne_eq_false_iff_eq.mpr c4
      clear c4
      (first | rw [c4b0] | (simp only [i64_w, i32_w]; rw [c4b0]) | skip)
      have H' := Aside0.mk H
      clear H
      go_wp2
      go_meet
      case rel => exact ⟨_, ((a1 == 0)), (by first | rfl | (simp; done) | (simp [*]; done)), H', ⟨by first | omega | exact Nat.le_refl _⟩, by repeat (first | exact Drawn0.refl _ | apply Drawn0.step)⟩
    · rw [if_neg c4] at H
      have c4b0 : (a0 == 0) = false := beq_eq_false_iff_ne.mpr c4
      have c4b1 : (a0 != 0) = true := bne_iff_ne.mpr c4
      (first | rw [c4b0] | (simp only [i64_w, i32_w]; rw [c4b0]) | skip)
      have H' := Aside0.mk H
      clear H
      go_wp2
      go_meet
      case rel => exact ⟨_, (false), (by first | rfl | (simp; done) | (simp [*]; done)), H', ⟨by first | omega | exact Nat.le_refl _⟩, by repeat (first | exact Drawn0.refl _ | apply Drawn0.step)⟩
  case rest =>
    clear HC3
    try clear c2
    try clear p2
    try clear c4
    try clear c4b0
    try clear c4b1
    obtain ⟨kq, x11_2, rfl, HA, HJ2, ⟨mc2, rfl⟩⟩ := hcut
    cases kq with
    | zero => exact absurd HA.out (by simp [spec_loWays.j0])
    | succ kj2 =>
      have H := HA.out
      clear HA
      simp only [spec_loWays.j0] at H
      by_cases c5 : x11_2 = true
      · subst c5
        have H1 : (some 1) = some r := by rw [if_pos rfl] at H; exact H
        clear H
        have H := H1
        clear H1
        obtain rfl := Option.some.inj H
        go_wp2
        go_ret
        exact ⟨by first | rfl | (simp; done) | (simp [*]; done), by repeat (first | exact Drawn0.refl _ | apply Drawn0.step)⟩
      · replace c5 := Bool.eq_false_iff.mpr c5
        subst c5
        have H1 : (if a0 > 0 then ((spec_loWays.f kj2 (wrap64 (a0 - 1)) a1).bind fun t108 => (if a1 > 0 then ((spec_loWays.f kj2 (wrap64 (a0 + 1)) (wrap64 (a1 - 1))).bind fun t109 => (some (wrap64 ((wrap64 (0 + (wrap64 (a0 * t108)))) + t109)))) else (some (wrap64 (0 + (wrap64 (a0 * t108))))))) else (if a1 > 0 then ((spec_loWays.f kj2 (wrap64 (a0 + 1)) (wrap64 (a1 - 1))).bind fun t110 => (some (wrap64 (0 + t110)))) else (some 0))) = some r := by rw [if_neg (show ¬ (false = true) by decide)] at H; exact H
        clear H
        have H := H1
        clear H1
        by_cases c6 : a0 > 0
        · rw [if_pos c6] at H
          have c6b0 : decide (0 < a0) = true := decide_eq_true c6
          clear c6
          replace H := Option.bind_eq_some_iff.mp H
          obtain ⟨t108, A70, H⟩ := H
          replace H : (if a1 > 0 then ((spec_loWays.f kj2 (wrap64 (a0 + 1)) (wrap64 (a1 - 1))).bind fun t109 => (some (wrap64 ((wrap64 (0 + (wrap64 (a0 * t108)))) + t109)))) else (some (wrap64 (0 + (wrap64 (a0 * t108)))))) = some r := H
          have A7 := Aside0.mk A70
          clear A70
          by_cases c8 : a1 > 0
          · rw [if_pos c8] at H
            have c8b0 : decide (0 < a1) = true := decide_eq_true c8
            clear c8
            replace H := Option.bind_eq_some_iff.mp H
            obtain ⟨t109, A90, H⟩ := H
            replace H : (some (wrap64 ((wrap64 (0 + (wrap64 (a0 * t108)))) + t109))) = some r := H
            have A9 := Aside0.mk A90
            clear A90
            obtain rfl := Option.some.inj H
            go_wp2_with (first | ((with_reducible refine gate_callee (f := 24) rfl ?_); refine goesL_ (some 19) rfl rfl Try.func24 (by kernel_rfl) rfl #[.int .i64 (wrap64 (a0 - 1)), .int .i64 a1] rfl (by (try simp only [List.map_toArray, List.map_cons, List.map_nil]); first | done | rfl | (simp only [List.length_drop, List.length_take]; rfl)) ?_; (with_reducible refine (ih kj2 (by have := HJ2.out; omega) (wrap64 (a0 - 1)) a1 t108 _ A7.out).mono ?_); rintro e w' ⟨rfl, ⟨nd, rfl⟩⟩; refine ⟨_, rfl, ?_⟩) | ((with_reducible refine gate_callee (f := 24) rfl ?_); refine goesL_ (some 29) rfl rfl Try.func24 (by kernel_rfl) rfl #[.int .i64 (wrap64 (a0 + 1)), .int .i64 (wrap64 (a1 - 1))] rfl (by (try simp only [List.map_toArray, List.map_cons, List.map_nil]); first | done | rfl | (simp only [List.length_drop, List.length_take]; rfl)) ?_; (with_reducible refine (ih kj2 (by have := HJ2.out; omega) (wrap64 (a0 + 1)) (wrap64 (a1 - 1)) t109 _ A9.out).mono ?_); rintro e w' ⟨rfl, ⟨nd, rfl⟩⟩; refine ⟨_, rfl, ?_⟩))
            go_ret
            exact ⟨by first | rfl | (simp; done) | (simp [*]; done), by repeat (first | exact Drawn0.refl _ | apply Drawn0.step)⟩
          · rw [if_neg c8] at H
            have c8b0 : decide (0 < a1) = false := decide_eq_false c8
            clear c8
            obtain rfl := Option.some.inj H
            go_wp2_with (first | ((with_reducible refine gate_callee (f := 24) rfl ?_); refine goesL_ (some 19) rfl rfl Try.func24 (by kernel_rfl) rfl #[.int .i64 (wrap64 (a0 - 1)), .int .i64 a1] rfl (by (try simp only [List.map_toArray, List.map_cons, List.map_nil]); first | done | rfl | (simp only [List.length_drop, List.length_take]; rfl)) ?_; (with_reducible refine (ih kj2 (by have := HJ2.out; omega) (wrap64 (a0 - 1)) a1 t108 _ A7.out).mono ?_); rintro e w' ⟨rfl, ⟨nd, rfl⟩⟩; refine ⟨_, rfl, ?_⟩))
            go_ret
            exact ⟨by first | rfl | (simp; done) | (simp [*]; done), by repeat (first | exact Drawn0.refl _ | apply Drawn0.step)⟩
        · rw [if_neg c6] at H
          have c6b0 : decide (0 < a0) = false := decide_eq_false c6
          clear c6
          by_cases c10 : a1 > 0
          · rw [if_pos c10] at H
            have c10b0 : decide (0 < a1) = true := decide_eq_true c10
            clear c10
            replace H := Option.bind_eq_some_iff.mp H
            obtain ⟨t110, A110, H⟩ := H
            replace H : (some (wrap64 (0 + t110))) = some r := H
            have A11 := Aside0.mk A110
            clear A110
            obtain rfl := Option.some.inj H
            go_wp2_with (first | ((with_reducible refine gate_callee (f := 24) rfl ?_); refine goesL_ (some 29) rfl rfl Try.func24 (by kernel_rfl) rfl #[.int .i64 (wrap64 (a0 + 1)), .int .i64 (wrap64 (a1 - 1))] rfl (by (try simp only [List.map_toArray, List.map_cons, List.map_nil]); first | done | rfl | (simp only [List.length_drop, List.length_take]; rfl)) ?_; (with_reducible refine (ih kj2 (by have := HJ2.out; omega) (wrap64 (a0 + 1)) (wrap64 (a1 - 1)) t110 _ A11.out).mono ?_); rintro e w' ⟨rfl, ⟨nd, rfl⟩⟩; refine ⟨_, rfl, ?_⟩))
            go_ret
            exact ⟨by first | rfl | (simp; done) | (simp [*]; done), by repeat (first | exact Drawn0.refl _ | apply Drawn0.step)⟩
          · rw [if_neg c10] at H
            have c10b0 : decide (0 < a1) = false := decide_eq_false c10
            clear c10
            obtain rfl := Option.some.inj H
            go_wp2
            go_ret
            exact ⟨by first | rfl | (simp; done) | (simp [*]; done), by repeat (first | exact Drawn0.refl _ | apply Drawn0.step)⟩

end Go.Proofs.Ytgdpeabbmbclbaa.Pr

-- Written by a program for this claim.
namespace Go.Proofs.Ytgdpeabbmbclbaa.Pr
open Go.RowKit Go.Proofs.YtgdpeabbmbclbaaW.PrintWords Go.Proofs.YtgdpeabbmbclbaaW.PrintLast Go.Proofs.YtgdpeabbmbclbaaW.PrintMore
attribute [local go_sem] max2_int min2_int max_two min_two max_three min_three max_four min_four   -- for this text's walks alone
set_option linter.unusedVariables false
set_option linter.unusedSimpArgs false

/-! ### spec_loRanked: function 13 -/
mutual
def spec_loRanked.l0 : Nat → Int → Int → ByteArray → ByteArray → Int → Option (ByteArray)
  | 0, _, _, _, _, _ => none
  | k + 1, x0, x1, x5, x6, x7 => if (x5.size : Int) < (wrap64 (2 * x0)) then (spec_loRanked.l1 k x0 x1 x5 x6 x7 false 0) else (some x5)
def spec_loRanked.l1 : Nat → Int → Int → ByteArray → ByteArray → Int → Bool → Int → Option (ByteArray)
  | 0, _, _, _, _, _, _, _ => none
  | k + 1, x0, x1, x5, x6, x7, x8, x9 => if x9 < (x6.size : Int) then (spec_loRanked.j2 k x0 x1 x5 x6 x7 x8 x9 (!x8)) else (spec_loRanked.j2 k x0 x1 x5 x6 x7 x8 x9 false)
def spec_loRanked.j2 : Nat → Int → Int → ByteArray → ByteArray → Int → Bool → Int → Bool → Option (ByteArray)
  | 0, _, _, _, _, _, _, _, _ => none
  | k + 1, x0, x1, x5, x6, x7, x8, x9, x24 => if x24 = true then ((spec_loWays.f k (wrap64 ((x6.size : Int) - 1)) (wrap64 (x0 - x7))).bind fun t111 => (if x1 < t111 then (if 0 ≤ x9 then (if x9 ≤ (wrap64 (x9 + 1)) then (if (wrap64 (x9 + 1)) ≤ (x6.size : Int) then (if x5.size + (x6.extract (x9 : Int).toNat ((wrap64 (x9 + 1)) : Int).toNat).size ≤ 9223372036854775807 then (if x9 ≤ (x6.size : Int) then (if 0 ≤ (wrap64 (x9 + 1)) then (if (x6.extract 0 (x9 : Int).toNat).size + (x6.extract ((wrap64 (x9 + 1)) : Int).toNat x6.size).size ≤ 9223372036854775807 then (spec_loRanked.l1 k x0 x1 (x5 ++ (x6.extract (x9 : Int).toNat ((wrap64 (x9 + 1)) : Int).toNat)) ((x6.extract 0 (x9 : Int).toNat) ++ (x6.extract ((wrap64 (x9 + 1)) : Int).toNat x6.size)) x7 true (wrap64 (x9 + 1))) else (none)) else (none)) else (none)) else (none)) else (none)) else (none)) else (none)) else (spec_loRanked.l1 k x0 (wrap64 (x1 - t111)) x5 x6 x7 x8 (wrap64 (x9 + 1))))) else (if x8 = true then (spec_loRanked.l0 k x0 x1 x5 x6 x7) else (if 0 ≤ x7 then (if x7 ≤ (wrap64 (x7 + 1)) then (if (wrap64 (x7 + 1)) ≤ 16 then (if x5.size + ((⟨#[97, 98, 99, 100, 101, 102, 103, 104, 105, 106, 107, 108, 109, 110, 111, 112]⟩ : ByteArray).extract (x7 : Int).toNat ((wrap64 (x7 + 1)) : Int).toNat).size ≤ 9223372036854775807 then (if x6.size + ((⟨#[97, 98, 99, 100, 101, 102, 103, 104, 105, 106, 107, 108, 109, 110, 111, 112]⟩ : ByteArray).extract (x7 : Int).toNat ((wrap64 (x7 + 1)) : Int).toNat).size ≤ 9223372036854775807 then (spec_loRanked.l0 k x0 x1 (x5 ++ ((⟨#[97, 98, 99, 100, 101, 102, 103, 104, 105, 106, 107, 108, 109, 110, 111, 112]⟩ : ByteArray).extract (x7 : Int).toNat ((wrap64 (x7 + 1)) : Int).toNat)) (x6 ++ ((⟨#[97, 98, 99, 100, 101, 102, 103, 104, 105, 106, 107, 108, 109, 110, 111, 112]⟩ : ByteArray).extract (x7 : Int).toNat ((wrap64 (x7 + 1)) : Int).toNat)) (wrap64 (x7 + 1))) else (none)) else (none)) else (none)) else (none)) else (none)))
end
def spec_loRanked.f (k : Nat) (a0 : Int) (a1 : Int) : Option (ByteArray) := spec_loRanked.l0 k a0 a1 (⟨#[]⟩ : ByteArray) (⟨#[]⟩ : ByteArray) 0
theorem spec_loRanked.mono_l : ∀ k, (∀ y0 y1 y2 y3 y4, LeO (spec_loRanked.l0 k y0 y1 y2 y3 y4) (spec_loRanked.l0 (k + 1) y0 y1 y2 y3 y4)) ∧ (∀ y0 y1 y2 y3 y4 y5 y6, LeO (spec_loRanked.l1 k y0 y1 y2 y3 y4 y5 y6) (spec_loRanked.l1 (k + 1) y0 y1 y2 y3 y4 y5 y6)) ∧ (∀ y0 y1 y2 y3 y4 y5 y6 y7, LeO (spec_loRanked.j2 k y0 y1 y2 y3 y4 y5 y6 y7) (spec_loRanked.j2 (k + 1) y0 y1 y2 y3 y4 y5 y6 y7))
  | 0 => ⟨fun _ _ _ _ _ r h => by simp [spec_loRanked.l0] at h, fun _ _ _ _ _ _ _ r h => by simp [spec_loRanked.l1] at h, fun _ _ _ _ _ _ _ _ r h => by simp [spec_loRanked.j2] at h⟩
  | k + 1 => by
    obtain ⟨ih0, ih1, ih2⟩ := spec_loRanked.mono_l k
    refine ⟨?_, ?_, ?_⟩
    · intro y0 y1 y2 y3 y4
      unfold spec_loRanked.l0
      repeat' first
      | (with_reducible exact ih0 _ _ _ _ _)
      | (with_reducible exact ih1 _ _ _ _ _ _ _)
      | (with_reducible exact ih2 _ _ _ _ _ _ _ _)
      | (with_reducible exact spec_loWays.mono _ _ _)
      | (with_reducible exact LeO.refl _)
      | (with_reducible exact LeO.none _)
      | (with_reducible refine LeO.ite ?_ ?_)
      | (with_reducible refine LeO.bind ?_ (fun _ => ?_))
      | exact ih0 _ _ _ _ _
      | exact ih1 _ _ _ _ _ _ _
      | exact ih2 _ _ _ _ _ _ _ _
      | exact spec_loWays.mono _ _ _
      | exact LeO.none _
      | refine LeO.ite ?_ ?_
      | refine LeO.bind ?_ (fun _ => ?_)
    · intro y0 y1 y2 y3 y4 y5 y6
      unfold spec_loRanked.l1
      repeat' first
      | (with_reducible exact ih0 _ _ _ _ _)
      | (with_reducible exact ih1 _ _ _ _ _ _ _)
      | (with_reducible exact ih2 _ _ _ _ _ _ _ _)
      | (with_reducible exact spec_loWays.mono _ _ _)
      | (with_reducible exact LeO.refl _)
      | (with_reducible exact LeO.none _)
      | (with_reducible refine LeO.ite ?_ ?_)
      | (with_reducible refine LeO.bind ?_ (fun _ => ?_))
      | exact ih0 _ _ _ _ _
      | exact ih1 _ _ _ _ _ _ _
      | exact ih2 _ _ _ _ _ _ _ _
      | exact spec_loWays.mono _ _ _
      | exact LeO.none _
      | refine LeO.ite ?_ ?_
      | refine LeO.bind ?_ (fun _ => ?_)
    · intro y0 y1 y2 y3 y4 y5 y6 y7
      unfold spec_loRanked.j2
      repeat' first
      | (with_reducible exact ih0 _ _ _ _ _)
      | (with_reducible exact ih1 _ _ _ _ _ _ _)
      | (with_reducible exact ih2 _ _ _ _ _ _ _ _)
      | (with_reducible exact spec_loWays.mono _ _ _)
      | (with_reducible exact LeO.refl _)
      | (with_reducible exact LeO.none _)
      | (with_reducible refine LeO.ite ?_ ?_)
      | (with_reducible refine LeO.bind ?_ (fun _ => ?_))
      | exact ih0 _ _ _ _ _
      | exact ih1 _ _ _ _ _ _ _
      | exact ih2 _ _ _ _ _ _ _ _
      | exact spec_loWays.mono _ _ _
      | exact LeO.none _
      | refine LeO.ite ?_ ?_
      | refine LeO.bind ?_ (fun _ => ?_)
theorem spec_loRanked.mono : ∀ a0 a1 k, LeO (spec_loRanked.f k a0 a1) (spec_loRanked.f (k + 1) a0 a1) := by
  intro a0 a1 k
  obtain ⟨ih0, ih1, ih2⟩ := spec_loRanked.mono_l k
  unfold spec_loRanked.f
  repeat' first
      | (with_reducible exact ih0 _ _ _ _ _)
      | (with_reducible exact ih1 _ _ _ _ _ _ _)
      | (with_reducible exact ih2 _ _ _ _ _ _ _ _)
      | (with_reducible exact spec_loWays.mono _ _ _)
      | (with_reducible exact LeO.refl _)
      | (with_reducible exact LeO.none _)
      | (with_reducible refine LeO.ite ?_ ?_)
      | (with_reducible refine LeO.bind ?_ (fun _ => ?_))
      | exact ih0 _ _ _ _ _
      | exact ih1 _ _ _ _ _ _ _
      | exact ih2 _ _ _ _ _ _ _ _
      | exact spec_loWays.mono _ _ _
      | exact LeO.none _
      | refine LeO.ite ?_ ?_
      | refine LeO.bind ?_ (fun _ => ?_)
set_option maxHeartbeats 8000000 in
set_option maxRecDepth 100000 in
theorem spec_loRanked.calls (k : Nat) (a0 : Int) (a1 : Int) (r : ByteArray) (w : World) (h : spec_loRanked.f k a0 a1 = some r) :
    Calls Try.prog 13 #[.int .i64 a0, .int .i64 a1] w fun e w' => e = .returned (.string r) ∧ Drawn0 w w' := by
  have H : (spec_loRanked.l0 k a0 a1 (⟨#[]⟩ : ByteArray) (⟨#[]⟩ : ByteArray) 0) = some r := h
  clear h
  have H' := Aside0.mk H
  clear H
  go_enter Try.func13, Try.ntmps13
  go_wp2
  repeat (go_quiet (fail); try go_wp2)
  go_loopg [1, 5, 6, 7] k (fun kq v1 v5 v6 v7 w' => ∃ (x1_1 : Int) (x5_1 : ByteArray) (x6_1 : ByteArray) (x7_1 : Int), v1 = .int .i64 x1_1 ∧ v5 = .string x5_1 ∧ v6 = .string x6_1 ∧ v7 = .int .i64 x7_1 ∧ Aside0 (spec_loRanked.l0 kq a0 x1_1 x5_1 x6_1 x7_1 = some r) ∧ Aside0 (kq ≤ k) ∧ Drawn0 w w')
  case atStart => exact ⟨(a1), ((⟨#[]⟩ : ByteArray)), ((⟨#[]⟩ : ByteArray)), (0), (by first | rfl | (simp; done) | (simp [*]; done)), (by first | rfl | (simp; done) | (simp [*]; done)), (by first | rfl | (simp; done) | (simp [*]; done)), (by first | rfl | (simp; done) | (simp [*]; done)), H', ⟨Nat.le_refl _⟩, by repeat (first | exact Drawn0.refl _ | apply Drawn0.step)⟩
  case round =>
    clear H'
    try clear c1
    try clear p2
    obtain ⟨x1_1, x5_1, x6_1, x7_1, rfl, rfl, rfl, rfl, HA, HK1, ⟨m1, rfl⟩⟩ := hrel
    cases gk with
    | zero => exact absurd HA.out (by simp [spec_loRanked.l0])
    | succ k1 =>
      have H := HA.out
      clear HA
      simp only [spec_loRanked.l0] at H
      by_cases c3 : (x5_1.size : Int) < (wrap64 (2 * a0))
      · rw [if_pos c3] at H
        have c3b0 : decide ((x5_1.size : Int) < (wrap64 (2 * a0))) = true := decide_eq_true c3
        clear c3
        have H' := Aside0.mk H
        clear H
        go_wp2
        repeat (go_quiet (fail); try go_wp2)
        go_loopg [1, 5, 6, 8, 9] k1 (fun kq v1 v5 v6 v8 v9 w' => ∃ (x1_2 : Int) (x5_2 : ByteArray) (x6_2 : ByteArray) (x8_2 : Bool) (x9_2 : Int), v1 = .int .i64 x1_2 ∧ v5 = .string x5_2 ∧ v6 = .string x6_2 ∧ v8 = .bool x8_2 ∧ v9 = .int .i64 x9_2 ∧ Aside0 (spec_loRanked.l1 kq a0 x1_2 x5_2 x6_2 x7_1 x8_2 x9_2 = some r) ∧ Aside0 (kq ≤ k1) ∧ Drawn0 w w')
        case atStart => exact ⟨(x1_1), (x5_1), (x6_1), (false), (0), (by first | rfl | (simp; done) | (simp [*]; done)), (by first | rfl | (simp; done) | (simp [*]; done)), (by first | rfl | (simp; done) | (simp [*]; done)), (by first | rfl | (simp; done) | (simp [*]; done)), (by first | rfl | (simp; done) | (simp [*]; done)), H', ⟨Nat.le_refl _⟩, by repeat (first | exact Drawn0.refl _ | apply Drawn0.step)⟩
        case round =>
          clear H'
          try clear c1
          try clear p2
          try clear c3
          try clear c3b0
          try clear p2
          obtain ⟨x1_2, x5_2, x6_2, x8_2, x9_2, rfl, rfl, rfl, rfl, rfl, HA, HK2, ⟨m2, rfl⟩⟩ := hrel
          cases gk with
          | zero => exact absurd HA.out (by simp [spec_loRanked.l1])
          | succ k2 =>
            have H := HA.out
            clear HA
            simp only [spec_loRanked.l1] at H
            have HC4 := Aside0.mk H
            clear H
            go_upto_region 7 with (fail)
            repeat (go_quiet (fail); go_upto_region 7 with (fail))
            go_cut [24] (fun v24 wc => ∃ (kq : Nat) (x24_3 : Bool), v24 = .bool x24_3 ∧ Aside0 (spec_loRanked.j2 kq a0 x1_2 x5_2 x6_2 x7_1 x8_2 x9_2 x24_3 = some r) ∧ Aside0 (kq ≤ k2) ∧ Drawn0 w wc)
            case first =>
              have H := HC4.out
              clear HC4
              by_cases c5 : x9_2 < (x6_2.size : Int)
              · rw [if_pos c5] at H
                have c5b0 : decide (x9_2 < (x6_2.size : Int)) = true := decide_eq_true c5
                clear c5
                (first | rw [c5b0] | (simp only [i64_w, i32_w]; rw [c5b0]) | skip)
                have H' := Aside0.mk H
                clear H
                go_wp2
                repeat (go_quiet (fail); try go_wp2)
                go_meet
                case rel => exact ⟨_, (!x8_2), (by first | rfl | (simp; done) | (simp [*]; done)), H', ⟨by have := HK1.out; have := HK2.out; first | omega | exact Nat.le_refl _⟩, by repeat (first | exact Drawn0.refl _ | apply Drawn0.step)⟩
              · rw [if_neg c5] at H
                have c5b0 : decide (x9_2 < (x6_2.size : Int)) = false := decide_eq_false c5
                clear c5
                (first | rw [c5b0] | (simp only [i64_w, i32_w]; rw [c5b0]) | skip)
                have H' := Aside0.mk H
                clear H
                go_wp2
                repeat (go_quiet (fail); try go_wp2)
                go_meet
                case rel => exact ⟨_, (false), (by first | rfl | (simp; done) | (simp [*]; done)), H', ⟨by have := HK1.out; have := HK2.out; first | omega | exact Nat.le_refl _⟩, by repeat (first | exact Drawn0.refl _ | apply Drawn0.step)⟩
            case rest =>
              clear HC4
              try clear c1
              try clear p2
              try clear c3
              try clear c3b0
              try clear c5
              try clear c5b0
              try clear p2
              obtain ⟨kq, x24_3, rfl, HA, HJ3, ⟨mc3, rfl⟩⟩ := hcut
              cases kq with
              | zero => exact absurd HA.out (by simp [spec_loRanked.j2])
              | succ kj3 =>
                have H := HA.out
                clear HA
                simp only [spec_loRanked.j2] at H
                by_cases c6 : x24_3 = true
                · subst c6
                  have H1 : ((spec_loWays.f kj3 (wrap64 ((x6_2.size : Int) - 1)) (wrap64 (a0 - x7_1))).bind fun t111 => (if x1_2 < t111 then (if 0 ≤ x9_2 then (if x9_2 ≤ (wrap64 (x9_2 + 1)) then (if (wrap64 (x9_2 + 1)) ≤ (x6_2.size : Int) then (if x5_2.size + (x6_2.extract (x9_2 : Int).toNat ((wrap64 (x9_2 + 1)) : Int).toNat).size ≤ 9223372036854775807 then (if x9_2 ≤ (x6_2.size : Int) then (if 0 ≤ (wrap64 (x9_2 + 1)) then (if (x6_2.extract 0 (x9_2 : Int).toNat).size + (x6_2.extract ((wrap64 (x9_2 + 1)) : Int).toNat x6_2.size).size ≤ 9223372036854775807 then (spec_loRanked.l1 kj3 a0 x1_2 (x5_2 ++ (x6_2.extract (x9_2 : Int).toNat ((wrap64 (x9_2 + 1)) : Int).toNat)) ((x6_2.extract 0 (x9_2 : Int).toNat) ++ (x6_2.extract ((wrap64 (x9_2 + 1)) : Int).toNat x6_2.size)) x7_1 true (wrap64 (x9_2 + 1))) else (none)) else (none)) else (none)) else (none)) else (none)) else (none)) else (none)) else (spec_loRanked.l1 kj3 a0 (wrap64 (x1_2 - t111)) x5_2 x6_2 x7_1 x8_2 (wrap64 (x9_2 + 1))))) = some r := by rw [if_pos rfl] at H; exact H
                  clear H
                  have H := H1
                  clear H1
                  replace H := Option.bind_eq_some_iff.mp H
                  obtain ⟨t111, A70, H⟩ := H
                  replace H : (if x1_2 < t111 then (if 0 ≤ x9_2 then (if x9_2 ≤ (wrap64 (x9_2 + 1)) then (if (wrap64 (x9_2 + 1)) ≤ (x6_2.size : Int) then (if x5_2.size + (x6_2.extract (x9_2 : Int).toNat ((wrap64 (x9_2 + 1)) : Int).toNat).size ≤ 9223372036854775807 then (if x9_2 ≤ (x6_2.size : Int) then (if 0 ≤ (wrap64 (x9_2 + 1)) then (if (x6_2.extract 0 (x9_2 : Int).toNat).size + (x6_2.extract ((wrap64 (x9_2 + 1)) : Int).toNat x6_2.size).size ≤ 9223372036854775807 then (spec_loRanked.l1 kj3 a0 x1_2 (x5_2 ++ (x6_2.extract (x9_2 : Int).toNat ((wrap64 (x9_2 + 1)) : Int).toNat)) ((x6_2.extract 0 (x9_2 : Int).toNat) ++ (x6_2.extract ((wrap64 (x9_2 + 1)) : Int).toNat x6_2.size)) x7_1 true (wrap64 (x9_2 + 1))) else (none)) else (none)) else (none)) else (none)) else (none)) else (none)) else (none)) else (spec_loRanked.l1 kj3 a0 (wrap64 (x1_2 - t111)) x5_2 x6_2 x7_1 x8_2 (wrap64 (x9_2 + 1)))) = some r := H
                  have A7 := Aside0.mk A70
                  clear A70
                  by_cases c8 : x1_2 < t111
                  · rw [if_pos c8] at H
                    have c8b0 : decide (x1_2 < t111) = true := decide_eq_true c8
                    clear c8
                    by_cases c9 : 0 ≤ x9_2
                    · rw [if_pos c9] at H
                      have c9b0 := eq_true c9
                      have c9b1 : decide (0 ≤ x9_2) = true := decide_eq_true c9
                      clear c9
                      by_cases c10 : x9_2 ≤ (wrap64 (x9_2 + 1))
                      · rw [if_pos c10] at H
                        have c10b0 := eq_true c10
                        have c10b1 : decide (x9_2 ≤ (wrap64 (x9_2 + 1))) = true := decide_eq_true c10
                        by_cases c11 : (wrap64 (x9_2 + 1)) ≤ (x6_2.size : Int)
                        · rw [if_pos c11] at H
                          have c11b0 := eq_true c11
                          have c11b1 : decide ((wrap64 (x9_2 + 1)) ≤ (x6_2.size : Int)) = true := decide_eq_true c11
                          by_cases c12 : x5_2.size + (x6_2.extract (x9_2 : Int).toNat ((wrap64 (x9_2 + 1)) : Int).toNat).size ≤ 9223372036854775807
                          · rw [if_pos c12] at H
                            have c12b0 := eq_true c12
                            have c12b1 : decide (x5_2.size + (x6_2.extract (x9_2 : Int).toNat ((wrap64 (x9_2 + 1)) : Int).toNat).size ≤ 9223372036854775807) = true := decide_eq_true c12
                            try have c12b2 : (9223372036854775807 < x5_2.size + (x6_2.extract (x9_2 : Int).toNat ((wrap64 (x9_2 + 1)) : Int).toNat).size) = False := eq_false (Nat.not_lt.2 c12)
                            have c13b0 := eq_true (of_decide_eq_true (by first | (with_reducible assumption) | assumption) : 0 ≤ x9_2)
                            by_cases c14 : x9_2 ≤ (x6_2.size : Int)
                            · rw [if_pos c14] at H
                              have c14b0 := eq_true c14
                              have c14b1 : decide (x9_2 ≤ (x6_2.size : Int)) = true := decide_eq_true c14
                              clear c14
                              obtain ⟨ji15, hji15⟩ : ∃ j_ : Int, (wrap64 (x9_2 + 1)) = j_ := ⟨_, rfl⟩
                              replace H : (if 0 ≤ (ji15) then (if (x6_2.extract 0 (x9_2 : Int).toNat).size + (x6_2.extract ((ji15) : Int).toNat x6_2.size).size ≤ 9223372036854775807 then (spec_loRanked.l1 kj3 a0 x1_2 (x5_2 ++ (x6_2.extract (x9_2 : Int).toNat ((ji15) : Int).toNat)) ((x6_2.extract 0 (x9_2 : Int).toNat) ++ (x6_2.extract ((ji15) : Int).toNat x6_2.size)) x7_1 true ji15) else (none)) else (none)) = some r := by first | (rw [hji15] at H; exact H) | (simp only [hji15] at H ⊢; exact H)
                              (try rw [hji15] at c10b0)
                              (try rw [hji15] at c10b1)
                              (try rw [hji15] at c10)
                              (try rw [hji15] at c11b0)
                              (try rw [hji15] at c11b1)
                              (try rw [hji15] at c11)
                              (try rw [hji15] at c12b0)
                              (try rw [hji15] at c12b1)
                              (try rw [hji15] at c12)
                              (try rw [hji15] at A7)
                              have hji15w : (IntKind.i64.wrap (x9_2 + 1)) = ji15 := (i64_w _).trans hji15
                              by_cases c16 : 0 ≤ (ji15)
                              · rw [if_pos c16] at H
                                have c16b0 := eq_true c16
                                have c16b1 : decide (0 ≤ (ji15)) = true := decide_eq_true c16
                                clear c16
                                have c17b0 := eq_true (of_decide_eq_true (by first | (with_reducible assumption) | assumption) : (ji15) ≤ (x6_2.size : Int))
                                by_cases c18 : (x6_2.extract 0 (x9_2 : Int).toNat).size + (x6_2.extract ((ji15) : Int).toNat x6_2.size).size ≤ 9223372036854775807
                                · rw [if_pos c18] at H
                                  have c18b0 := eq_true c18
                                  have c18b1 : decide ((x6_2.extract 0 (x9_2 : Int).toNat).size + (x6_2.extract ((ji15) : Int).toNat x6_2.size).size ≤ 9223372036854775807) = true := decide_eq_true c18
                                  try have c18b2 : (9223372036854775807 < (x6_2.extract 0 (x9_2 : Int).toNat).size + (x6_2.extract ((ji15) : Int).toNat x6_2.size).size) = False := eq_false (Nat.not_lt.2 c18)
                                  have H' := Aside0.mk H
                                  clear H
                                  go_wp2_with (first | (go_at_call 24; (with_reducible refine (spec_loWays.calls kj3 (wrap64 ((x6_2.size : Int) - 1)) (wrap64 (a0 - x7_1)) t111 _ A7.out).mono ?_); rintro e w' ⟨rfl, ⟨nd, rfl⟩⟩; (try first | exact ⟨rfl, _, World.drewN_drewN _ _ _⟩ | exact ⟨rfl, _, Eq.trans (World.drewN_drewN _ _ _) (congrArg (World.drewN _) (Nat.add_assoc _ _ _))⟩)))
                                  repeat (go_quiet (first | (go_at_call 24; (with_reducible refine (spec_loWays.calls kj3 (wrap64 ((x6_2.size : Int) - 1)) (wrap64 (a0 - x7_1)) t111 _ A7.out).mono ?_); rintro e w' ⟨rfl, ⟨nd, rfl⟩⟩; (try first | exact ⟨rfl, _, World.drewN_drewN _ _ _⟩ | exact ⟨rfl, _, Eq.trans (World.drewN_drewN _ _ _) (congrArg (World.drewN _) (Nat.add_assoc _ _ _))⟩))); try go_wp2_with (first | (go_at_call 24; (with_reducible refine (spec_loWays.calls kj3 (wrap64 ((x6_2.size : Int) - 1)) (wrap64 (a0 - x7_1)) t111 _ A7.out).mono ?_); rintro e w' ⟨rfl, ⟨nd, rfl⟩⟩; (try first | exact ⟨rfl, _, World.drewN_drewN _ _ _⟩ | exact ⟨rfl, _, Eq.trans (World.drewN_drewN _ _ _) (congrArg (World.drewN _) (Nat.add_assoc _ _ _))⟩))))
                                  go_roundg kj3
                                  case measure => have := HK1.out; have := HK2.out; have := HJ3.out; omega
                                  case rel => exact ⟨(x1_2), (x5_2 ++ (x6_2.extract (x9_2 : Int).toNat ((ji15) : Int).toNat)), ((x6_2.extract 0 (x9_2 : Int).toNat) ++ (x6_2.extract ((ji15) : Int).toNat x6_2.size)), (true), (ji15), (by first | rfl | (simp; done) | (simp [*]; done)), (by first | rfl | (simp; done) | (simp only [← hji15] <;> (first | rfl | simp)) | (simp [*]; done)), (by first | rfl | (simp; done) | (simp only [← hji15] <;> (first | rfl | simp)) | (simp [*]; done)), (by first | rfl | (simp; done) | (simp [*]; done)), (by first | rfl | (simp; done) | (simp only [← hji15] <;> (first | rfl | simp)) | (simp [*]; done)), H', ⟨by have := HK1.out; have := HK2.out; have := HJ3.out; omega⟩, by repeat (first | exact Drawn0.refl _ | apply Drawn0.step)⟩
                                · rw [if_neg c18] at H
                                  exact absurd H (by simp)
                              · rw [if_neg c16] at H
                                exact absurd H (by simp)
                            · rw [if_neg c14] at H
                              exact absurd H (by simp)
                          · rw [if_neg c12] at H
                            exact absurd H (by simp)
                        · rw [if_neg c11] at H
                          exact absurd H (by simp)
                      · rw [if_neg c10] at H
                        exact absurd H (by simp)
                    · rw [if_neg c9] at H
                      exact absurd H (by simp)
                  · rw [if_neg c8] at H
                    have c8b0 : decide (x1_2 < t111) = false := decide_eq_false c8
                    clear c8
                    have H' := Aside0.mk H
                    clear H
                    go_wp2_with (first | (go_at_call 24; (with_reducible refine (spec_loWays.calls kj3 (wrap64 ((x6_2.size : Int) - 1)) (wrap64 (a0 - x7_1)) t111 _ A7.out).mono ?_); rintro e w' ⟨rfl, ⟨nd, rfl⟩⟩; (try first | exact ⟨rfl, _, World.drewN_drewN _ _ _⟩ | exact ⟨rfl, _, Eq.trans (World.drewN_drewN _ _ _) (congrArg (World.drewN _) (Nat.add_assoc _ _ _))⟩)))
                    repeat (go_quiet (first | (go_at_call 24; (with_reducible refine (spec_loWays.calls kj3 (wrap64 ((x6_2.size : Int) - 1)) (wrap64 (a0 - x7_1)) t111 _ A7.out).mono ?_); rintro e w' ⟨rfl, ⟨nd, rfl⟩⟩; (try first | exact ⟨rfl, _, World.drewN_drewN _ _ _⟩ | exact ⟨rfl, _, Eq.trans (World.drewN_drewN _ _ _) (congrArg (World.drewN _) (Nat.add_assoc _ _ _))⟩))); try go_wp2_with (first | (go_at_call 24; (with_reducible refine (spec_loWays.calls kj3 (wrap64 ((x6_2.size : Int) - 1)) (wrap64 (a0 - x7_1)) t111 _ A7.out).mono ?_); rintro e w' ⟨rfl, ⟨nd, rfl⟩⟩; (try first | exact ⟨rfl, _, World.drewN_drewN _ _ _⟩ | exact ⟨rfl, _, Eq.trans (World.drewN_drewN _ _ _) (congrArg (World.drewN _) (Nat.add_assoc _ _ _))⟩))))
                    go_roundg kj3
                    case measure => have := HK1.out; have := HK2.out; have := HJ3.out; omega
                    case rel => exact ⟨(wrap64 (x1_2 - t111)), (x5_2), (x6_2), (x8_2), (wrap64 (x9_2 + 1)), (by first | rfl | (simp; done) | (simp [*]; done)), (by first | rfl | (simp; done) | (simp [*]; done)), (by first | rfl | (simp; done) | (simp [*]; done)), (by first | rfl | (simp; done) | (simp [*]; done)), (by first | rfl | (simp; done) | (simp [*]; done)), H', ⟨by have := HK1.out; have := HK2.out; have := HJ3.out; omega⟩, by repeat (first | exact Drawn0.refl _ | apply Drawn0.step)⟩
                · replace c6 := Bool.eq_false_iff.mpr c6
                  subst c6
                  have H1 : (if x8_2 = true then (spec_loRanked.l0 kj3 a0 x1_2 x5_2 x6_2 x7_1) else (if 0 ≤ x7_1 then (if x7_1 ≤ (wrap64 (x7_1 + 1)) then (if (wrap64 (x7_1 + 1)) ≤ 16 then (if x5_2.size + ((⟨#[97, 98, 99, 100, 101, 102, 103, 104, 105, 106, 107, 108, 109, 110, 111, 112]⟩ : ByteArray).extract (x7_1 : Int).toNat ((wrap64 (x7_1 + 1)) : Int).toNat).size ≤ 9223372036854775807 then (if x6_2.size + ((⟨#[97, 98, 99, 100, 101, 102, 103, 104, 105, 106, 107, 108, 109, 110, 111, 112]⟩ : ByteArray).extract (x7_1 : Int).toNat ((wrap64 (x7_1 + 1)) : Int).toNat).size ≤ 9223372036854775807 then (spec_loRanked.l0 kj3 a0 x1_2 (x5_2 ++ ((⟨#[97, 98, 99, 100, 101, 102, 103, 104, 105, 106, 107, 108, 109, 110, 111, 112]⟩ : ByteArray).extract (x7_1 : Int).toNat ((wrap64 (x7_1 + 1)) : Int).toNat)) (x6_2 ++ ((⟨#[97, 98, 99, 100, 101, 102, 103, 104, 105, 106, 107, 108, 109, 110, 111, 112]⟩ : ByteArray).extract (x7_1 : Int).toNat ((wrap64 (x7_1 + 1)) : Int).toNat)) (wrap64 (x7_1 + 1))) else (none)) else (none)) else (none)) else (none)) else (none))) = some r := by rw [if_neg (show ¬ (false = true) by decide)] at H; exact H
                  clear H
                  have H := H1
                  clear H1
                  by_cases c19 : x8_2 = true
                  · subst c19
                    have H1 : (spec_loRanked.l0 kj3 a0 x1_2 x5_2 x6_2 x7_1) = some r := by rw [if_pos rfl] at H; exact H
                    clear H
                    have H := H1
                    clear H1
                    have H' := Aside0.mk H
                    clear H
                    go_wp2
                    repeat (go_quiet (fail); try go_wp2)
                    go_roundg kj3
                    case measure => have := HK1.out; have := HK2.out; have := HJ3.out; omega
                    case rel => exact ⟨(x1_2), (x5_2), (x6_2), (x7_1), (by first | rfl | (simp; done) | (simp [*]; done)), (by first | rfl | (simp; done) | (simp [*]; done)), (by first | rfl | (simp; done) | (simp [*]; done)), (by first | rfl | (simp; done) | (simp [*]; done)), H', ⟨by have := HK1.out; have := HK2.out; have := HJ3.out; omega⟩, by repeat (first | exact Drawn0.refl _ | apply Drawn0.step)⟩
                  · replace c19 := Bool.eq_false_iff.mpr c19
                    subst c19
                    have H1 : (if 0 ≤ x7_1 then (if x7_1 ≤ (wrap64 (x7_1 + 1)) then (if (wrap64 (x7_1 + 1)) ≤ 16 then (if x5_2.size + ((⟨#[97, 98, 99, 100, 101, 102, 103, 104, 105, 106, 107, 108, 109, 110, 111, 112]⟩ : ByteArray).extract (x7_1 : Int).toNat ((wrap64 (x7_1 + 1)) : Int).toNat).size ≤ 9223372036854775807 then (if x6_2.size + ((⟨#[97, 98, 99, 100, 101, 102, 103, 104, 105, 106, 107, 108, 109, 110, 111, 112]⟩ : ByteArray).extract (x7_1 : Int).toNat ((wrap64 (x7_1 + 1)) : Int).toNat).size ≤ 9223372036854775807 then (spec_loRanked.l0 kj3 a0 x1_2 (x5_2 ++ ((⟨#[97, 98, 99, 100, 101, 102, 103, 104, 105, 106, 107, 108, 109, 110, 111, 112]⟩ : ByteArray).extract (x7_1 : Int).toNat ((wrap64 (x7_1 + 1)) : Int).toNat)) (x6_2 ++ ((⟨#[97, 98, 99, 100, 101, 102, 103, 104, 105, 106, 107, 108, 109, 110, 111, 112]⟩ : ByteArray).extract (x7_1 : Int).toNat ((wrap64 (x7_1 + 1)) : Int).toNat)) (wrap64 (x7_1 + 1))) else (none)) else (none)) else (none)) else (none)) else (none)) = some r := by rw [if_neg (show ¬ (false = true) by decide)] at H; exact H
                    clear H
                    have H := H1
                    clear H1
                    by_cases c20 : 0 ≤ x7_1
                    · rw [if_pos c20] at H
                      have c20b0 := eq_true c20
                      have c20b1 : decide (0 ≤ x7_1) = true := decide_eq_true c20
                      clear c20
                      by_cases c21 : x7_1 ≤ (wrap64 (x7_1 + 1))
                      · rw [if_pos c21] at H
                        have c21b0 := eq_true c21
                        have c21b1 : decide (x7_1 ≤ (wrap64 (x7_1 + 1))) = true := decide_eq_true c21
                        by_cases c22 : (wrap64 (x7_1 + 1)) ≤ 16
                        · rw [if_pos c22] at H
                          have c22b0 := eq_true c22
                          have c22b1 : decide ((wrap64 (x7_1 + 1)) ≤ 16) = true := decide_eq_true c22
                          by_cases c23 : x5_2.size + ((⟨#[97, 98, 99, 100, 101, 102, 103, 104, 105, 106, 107, 108, 109, 110, 111, 112]⟩ : ByteArray).extract (x7_1 : Int).toNat ((wrap64 (x7_1 + 1)) : Int).toNat).size ≤ 9223372036854775807
                          · rw [if_pos c23] at H
                            have c23b0 := eq_true c23
                            have c23b1 : decide (x5_2.size + ((⟨#[97, 98, 99, 100, 101, 102, 103, 104, 105, 106, 107, 108, 109, 110, 111, 112]⟩ : ByteArray).extract (x7_1 : Int).toNat ((wrap64 (x7_1 + 1)) : Int).toNat).size ≤ 9223372036854775807) = true := decide_eq_true c23
                            try have c23b2 : (9223372036854775807 < x5_2.size + ((⟨#[97, 98, 99, 100, 101, 102, 103, 104, 105, 106, 107, 108, 109, 110, 111, 112]⟩ : ByteArray).extract (x7_1 : Int).toNat ((wrap64 (x7_1 + 1)) : Int).toNat).size) = False := eq_false (Nat.not_lt.2 c23)
                            by_cases c24 : x6_2.size + ((⟨#[97, 98, 99, 100, 101, 102, 103, 104, 105, 106, 107, 108, 109, 110, 111, 112]⟩ : ByteArray).extract (x7_1 : Int).toNat ((wrap64 (x7_1 + 1)) : Int).toNat).size ≤ 9223372036854775807
                            · rw [if_pos c24] at H
                              have c24b0 := eq_true c24
                              have c24b1 : decide (x6_2.size + ((⟨#[97, 98, 99, 100, 101, 102, 103, 104, 105, 106, 107, 108, 109, 110, 111, 112]⟩ : ByteArray).extract (x7_1 : Int).toNat ((wrap64 (x7_1 + 1)) : Int).toNat).size ≤ 9223372036854775807) = true := decide_eq_true c24
                              try have c24b2 : (9223372036854775807 < x6_2.size + ((⟨#[97, 98, 99, 100, 101, 102, 103, 104, 105, 106, 107, 108, 109, 110, 111, 112]⟩ : ByteArray).extract (x7_1 : Int).toNat ((wrap64 (x7_1 + 1)) : Int).toNat).size) = False := eq_false (Nat.not_lt.2 c24)
                              have H' := Aside0.mk H
                              clear H
                              go_wp2
                              repeat (go_quiet (fail); try go_wp2)
                              go_roundg kj3
                              case measure => have := HK1.out; have := HK2.out; have := HJ3.out; omega
                              case rel => exact ⟨(x1_2), (x5_2 ++ ((⟨#[97, 98, 99, 100, 101, 102, 103, 104, 105, 106, 107, 108, 109, 110, 111, 112]⟩ : ByteArray).extract (x7_1 : Int).toNat ((wrap64 (x7_1 + 1)) : Int).toNat)), (x6_2 ++ ((⟨#[97, 98, 99, 100, 101, 102, 103, 104, 105, 106, 107, 108, 109, 110, 111, 112]⟩ : ByteArray).extract (x7_1 : Int).toNat ((wrap64 (x7_1 + 1)) : Int).toNat)), (wrap64 (x7_1 + 1)), (by first | rfl | (simp; done) | (simp [*]; done)), (by first | rfl | (simp; done) | (simp [*]; done)), (by first | rfl | (simp; done) | (simp [*]; done)), (by first | rfl | (simp; done) | (simp [*]; done)), H', ⟨by have := HK1.out; have := HK2.out; have := HJ3.out; omega⟩, by repeat (first | exact Drawn0.refl _ | apply Drawn0.step)⟩
                            · rw [if_neg c24] at H
                              exact absurd H (by simp)
                          · rw [if_neg c23] at H
                            exact absurd H (by simp)
                        · rw [if_neg c22] at H
                          exact absurd H (by simp)
                      · rw [if_neg c21] at H
                        exact absurd H (by simp)
                    · rw [if_neg c20] at H
                      exact absurd H (by simp)
      · rw [if_neg c3] at H
        have c3b0 : decide ((x5_1.size : Int) < (wrap64 (2 * a0))) = false := decide_eq_false c3
        clear c3
        obtain rfl := Option.some.inj H
        go_wp2
        repeat (go_quiet (fail); try go_wp2)
        go_ret
        exact ⟨by first | rfl | (simp; done) | (simp [*]; done), by repeat (first | exact Drawn0.refl _ | apply Drawn0.step)⟩

end Go.Proofs.Ytgdpeabbmbclbaa.Pr

-- Written by a program for this claim.
namespace Go.Proofs.Ytgdpeabbmbclbaa.Pr
open Go.RowKit Go.Proofs.YtgdpeabbmbclbaaW.PrintWords Go.Proofs.YtgdpeabbmbclbaaW.PrintLast Go.Proofs.YtgdpeabbmbclbaaW.PrintMore
attribute [local go_sem] max2_int min2_int max_two min_two max_three min_three max_four min_four   -- for this text's walks alone
set_option linter.unusedVariables false
set_option linter.unusedSimpArgs false

/-! ### spec_AllLoops: function 6 -/
def spec_AllLoops.l0 : Nat → Int → List ByteArray → Int → Option (List ByteArray × Bool)
  | 0, _, _, _ => none
  | k + 1, x0, x4, x5 => (spec_loCount.f k x0).bind fun t113 => (if x5 < t113 then ((spec_loRanked.f k x0 x5).bind fun t114 => (if x4.length < 8796093022208 then (spec_AllLoops.l0 k x0 (x4 ++ [t114]) (wrap64 (x5 + 1))) else (none))) else (some (x4, true)))
def spec_AllLoops.f (k : Nat) (a0 : Int) : Option (List ByteArray × Bool) := (spec_l1In.f a0 0 4).bind fun t112 => (if t112 = true then (spec_AllLoops.l0 k a0 ([] : List ByteArray) 0) else (some (([] : List ByteArray), false)))
theorem spec_AllLoops.mono_l : ∀ k, (∀ y0 y1 y2, LeO (spec_AllLoops.l0 k y0 y1 y2) (spec_AllLoops.l0 (k + 1) y0 y1 y2))
  | 0 => fun _ _ _ r h => by simp [spec_AllLoops.l0] at h
  | k + 1 => by
    have ih0 := spec_AllLoops.mono_l k
    · intro y0 y1 y2
      unfold spec_AllLoops.l0
      repeat' first
      | (with_reducible exact ih0 _ _ _)
      | (with_reducible exact spec_loCount.mono _ _)
      | (with_reducible exact spec_loRanked.mono _ _ _)
      | (with_reducible exact LeO.refl _)
      | (with_reducible exact LeO.none _)
      | (with_reducible refine LeO.ite ?_ ?_)
      | (with_reducible refine LeO.bind ?_ (fun _ => ?_))
      | exact ih0 _ _ _
      | exact spec_loCount.mono _ _
      | exact spec_loRanked.mono _ _ _
      | exact LeO.none _
      | refine LeO.ite ?_ ?_
      | refine LeO.bind ?_ (fun _ => ?_)
theorem spec_AllLoops.mono : ∀ a0 k, LeO (spec_AllLoops.f k a0) (spec_AllLoops.f (k + 1) a0) := by
  intro a0 k
  have ih0 := spec_AllLoops.mono_l k
  unfold spec_AllLoops.f
  repeat' first
      | (with_reducible exact ih0 _ _ _)
      | (with_reducible exact spec_loCount.mono _ _)
      | (with_reducible exact spec_loRanked.mono _ _ _)
      | (with_reducible exact LeO.refl _)
      | (with_reducible exact LeO.none _)
      | (with_reducible refine LeO.ite ?_ ?_)
      | (with_reducible refine LeO.bind ?_ (fun _ => ?_))
      | exact ih0 _ _ _
      | exact spec_loCount.mono _ _
      | exact spec_loRanked.mono _ _ _
      | exact LeO.none _
      | refine LeO.ite ?_ ?_
      | refine LeO.bind ?_ (fun _ => ?_)
set_option maxHeartbeats 8000000 in
set_option maxRecDepth 100000 in
theorem spec_AllLoops.calls (k : Nat) (a0 : Int) (r1 : List ByteArray) (r2 : Bool) (w : World) (h : spec_AllLoops.f k a0 = some (r1, r2)) :
    Calls Try.prog 6 #[.int .i64 a0] w fun e w' => ∃ v0_ : Value, e = .returned (.tuple #[v0_, .bool r2]) ∧ Kd.R Kd.string 9 w' w.heap.size (fun _ => True) v0_ r1 ∧ Below w.heap.size w w' := by
  have HB := Aside0.mk (Below.refl w.heap.size w)
  have H : ((spec_l1In.f a0 0 4).bind fun t112 => (if t112 = true then (spec_AllLoops.l0 k a0 ([] : List ByteArray) 0) else (some (([] : List ByteArray), false)))) = some (r1, r2) := h
  clear h
  replace H := Option.bind_eq_some_iff.mp H
  obtain ⟨t112, A20, H⟩ := H
  replace H : (if t112 = true then (spec_AllLoops.l0 k a0 ([] : List ByteArray) 0) else (some (([] : List ByteArray), false))) = some (r1, r2) := H
  have A2 := Aside0.mk A20
  clear A20
  by_cases c3 : t112 = true
  · subst c3
    have H1 : (spec_AllLoops.l0 k a0 ([] : List ByteArray) 0) = some (r1, r2) := by rw [if_pos rfl] at H; exact H
    clear H
    have H := H1
    clear H1
    have H' := Aside0.mk H
    clear H
    go_enter Try.func6, Try.ntmps6
    go_wp2_with (first | ((with_reducible refine gate_callee (f := 11) rfl ?_); refine goesL_ (some 7) rfl rfl Try.func11 (by kernel_rfl) rfl #[.int .i64 a0, .int .i64 0, .int .i64 4] rfl (by (try simp only [List.map_toArray, List.map_cons, List.map_nil]); first | done | rfl | (simp only [List.length_drop, List.length_take]; rfl)) ?_; (with_reducible refine (spec_l1In.calls a0 0 4 true _ A2.out).mono ?_); rintro e w' ⟨rfl, ⟨nd, rfl⟩⟩; refine ⟨_, rfl, ?_⟩))
    go_loopg [4, 5] k (fun kq v4 v5 w' => ∃ (x4_1 : List ByteArray) (x5_1 : Int), v5 = .int .i64 x5_1 ∧ Aside0 (spec_AllLoops.l0 kq a0 x4_1 x5_1 = some (r1, r2)) ∧ Aside0 (kq ≤ k) ∧ Aside0 (Kd.R Kd.string 9 w' w.heap.size (fun _ => True) v4 x4_1) ∧ Aside0 (Below w.heap.size w w'))
    case atStart => exact ⟨(([] : List ByteArray)), (0), (by first | rfl | (simp; done) | (simp [*]; done)), H', ⟨Nat.le_refl _⟩, ⟨by first | exact Kd.R_nil _ _ _ _ _ | exact Kd.N_nil _ _ _ _ _ | exact Kd.V_nil _ _ _ _ _ | exact Kd.Q_nil _ _ _ _ _ | exact Kd.S_nil _ _ _ _ _⟩, ⟨by repeat (first | (with_reducible first | exact HB.out | apply below_alloc | apply pw_below_drewN | apply below_drew1) | exact HB.out)⟩⟩
    case round =>
      clear H'
      try clear c1
      try clear p2
      try clear c3
      obtain ⟨x4_1, x5_1, rfl, HA, HK1, HO_4, HB⟩ := hrel
      cases gk with
      | zero => exact absurd HA.out (by simp [spec_AllLoops.l0])
      | succ k1 =>
        have H := HA.out
        clear HA
        simp only [spec_AllLoops.l0] at H
        replace H := Option.bind_eq_some_iff.mp H
        obtain ⟨t113, A40, H⟩ := H
        replace H : (if x5_1 < t113 then ((spec_loRanked.f k1 a0 x5_1).bind fun t114 => (if x4_1.length < 8796093022208 then (spec_AllLoops.l0 k1 a0 (x4_1 ++ [t114]) (wrap64 (x5_1 + 1))) else (none))) else (some (x4_1, true))) = some (r1, r2) := H
        have A4 := Aside0.mk A40
        clear A40
        by_cases c5 : x5_1 < t113
        · rw [if_pos c5] at H
          have c5b0 : decide (x5_1 < t113) = true := decide_eq_true c5
          clear c5
          replace H := Option.bind_eq_some_iff.mp H
          obtain ⟨t114, A60, H⟩ := H
          replace H : (if x4_1.length < 8796093022208 then (spec_AllLoops.l0 k1 a0 (x4_1 ++ [t114]) (wrap64 (x5_1 + 1))) else (none)) = some (r1, r2) := H
          have A6 := Aside0.mk A60
          clear A60
          by_cases c7 : x4_1.length < 8796093022208
          · rw [if_pos c7] at H
            have LMc7 := Aside0.mk c7
            clear c7
            obtain ⟨y115, hy115⟩ : ∃ y_ : List ByteArray, y_ = (x4_1 ++ [t114]) := ⟨_, rfl⟩
            replace H : (spec_AllLoops.l0 k1 a0 y115 (wrap64 (x5_1 + 1))) = some (r1, r2) := by first | (rw [hy115]; with_reducible exact H) | (have H2_ := (Option.bind_some _ _).symm.trans H; rw [hy115]; with_reducible exact H2_) | (have H2_ := (Option.bind_some _ _).symm.trans H; with_reducible exact H2_) | with_reducible exact H | (rw [hy115]; exact H) | exact H
            have Ny115 := Aside0.mk hy115
            clear hy115
            have H' := Aside0.mk H
            clear H
            go_wp2_with (first | ((with_reducible refine gate_callee (f := 12) rfl ?_); refine goesL_ (some 11) rfl rfl Try.func12 (by kernel_rfl) rfl #[.int .i64 a0] rfl (by (try simp only [List.map_toArray, List.map_cons, List.map_nil]); first | done | rfl | (simp only [List.length_drop, List.length_take]; rfl)) ?_; (with_reducible refine (spec_loCount.calls k1 a0 t113 _ A4.out).mono ?_); rintro e w' ⟨rfl, ⟨nd, rfl⟩⟩; refine ⟨_, rfl, ?_⟩) | ((with_reducible refine gate_callee (f := 13) rfl ?_); refine goesL_ (some 18) rfl rfl Try.func13 (by kernel_rfl) rfl #[.int .i64 a0, .int .i64 x5_1] rfl (by (try simp only [List.map_toArray, List.map_cons, List.map_nil]); first | done | rfl | (simp only [List.length_drop, List.length_take]; rfl)) ?_; (with_reducible refine (spec_loRanked.calls k1 a0 x5_1 t114 _ A6.out).mono ?_); rintro e w' ⟨rfl, ⟨nd, rfl⟩⟩; refine ⟨_, rfl, ?_⟩) | ((with_reducible refine gate_builtin (b := .append) (xs := #[.tmp 15, .tmp 19]) rfl ?_); at_builtin; refine Kd.R_append Kd.string (w0 := w) w.heap.size rfl (.tmp 15) (.tmp 19) 25 9 (.string ⟨#[]⟩) 16 rfl Try.underlying25 info9 rfl (by decide) (by omega) u4 x4_1 t114 [.string t114] (fun _ => True) (fun _ => False) rfl rfl ?aP (fun _ hk => hk.elim) ?aF ?aO ?aB ?aS ?aL ?_; (case aP => exact rfl); (case aB => exact (by repeat (first | (with_reducible first | exact HB.out | apply below_alloc | apply pw_below_drewN | apply below_drew1) | exact HB.out))); (case aF => exact (fun _ _ => trivial)); (case aO => exact (by (with_reducible repeat (first | apply Kd.R_alloc | apply Kd.R_drewN | apply Kd.R_drew)); exact HO_4.out)); (case aS => exact (below_size (by repeat (first | (with_reducible first | exact HB.out | apply below_alloc | apply pw_below_drewN | apply below_drew1) | exact HB.out)))); (case aL => have := LMc7.out; omega); intro v116 w8 ho hb hg hat; rw [← Ny115.out] at ho; have n0_ := Aside0.mk (hb); have n1_ := Aside0.mk (ho); clear HB; clear HO_4; have HB := n0_; have HO117 := n1_; clear n0_ n1_; clear ho hb hg hat))
            go_roundg k1
            case measure => have := HK1.out; omega
            case rel => exact ⟨(y115), (wrap64 (x5_1 + 1)), (by first | rfl | (simp; done) | (simp [*]; done)), H', ⟨by have := HK1.out; omega⟩, ⟨by (with_reducible repeat (first | apply Kd.R_alloc | apply Kd.R_drewN | apply Kd.R_drew)); exact HO117.out⟩, ⟨by repeat (first | (with_reducible first | exact HB.out | apply below_alloc | apply pw_below_drewN | apply below_drew1) | exact HB.out)⟩⟩
          · rw [if_neg c7] at H
            exact absurd H (by simp)
        · rw [if_neg c5] at H
          have c5b0 : decide (x5_1 < t113) = false := decide_eq_false c5
          clear c5
          simp only [Option.some.injEq, Prod.mk.injEq] at H
          obtain ⟨rfl, rfl⟩ := H
          go_wp2_with (first | ((with_reducible refine gate_callee (f := 12) rfl ?_); refine goesL_ (some 11) rfl rfl Try.func12 (by kernel_rfl) rfl #[.int .i64 a0] rfl (by (try simp only [List.map_toArray, List.map_cons, List.map_nil]); first | done | rfl | (simp only [List.length_drop, List.length_take]; rfl)) ?_; (with_reducible refine (spec_loCount.calls k1 a0 t113 _ A4.out).mono ?_); rintro e w' ⟨rfl, ⟨nd, rfl⟩⟩; refine ⟨_, rfl, ?_⟩))
          go_ret2
          exact ⟨_, by first | rfl | (simp [errW_none, errW_some] <;> rfl) | (simp [*, errW_none, errW_some] <;> rfl), by (with_reducible repeat (first | apply Kd.R_alloc | apply Kd.R_drewN | apply Kd.R_drew)); exact HO_4.out, by repeat (first | (with_reducible first | exact HB.out | apply below_alloc | apply pw_below_drewN | apply below_drew1) | exact HB.out)⟩
  · replace c3 := Bool.eq_false_iff.mpr c3
    subst c3
    have H1 : (some (([] : List ByteArray), false)) = some (r1, r2) := by rw [if_neg (show ¬ (false = true) by decide)] at H; exact H
    clear H
    have H := H1
    clear H1
    simp only [Option.some.injEq, Prod.mk.injEq] at H
    obtain ⟨rfl, rfl⟩ := H
    go_enter Try.func6, Try.ntmps6
    go_wp2_with (first | ((with_reducible refine gate_callee (f := 11) rfl ?_); refine goesL_ (some 7) rfl rfl Try.func11 (by kernel_rfl) rfl #[.int .i64 a0, .int .i64 0, .int .i64 4] rfl (by (try simp only [List.map_toArray, List.map_cons, List.map_nil]); first | done | rfl | (simp only [List.length_drop, List.length_take]; rfl)) ?_; (with_reducible refine (spec_l1In.calls a0 0 4 false _ A2.out).mono ?_); rintro e w' ⟨rfl, ⟨nd, rfl⟩⟩; refine ⟨_, rfl, ?_⟩))
    go_ret2
    exact ⟨_, by first | rfl | (simp [errW_none, errW_some] <;> rfl) | (simp [*, errW_none, errW_some] <;> rfl), by first | exact Kd.R_nil _ _ _ _ _ | exact Kd.N_nil _ _ _ _ _ | exact Kd.V_nil _ _ _ _ _ | exact Kd.Q_nil _ _ _ _ _ | exact Kd.S_nil _ _ _ _ _, by repeat (first | (with_reducible first | exact HB.out | apply below_alloc | apply pw_below_drewN | apply below_drew1) | exact HB.out)⟩

end Go.Proofs.Ytgdpeabbmbclbaa.Pr

-- Written by a program for this claim.
namespace Go.Proofs.Ytgdpeabbmbclbaa.Pr
open Go.RowKit Go.Proofs.YtgdpeabbmbclbaaW.PrintWords Go.Proofs.YtgdpeabbmbclbaaW.PrintLast Go.Proofs.YtgdpeabbmbclbaaW.PrintMore
attribute [local go_sem] max2_int min2_int max_two min_two max_three min_three max_four min_four   -- for this text's walks alone
set_option linter.unusedVariables false
set_option linter.unusedSimpArgs false

/-! ### spec_loPlaces: function 26 -/
def spec_loPlaces.l0 : Nat → ByteArray → Int → Int → Int → Int → Option (Int × Int)
  | 0, _, _, _, _, _ => none
  | k + 1, x0, x1, x6, x7, x8 => if x8 < (x0.size : Int) then (if 0 ≤ x8 then (if (bt x0 x8) = x1 then (if x6 < 0 then (spec_loPlaces.l0 k x0 x1 x8 x8 (wrap64 (x8 + 1))) else (spec_loPlaces.l0 k x0 x1 x6 x8 (wrap64 (x8 + 1)))) else (spec_loPlaces.l0 k x0 x1 x6 x7 (wrap64 (x8 + 1)))) else (none)) else (some (x6, x7))
def spec_loPlaces.f (k : Nat) (a0 : ByteArray) (a1 : Int) : Option (Int × Int) := spec_loPlaces.l0 k a0 a1 (-1) (-1) 0
theorem spec_loPlaces.mono_l : ∀ k, (∀ y0 y1 y2 y3 y4, LeO (spec_loPlaces.l0 k y0 y1 y2 y3 y4) (spec_loPlaces.l0 (k + 1) y0 y1 y2 y3 y4))
  | 0 => fun _ _ _ _ _ r h => by simp [spec_loPlaces.l0] at h
  | k + 1 => by
    have ih0 := spec_loPlaces.mono_l k
    · intro y0 y1 y2 y3 y4
      unfold spec_loPlaces.l0
      repeat' first
      | (with_reducible exact ih0 _ _ _ _ _)
      | (with_reducible exact LeO.refl _)
      | (with_reducible exact LeO.none _)
      | (with_reducible refine LeO.ite ?_ ?_)
      | (with_reducible refine LeO.bind ?_ (fun _ => ?_))
      | exact ih0 _ _ _ _ _
      | exact LeO.none _
      | refine LeO.ite ?_ ?_
      | refine LeO.bind ?_ (fun _ => ?_)
theorem spec_loPlaces.mono : ∀ a0 a1 k, LeO (spec_loPlaces.f k a0 a1) (spec_loPlaces.f (k + 1) a0 a1) := by
  intro a0 a1 k
  have ih0 := spec_loPlaces.mono_l k
  unfold spec_loPlaces.f
  repeat' first
      | (with_reducible exact ih0 _ _ _ _ _)
      | (with_reducible exact LeO.refl _)
      | (with_reducible exact LeO.none _)
      | (with_reducible refine LeO.ite ?_ ?_)
      | (with_reducible refine LeO.bind ?_ (fun _ => ?_))
      | exact ih0 _ _ _ _ _
      | exact LeO.none _
      | refine LeO.ite ?_ ?_
      | refine LeO.bind ?_ (fun _ => ?_)
set_option maxHeartbeats 8000000 in
set_option maxRecDepth 100000 in
theorem spec_loPlaces.calls (k : Nat) (a0 : ByteArray) (a1 : Int) (r1 : Int) (r2 : Int) (w : World) (h : spec_loPlaces.f k a0 a1 = some (r1, r2)) :
    Calls Try.prog 26 #[.string a0, .int .u8 a1] w fun e w' => e = .returned (.tuple #[.int .i64 r1, .int .i64 r2]) ∧ Drawn0 w w' := by
  have H : (spec_loPlaces.l0 k a0 a1 (-1) (-1) 0) = some (r1, r2) := h
  clear h
  have H' := Aside0.mk H
  clear H
  go_enter Try.func26, Try.ntmps26
  go_wp2
  go_loopg [6, 7, 8] k (fun kq v6 v7 v8 w' => ∃ (x6_1 : Int) (x7_1 : Int) (x8_1 : Int), v6 = .int .i64 x6_1 ∧ v7 = .int .i64 x7_1 ∧ v8 = .int .i64 x8_1 ∧ Aside0 (spec_loPlaces.l0 kq a0 a1 x6_1 x7_1 x8_1 = some (r1, r2)) ∧ Aside0 (kq ≤ k) ∧ Drawn0 w w')
  case atStart => exact ⟨((-1)), ((-1)), (0), (by first | rfl | (simp; done) | (simp [*]; done)), (by first | rfl | (simp; done) | (simp [*]; done)), (by first | rfl | (simp; done) | (simp [*]; done)), H', ⟨Nat.le_refl _⟩, by repeat (first | exact Drawn0.refl _ | apply Drawn0.step)⟩
  case round =>
    clear H'
    try clear c2
    try clear p2
    obtain ⟨x6_1, x7_1, x8_1, rfl, rfl, rfl, HA, HK1, ⟨m1, rfl⟩⟩ := hrel
    cases gk with
    | zero => exact absurd HA.out (by simp [spec_loPlaces.l0])
    | succ k1 =>
      have H := HA.out
      clear HA
      simp only [spec_loPlaces.l0] at H
      by_cases c3 : x8_1 < (a0.size : Int)
      · rw [if_pos c3] at H
        have c3b0 : decide (x8_1 < (a0.size : Int)) = true := decide_eq_true c3
        clear c3
        by_cases c4 : 0 ≤ x8_1
        · rw [if_pos c4] at H
          have c4b0 : decide (0 ≤ x8_1) = true := decide_eq_true c4
          clear c4
          by_cases c6 : (bt a0 x8_1) = a1
          · rw [if_pos c6] at H
            have c6b0 : ((bt a0 x8_1) == a1) = true := beq_iff_eq.mpr c6
            have c6b1 : ((bt a0 x8_1) != a1) = false := bne_eq_false_iff_eq.mpr c6
            clear c6
            by_cases c7 : x6_1 < 0
            · rw [if_pos c7] at H
              have c7b0 : decide (x6_1 < 0) = true := decide_eq_true c7
              clear c7
              have H' := Aside0.mk H
              clear H
              have p5 : 0 ≤ (x8_1 : Int) := of_decide_eq_true (by first | (with_reducible assumption) | assumption)
              have q5 : x8_1 < (a0.size : Int) := of_decide_eq_true (by first | (with_reducible assumption) | assumption)
              have hx5 := bt_at a0 x8_1
              replace p5 := eq_true p5
              replace q5 := eq_true q5
              go_wp2
              go_roundg k1
              case measure => have := HK1.out; omega
              case rel => exact ⟨(x8_1), (x8_1), (wrap64 (x8_1 + 1)), (by first | rfl | (simp; done) | (simp [*]; done)), (by first | rfl | (simp; done) | (simp [*]; done)), (by first | rfl | (simp; done) | (simp [*]; done)), H', ⟨by have := HK1.out; omega⟩, by repeat (first | exact Drawn0.refl _ | apply Drawn0.step)⟩
            · rw [if_neg c7] at H
              have c7b0 : decide (x6_1 < 0) = false := decide_eq_false c7
              clear c7
              have H' := Aside0.mk H
              clear H
              have p5 : 0 ≤ (x8_1 : Int) := of_decide_eq_true (by first | (with_reducible assumption) | assumption)
              have q5 : x8_1 < (a0.size : Int) := of_decide_eq_true (by first | (with_reducible assumption) | assumption)
              have hx5 := bt_at a0 x8_1
              replace p5 := eq_true p5
              replace q5 := eq_true q5
              go_wp2
              go_roundg k1
              case measure => have := HK1.out; omega
              case rel => exact ⟨(x6_1), (x8_1), (wrap64 (x8_1 + 1)), (by first | rfl | (simp; done) | (simp [*]; done)), (by first | rfl | (simp; done) | (simp [*]; done)), (by first | rfl | (simp; done) | (simp [*]; done)), H', ⟨by have := HK1.out; omega⟩, by repeat (first | exact Drawn0.refl _ | apply Drawn0.step)⟩
          · rw [if_neg c6] at H
            have c6b0 : ((bt a0 x8_1) == a1) = false := beq_eq_false_iff_ne.mpr c6
            have c6b1 : ((bt a0 x8_1) != a1) = true := bne_iff_ne.mpr c6
            have H' := Aside0.mk H
            clear H
            have p5 : 0 ≤ (x8_1 : Int) := of_decide_eq_true (by first | (with_reducible assumption) | assumption)
            have q5 : x8_1 < (a0.size : Int) := of_decide_eq_true (by first | (with_reducible assumption) | assumption)
            have hx5 := bt_at a0 x8_1
            replace p5 := eq_true p5
            replace q5 := eq_true q5
            go_wp2
            go_roundg k1
            case measure => have := HK1.out; omega
            case rel => exact ⟨(x6_1), (x7_1), (wrap64 (x8_1 + 1)), (by first | rfl | (simp; done) | (simp [*]; done)), (by first | rfl | (simp; done) | (simp [*]; done)), (by first | rfl | (simp; done) | (simp [*]; done)), H', ⟨by have := HK1.out; omega⟩, by repeat (first | exact Drawn0.refl _ | apply Drawn0.step)⟩
        · rw [if_neg c4] at H
          exact absurd H (by simp)
      · rw [if_neg c3] at H
        have c3b0 : decide (x8_1 < (a0.size : Int)) = false := decide_eq_false c3
        clear c3
        simp only [Option.some.injEq, Prod.mk.injEq] at H
        obtain ⟨rfl, rfl⟩ := H
        go_wp2
        go_ret2
        exact ⟨by first | rfl | (simp; done) | (simp [*]; done), by repeat (first | exact Drawn0.refl _ | apply Drawn0.step)⟩

end Go.Proofs.Ytgdpeabbmbclbaa.Pr

-- Written by a program for this claim.
namespace Go.Proofs.Ytgdpeabbmbclbaa.Pr
open Go.RowKit Go.Proofs.YtgdpeabbmbclbaaW.PrintWords Go.Proofs.YtgdpeabbmbclbaaW.PrintLast Go.Proofs.YtgdpeabbmbclbaaW.PrintMore
attribute [local go_sem] max2_int min2_int max_two min_two max_three min_three max_four min_four   -- for this text's walks alone
set_option linter.unusedVariables false
set_option linter.unusedSimpArgs false

/-! ### spec_loLaced: function 15 -/
def spec_loLaced.l0 : Nat → ByteArray → Int → Int → Int → Int → Int → Option (Bool)
  | 0, _, _, _, _, _, _ => none
  | k + 1, x0, x1, x2, x8, x9, x10 => if x10 < x8 then (if 0 ≤ x10 then (if x10 < (x0.size : Int) then (if (bt x0 x10) = x2 then (spec_loLaced.l0 k x0 x1 x2 x8 (wrap64 (x9 + 1)) (wrap64 (x10 + 1))) else (spec_loLaced.l0 k x0 x1 x2 x8 x9 (wrap64 (x10 + 1)))) else (none)) else (none)) else (if x1 = x2 then (some false) else (some (x9 == 1)))
def spec_loLaced.f (k : Nat) (a0 : ByteArray) (a1 : Int) (a2 : Int) : Option (Bool) := (spec_loPlaces.f k a0 a1).bind fun bt118 => (spec_loLaced.l0 k a0 a1 a2 bt118.2 0 (wrap64 (bt118.1 + 1)))
theorem spec_loLaced.mono_l : ∀ k, (∀ y0 y1 y2 y3 y4 y5, LeO (spec_loLaced.l0 k y0 y1 y2 y3 y4 y5) (spec_loLaced.l0 (k + 1) y0 y1 y2 y3 y4 y5))
  | 0 => fun _ _ _ _ _ _ r h => by simp [spec_loLaced.l0] at h
  | k + 1 => by
    have ih0 := spec_loLaced.mono_l k
    · intro y0 y1 y2 y3 y4 y5
      unfold spec_loLaced.l0
      repeat' first
      | (with_reducible exact ih0 _ _ _ _ _ _)
      | (with_reducible exact spec_loPlaces.mono _ _ _)
      | (with_reducible exact LeO.refl _)
      | (with_reducible exact LeO.none _)
      | (with_reducible refine LeO.ite ?_ ?_)
      | (with_reducible refine LeO.bind ?_ (fun _ => ?_))
      | exact ih0 _ _ _ _ _ _
      | exact spec_loPlaces.mono _ _ _
      | exact LeO.none _
      | refine LeO.ite ?_ ?_
      | refine LeO.bind ?_ (fun _ => ?_)
theorem spec_loLaced.mono : ∀ a0 a1 a2 k, LeO (spec_loLaced.f k a0 a1 a2) (spec_loLaced.f (k + 1) a0 a1 a2) := by
  intro a0 a1 a2 k
  have ih0 := spec_loLaced.mono_l k
  unfold spec_loLaced.f
  repeat' first
      | (with_reducible exact ih0 _ _ _ _ _ _)
      | (with_reducible exact spec_loPlaces.mono _ _ _)
      | (with_reducible exact LeO.refl _)
      | (with_reducible exact LeO.none _)
      | (with_reducible refine LeO.ite ?_ ?_)
      | (with_reducible refine LeO.bind ?_ (fun _ => ?_))
      | exact ih0 _ _ _ _ _ _
      | exact spec_loPlaces.mono _ _ _
      | exact LeO.none _
      | refine LeO.ite ?_ ?_
      | refine LeO.bind ?_ (fun _ => ?_)
set_option maxHeartbeats 8000000 in
set_option maxRecDepth 100000 in
theorem spec_loLaced.calls (k : Nat) (a0 : ByteArray) (a1 : Int) (a2 : Int) (r : Bool) (w : World) (h : spec_loLaced.f k a0 a1 a2 = some r) :
    Calls Try.prog 15 #[.string a0, .int .u8 a1, .int .u8 a2] w fun e w' => e = .returned (.bool r) ∧ Drawn0 w w' := by
  have H : ((spec_loPlaces.f k a0 a1).bind fun bt118 => (spec_loLaced.l0 k a0 a1 a2 bt118.2 0 (wrap64 (bt118.1 + 1)))) = some r := h
  clear h
  replace H := Option.bind_eq_some_iff.mp H
  obtain ⟨⟨t118, t119⟩, A40, H⟩ := H
  replace H : (spec_loLaced.l0 k a0 a1 a2 t119 0 (wrap64 (t118 + 1))) = some r := H
  have A4 := Aside0.mk A40
  clear A40
  have H' := Aside0.mk H
  clear H
  go_enter Try.func15, Try.ntmps15
  go_wp2_with (first | ((with_reducible refine gate_callee (f := 26) rfl ?_); refine goesL_ (some 14) rfl rfl Try.func26 (by kernel_rfl) rfl #[.string a0, .int .u8 a1] rfl (by (try simp only [List.map_toArray, List.map_cons, List.map_nil]); first | done | rfl | (simp only [List.length_drop, List.length_take]; rfl)) ?_; (with_reducible refine (spec_loPlaces.calls k a0 a1 t118 t119 _ A4.out).mono ?_); rintro e w' ⟨rfl, ⟨nd, rfl⟩⟩; refine ⟨_, rfl, ?_⟩))
  go_loopg [9, 10] k (fun kq v9 v10 w' => ∃ (x9_1 : Int) (x10_1 : Int), v9 = .int .i64 x9_1 ∧ v10 = .int .i64 x10_1 ∧ Aside0 (spec_loLaced.l0 kq a0 a1 a2 t119 x9_1 x10_1 = some r) ∧ Aside0 (kq ≤ k) ∧ Drawn0 w w')
  case atStart => exact ⟨(0), (wrap64 (t118 + 1)), (by first | rfl | (simp; done) | (simp [*]; done)), (by first | rfl | (simp; done) | (simp [*]; done)), H', ⟨Nat.le_refl _⟩, by repeat (first | exact Drawn0.refl _ | apply Drawn0.step)⟩
  case round =>
    clear H'
    try clear c1
    try clear c2
    try clear p2
    obtain ⟨x9_1, x10_1, rfl, rfl, HA, HK1, ⟨m1, rfl⟩⟩ := hrel
    cases gk with
    | zero => exact absurd HA.out (by simp [spec_loLaced.l0])
    | succ k1 =>
      have H := HA.out
      clear HA
      simp only [spec_loLaced.l0] at H
      by_cases c5 : x10_1 < t119
      · rw [if_pos c5] at H
        have c5b0 : decide (x10_1 < t119) = true := decide_eq_true c5
        clear c5
        by_cases c6 : 0 ≤ x10_1
        · rw [if_pos c6] at H
          have c6b0 : decide (0 ≤ x10_1) = true := decide_eq_true c6
          clear c6
          by_cases c7 : x10_1 < (a0.size : Int)
          · rw [if_pos c7] at H
            have c7b0 : decide (x10_1 < (a0.size : Int)) = true := decide_eq_true c7
            clear c7
            by_cases c9 : (bt a0 x10_1) = a2
            · rw [if_pos c9] at H
              have c9b0 : ((bt a0 x10_1) == a2) = true := beq_iff_eq.mpr c9
              have c9b1 : ((bt a0 x10_1) != a2) = false := bne_eq_false_iff_eq.mpr c9
              clear c9
              have H' := Aside0.mk H
              clear H
              have p8 : 0 ≤ (x10_1 : Int) := of_decide_eq_true (by first | (with_reducible assumption) | assumption)
              have q8 : x10_1 < (a0.size : Int) := of_decide_eq_true (by first | (with_reducible assumption) | assumption)
              have hx8 := bt_at a0 x10_1
              replace p8 := eq_true p8
              replace q8 := eq_true q8
              go_wp2
              go_roundg k1
              case measure => have := HK1.out; omega
              case rel => exact ⟨(wrap64 (x9_1 + 1)), (wrap64 (x10_1 + 1)), (by first | rfl | (simp; done) | (simp [*]; done)), (by first | rfl | (simp; done) | (simp [*]; done)), H', ⟨by have := HK1.out; omega⟩, by repeat (first | exact Drawn0.refl _ | apply Drawn0.step)⟩
            · rw [if_neg c9] at H
              have c9b0 : ((bt a0 x10_1) == a2) = false := beq_eq_false_iff_ne.mpr c9
              have c9b1 : ((bt a0 x10_1) != a2) = true := bne_iff_ne.mpr c9
              have H' := Aside0.mk H
              clear H
              have p8 : 0 ≤ (x10_1 : Int) := of_decide_eq_true (by first | (with_reducible assumption) | assumption)
              have q8 : x10_1 < (a0.size : Int) := of_decide_eq_true (by first | (with_reducible assumption) | assumption)
              have hx8 := bt_at a0 x10_1
              replace p8 := eq_true p8
              replace q8 := eq_true q8
              go_wp2
              go_roundg k1
              case measure => have := HK1.out; omega
              case rel => exact ⟨(x9_1), (wrap64 (x10_1 + 1)), (by first | rfl | (simp; done) | (simp [*]; done)), (by first | rfl | (simp; done) | (simp [*]; done)), H', ⟨by have := HK1.out; omega⟩, by repeat (first | exact Drawn0.refl _ | apply Drawn0.step)⟩
          · rw [if_neg c7] at H
            exact absurd H (by simp)
        · rw [if_neg c6] at H
          exact absurd H (by simp)
      · rw [if_neg c5] at H
        have c5b0 : decide (x10_1 < t119) = false := decide_eq_false c5
        clear c5
        by_cases c10 : a1 = a2
        · rw [if_pos c10] at H
          have c10b0 : (a1 == a2) = true := beq_iff_eq.mpr c10
          have c10b1 : (a1 != a2) = false := bne_eq_false_iff_eq.mpr c10
          clear c10
          obtain rfl := Option.some.inj H
          go_wp2
          go_ret
          exact ⟨by first | rfl | (simp; done) | (simp [*]; done), by repeat (first | exact Drawn0.refl _ | apply Drawn0.step)⟩
        · rw [if_neg c10] at H
          have c10b0 : (a1 == a2) = false := beq_eq_false_iff_ne.mpr c10
          have c10b1 : (a1 != a2) = true := bne_iff_ne.mpr c10
          obtain rfl := Option.some.inj H
          go_wp2
          go_ret
          exact ⟨by first | rfl | (simp; done) | (simp [*]; done), by repeat (first | exact Drawn0.refl _ | apply Drawn0.step)⟩

end Go.Proofs.Ytgdpeabbmbclbaa.Pr

-- Written by a program for this claim.
namespace Go.Proofs.Ytgdpeabbmbclbaa.Pr
open Go.RowKit Go.Proofs.YtgdpeabbmbclbaaW.PrintWords Go.Proofs.YtgdpeabbmbclbaaW.PrintLast Go.Proofs.YtgdpeabbmbclbaaW.PrintMore
attribute [local go_sem] max2_int min2_int max_two min_two max_three min_three max_four min_four   -- for this text's walks alone
set_option linter.unusedVariables false
set_option linter.unusedSimpArgs false

/-! ### spec_loWith: function 25 -/
def spec_loWith.l0 : Nat → ByteArray → Int → ByteArray → Int → Option (ByteArray)
  | 0, _, _, _, _ => none
  | k + 1, x0, x1, x5, x6 => if x6 < (wrap64 ((x0.size : Int) / 2)) then ((spec_loLaced.f k x0 x1 ((wrap64 (97 + x6)) % 256)).bind fun t120 => (if t120 = true then (if 0 ≤ x6 then (if x6 ≤ (wrap64 (x6 + 1)) then (if (wrap64 (x6 + 1)) ≤ 16 then (if x5.size + ((⟨#[97, 98, 99, 100, 101, 102, 103, 104, 105, 106, 107, 108, 109, 110, 111, 112]⟩ : ByteArray).extract (x6 : Int).toNat ((wrap64 (x6 + 1)) : Int).toNat).size ≤ 9223372036854775807 then (spec_loWith.l0 k x0 x1 (x5 ++ ((⟨#[97, 98, 99, 100, 101, 102, 103, 104, 105, 106, 107, 108, 109, 110, 111, 112]⟩ : ByteArray).extract (x6 : Int).toNat ((wrap64 (x6 + 1)) : Int).toNat)) (wrap64 (x6 + 1))) else (none)) else (none)) else (none)) else (none)) else (spec_loWith.l0 k x0 x1 x5 (wrap64 (x6 + 1))))) else (some x5)
def spec_loWith.f (k : Nat) (a0 : ByteArray) (a1 : Int) : Option (ByteArray) := spec_loWith.l0 k a0 a1 (⟨#[]⟩ : ByteArray) 0
theorem spec_loWith.mono_l : ∀ k, (∀ y0 y1 y2 y3, LeO (spec_loWith.l0 k y0 y1 y2 y3) (spec_loWith.l0 (k + 1) y0 y1 y2 y3))
  | 0 => fun _ _ _ _ r h => by simp [spec_loWith.l0] at h
  | k + 1 => by
    have ih0 := spec_loWith.mono_l k
    · intro y0 y1 y2 y3
      unfold spec_loWith.l0
      repeat' first
      | (with_reducible exact ih0 _ _ _ _)
      | (with_reducible exact spec_loLaced.mono _ _ _ _)
      | (with_reducible exact LeO.refl _)
      | (with_reducible exact LeO.none _)
      | (with_reducible refine LeO.ite ?_ ?_)
      | (with_reducible refine LeO.bind ?_ (fun _ => ?_))
      | exact ih0 _ _ _ _
      | exact spec_loLaced.mono _ _ _ _
      | exact LeO.none _
      | refine LeO.ite ?_ ?_
      | refine LeO.bind ?_ (fun _ => ?_)
theorem spec_loWith.mono : ∀ a0 a1 k, LeO (spec_loWith.f k a0 a1) (spec_loWith.f (k + 1) a0 a1) := by
  intro a0 a1 k
  have ih0 := spec_loWith.mono_l k
  unfold spec_loWith.f
  repeat' first
      | (with_reducible exact ih0 _ _ _ _)
      | (with_reducible exact spec_loLaced.mono _ _ _ _)
      | (with_reducible exact LeO.refl _)
      | (with_reducible exact LeO.none _)
      | (with_reducible refine LeO.ite ?_ ?_)
      | (with_reducible refine LeO.bind ?_ (fun _ => ?_))
      | exact ih0 _ _ _ _
      | exact spec_loLaced.mono _ _ _ _
      | exact LeO.none _
      | refine LeO.ite ?_ ?_
      | refine LeO.bind ?_ (fun _ => ?_)
set_option maxHeartbeats 8000000 in
set_option maxRecDepth 100000 in
theorem spec_loWith.calls (k : Nat) (a0 : ByteArray) (a1 : Int) (r : ByteArray) (w : World) (h : spec_loWith.f k a0 a1 = some r) :
    Calls Try.prog 25 #[.string a0, .int .u8 a1] w fun e w' => e = .returned (.string r) ∧ Drawn0 w w' := by
  have H : (spec_loWith.l0 k a0 a1 (⟨#[]⟩ : ByteArray) 0) = some r := h
  clear h
  have H' := Aside0.mk H
  clear H
  go_enter Try.func25, Try.ntmps25
  go_wp2
  go_loopg [5, 6] k (fun kq v5 v6 w' => ∃ (x5_1 : ByteArray) (x6_1 : Int), v5 = .string x5_1 ∧ v6 = .int .i64 x6_1 ∧ Aside0 (spec_loWith.l0 kq a0 a1 x5_1 x6_1 = some r) ∧ Aside0 (kq ≤ k) ∧ Drawn0 w w')
  case atStart => exact ⟨((⟨#[]⟩ : ByteArray)), (0), (by first | rfl | (simp; done) | (simp [*]; done)), (by first | rfl | (simp; done) | (simp [*]; done)), H', ⟨Nat.le_refl _⟩, by repeat (first | exact Drawn0.refl _ | apply Drawn0.step)⟩
  case round =>
    clear H'
    try clear c2
    try clear p2
    obtain ⟨x5_1, x6_1, rfl, rfl, HA, HK1, ⟨m1, rfl⟩⟩ := hrel
    cases gk with
    | zero => exact absurd HA.out (by simp [spec_loWith.l0])
    | succ k1 =>
      have H := HA.out
      clear HA
      simp only [spec_loWith.l0] at H
      by_cases c3 : x6_1 < (wrap64 ((a0.size : Int) / 2))
      · rw [if_pos c3] at H
        have c3b0 : decide (x6_1 < (wrap64 ((a0.size : Int) / 2))) = true := decide_eq_true c3
        clear c3
        replace H := Option.bind_eq_some_iff.mp H
        obtain ⟨t120, A40, H⟩ := H
        replace H : (if t120 = true then (if 0 ≤ x6_1 then (if x6_1 ≤ (wrap64 (x6_1 + 1)) then (if (wrap64 (x6_1 + 1)) ≤ 16 then (if x5_1.size + ((⟨#[97, 98, 99, 100, 101, 102, 103, 104, 105, 106, 107, 108, 109, 110, 111, 112]⟩ : ByteArray).extract (x6_1 : Int).toNat ((wrap64 (x6_1 + 1)) : Int).toNat).size ≤ 9223372036854775807 then (spec_loWith.l0 k1 a0 a1 (x5_1 ++ ((⟨#[97, 98, 99, 100, 101, 102, 103, 104, 105, 106, 107, 108, 109, 110, 111, 112]⟩ : ByteArray).extract (x6_1 : Int).toNat ((wrap64 (x6_1 + 1)) : Int).toNat)) (wrap64 (x6_1 + 1))) else (none)) else (none)) else (none)) else (none)) else (spec_loWith.l0 k1 a0 a1 x5_1 (wrap64 (x6_1 + 1)))) = some r := H
        have A4 := Aside0.mk A40
        clear A40
        by_cases c5 : t120 = true
        · subst c5
          have H1 : (if 0 ≤ x6_1 then (if x6_1 ≤ (wrap64 (x6_1 + 1)) then (if (wrap64 (x6_1 + 1)) ≤ 16 then (if x5_1.size + ((⟨#[97, 98, 99, 100, 101, 102, 103, 104, 105, 106, 107, 108, 109, 110, 111, 112]⟩ : ByteArray).extract (x6_1 : Int).toNat ((wrap64 (x6_1 + 1)) : Int).toNat).size ≤ 9223372036854775807 then (spec_loWith.l0 k1 a0 a1 (x5_1 ++ ((⟨#[97, 98, 99, 100, 101, 102, 103, 104, 105, 106, 107, 108, 109, 110, 111, 112]⟩ : ByteArray).extract (x6_1 : Int).toNat ((wrap64 (x6_1 + 1)) : Int).toNat)) (wrap64 (x6_1 + 1))) else (none)) else (none)) else (none)) else (none)) = some r := by rw [if_pos rfl] at H; exact H
          clear H
          have H := H1
          clear H1
          by_cases c6 : 0 ≤ x6_1
          · rw [if_pos c6] at H
            have c6b0 := eq_true c6
            have c6b1 : decide (0 ≤ x6_1) = true := decide_eq_true c6
            clear c6
            by_cases c7 : x6_1 ≤ (wrap64 (x6_1 + 1))
            · rw [if_pos c7] at H
              have c7b0 := eq_true c7
              have c7b1 : decide (x6_1 ≤ (wrap64 (x6_1 + 1))) = true := decide_eq_true c7
              by_cases c8 : (wrap64 (x6_1 + 1)) ≤ 16
              · rw [if_pos c8] at H
                have c8b0 := eq_true c8
                have c8b1 : decide ((wrap64 (x6_1 + 1)) ≤ 16) = true := decide_eq_true c8
                by_cases c9 : x5_1.size + ((⟨#[97, 98, 99, 100, 101, 102, 103, 104, 105, 106, 107, 108, 109, 110, 111, 112]⟩ : ByteArray).extract (x6_1 : Int).toNat ((wrap64 (x6_1 + 1)) : Int).toNat).size ≤ 9223372036854775807
                · rw [if_pos c9] at H
                  have c9b0 := eq_true c9
                  have c9b1 : decide (x5_1.size + ((⟨#[97, 98, 99, 100, 101, 102, 103, 104, 105, 106, 107, 108, 109, 110, 111, 112]⟩ : ByteArray).extract (x6_1 : Int).toNat ((wrap64 (x6_1 + 1)) : Int).toNat).size ≤ 9223372036854775807) = true := decide_eq_true c9
                  try have c9b2 : (9223372036854775807 < x5_1.size + ((⟨#[97, 98, 99, 100, 101, 102, 103, 104, 105, 106, 107, 108, 109, 110, 111, 112]⟩ : ByteArray).extract (x6_1 : Int).toNat ((wrap64 (x6_1 + 1)) : Int).toNat).size) = False := eq_false (Nat.not_lt.2 c9)
                  have H' := Aside0.mk H
                  clear H
                  go_wp2_with (first | ((with_reducible refine gate_callee (f := 15) rfl ?_); refine goesL_ (some 19) rfl rfl Try.func15 (by kernel_rfl) rfl #[.string a0, .int .u8 a1, .int .u8 ((wrap64 (97 + x6_1)) % 256)] rfl (by (try simp only [List.map_toArray, List.map_cons, List.map_nil]); first | done | rfl | (simp only [List.length_drop, List.length_take]; rfl)) ?_; (with_reducible refine (spec_loLaced.calls k1 a0 a1 ((wrap64 (97 + x6_1)) % 256) true _ A4.out).mono ?_); rintro e w' ⟨rfl, ⟨nd, rfl⟩⟩; refine ⟨_, rfl, ?_⟩))
                  go_roundg k1
                  case measure => have := HK1.out; omega
                  case rel => exact ⟨(x5_1 ++ ((⟨#[97, 98, 99, 100, 101, 102, 103, 104, 105, 106, 107, 108, 109, 110, 111, 112]⟩ : ByteArray).extract (x6_1 : Int).toNat ((wrap64 (x6_1 + 1)) : Int).toNat)), (wrap64 (x6_1 + 1)), (by first | rfl | (simp; done) | (simp [*]; done)), (by first | rfl | (simp; done) | (simp [*]; done)), H', ⟨by have := HK1.out; omega⟩, by repeat (first | exact Drawn0.refl _ | apply Drawn0.step)⟩
                · rw [if_neg c9] at H
                  exact absurd H (by simp)
              · rw [if_neg c8] at H
                exact absurd H (by simp)
            · rw [if_neg c7] at H
              exact absurd H (by simp)
          · rw [if_neg c6] at H
            exact absurd H (by simp)
        · replace c5 := Bool.eq_false_iff.mpr c5
          subst c5
          have H1 : (spec_loWith.l0 k1 a0 a1 x5_1 (wrap64 (x6_1 + 1))) = some r := by rw [if_neg (show ¬ (false = true) by decide)] at H; exact H
          clear H
          have H := H1
          clear H1
          have H' := Aside0.mk H
          clear H
          go_wp2_with (first | ((with_reducible refine gate_callee (f := 15) rfl ?_); refine goesL_ (some 19) rfl rfl Try.func15 (by kernel_rfl) rfl #[.string a0, .int .u8 a1, .int .u8 ((wrap64 (97 + x6_1)) % 256)] rfl (by (try simp only [List.map_toArray, List.map_cons, List.map_nil]); first | done | rfl | (simp only [List.length_drop, List.length_take]; rfl)) ?_; (with_reducible refine (spec_loLaced.calls k1 a0 a1 ((wrap64 (97 + x6_1)) % 256) false _ A4.out).mono ?_); rintro e w' ⟨rfl, ⟨nd, rfl⟩⟩; refine ⟨_, rfl, ?_⟩))
          go_roundg k1
          case measure => have := HK1.out; omega
          case rel => exact ⟨(x5_1), (wrap64 (x6_1 + 1)), (by first | rfl | (simp; done) | (simp [*]; done)), (by first | rfl | (simp; done) | (simp [*]; done)), H', ⟨by have := HK1.out; omega⟩, by repeat (first | exact Drawn0.refl _ | apply Drawn0.step)⟩
      · rw [if_neg c3] at H
        have c3b0 : decide (x6_1 < (wrap64 ((a0.size : Int) / 2))) = false := decide_eq_false c3
        clear c3
        obtain rfl := Option.some.inj H
        go_wp2
        go_ret
        exact ⟨by first | rfl | (simp; done) | (simp [*]; done), by repeat (first | exact Drawn0.refl _ | apply Drawn0.step)⟩

end Go.Proofs.Ytgdpeabbmbclbaa.Pr

-- Written by a program for this claim.
namespace Go.Proofs.Ytgdpeabbmbclbaa.Pr
open Go.RowKit Go.Proofs.YtgdpeabbmbclbaaW.PrintWords Go.Proofs.YtgdpeabbmbclbaaW.PrintLast Go.Proofs.YtgdpeabbmbclbaaW.PrintMore
attribute [local go_sem] max2_int min2_int max_two min_two max_three min_three max_four min_four   -- for this text's walks alone
set_option linter.unusedVariables false
set_option linter.unusedSimpArgs false

/-! ### spec_loEven: function 14 -/
def spec_loEven.l0 : Nat → ByteArray → Int → Option (Bool)
  | 0, _, _ => none
  | k + 1, x0, x3 => if x3 < (wrap64 ((x0.size : Int) / 2)) then ((spec_loWith.f k x0 ((wrap64 (97 + x3)) % 256)).bind fun t121 => (if ((t121.size : Int) % 2) = 0 then (spec_loEven.l0 k x0 (wrap64 (x3 + 1))) else (some false))) else (some true)
def spec_loEven.f (k : Nat) (a0 : ByteArray) : Option (Bool) := spec_loEven.l0 k a0 0
theorem spec_loEven.mono_l : ∀ k, (∀ y0 y1, LeO (spec_loEven.l0 k y0 y1) (spec_loEven.l0 (k + 1) y0 y1))
  | 0 => fun _ _ r h => by simp [spec_loEven.l0] at h
  | k + 1 => by
    have ih0 := spec_loEven.mono_l k
    · intro y0 y1
      unfold spec_loEven.l0
      repeat' first
      | (with_reducible exact ih0 _ _)
      | (with_reducible exact spec_loWith.mono _ _ _)
      | (with_reducible exact LeO.refl _)
      | (with_reducible exact LeO.none _)
      | (with_reducible refine LeO.ite ?_ ?_)
      | (with_reducible refine LeO.bind ?_ (fun _ => ?_))
      | exact ih0 _ _
      | exact spec_loWith.mono _ _ _
      | exact LeO.none _
      | refine LeO.ite ?_ ?_
      | refine LeO.bind ?_ (fun _ => ?_)
theorem spec_loEven.mono : ∀ a0 k, LeO (spec_loEven.f k a0) (spec_loEven.f (k + 1) a0) := by
  intro a0 k
  have ih0 := spec_loEven.mono_l k
  unfold spec_loEven.f
  repeat' first
      | (with_reducible exact ih0 _ _)
      | (with_reducible exact spec_loWith.mono _ _ _)
      | (with_reducible exact LeO.refl _)
      | (with_reducible exact LeO.none _)
      | (with_reducible refine LeO.ite ?_ ?_)
      | (with_reducible refine LeO.bind ?_ (fun _ => ?_))
      | exact ih0 _ _
      | exact spec_loWith.mono _ _ _
      | exact LeO.none _
      | refine LeO.ite ?_ ?_
      | refine LeO.bind ?_ (fun _ => ?_)
set_option maxHeartbeats 8000000 in
set_option maxRecDepth 100000 in
theorem spec_loEven.calls (k : Nat) (a0 : ByteArray) (r : Bool) (w : World) (h : spec_loEven.f k a0 = some r) :
    Calls Try.prog 14 #[.string a0] w fun e w' => e = .returned (.bool r) ∧ Drawn0 w w' := by
  have H : (spec_loEven.l0 k a0 0) = some r := h
  clear h
  have H' := Aside0.mk H
  clear H
  go_enter Try.func14, Try.ntmps14
  go_wp2
  go_loopg [3] k (fun kq v3 w' => ∃ (x3_1 : Int), v3 = .int .i64 x3_1 ∧ Aside0 (spec_loEven.l0 kq a0 x3_1 = some r) ∧ Aside0 (kq ≤ k) ∧ Drawn0 w w')
  case atStart => exact ⟨(0), (by first | rfl | (simp; done) | (simp [*]; done)), H', ⟨Nat.le_refl _⟩, by repeat (first | exact Drawn0.refl _ | apply Drawn0.step)⟩
  case round =>
    clear H'
    try clear c1
    obtain ⟨x3_1, rfl, HA, HK1, ⟨m1, rfl⟩⟩ := hrel
    cases gk with
    | zero => exact absurd HA.out (by simp [spec_loEven.l0])
    | succ k1 =>
      have H := HA.out
      clear HA
      simp only [spec_loEven.l0] at H
      by_cases c2 : x3_1 < (wrap64 ((a0.size : Int) / 2))
      · rw [if_pos c2] at H
        have c2b0 : decide (x3_1 < (wrap64 ((a0.size : Int) / 2))) = true := decide_eq_true c2
        clear c2
        replace H := Option.bind_eq_some_iff.mp H
        obtain ⟨t121, A30, H⟩ := H
        replace H : (if ((t121.size : Int) % 2) = 0 then (spec_loEven.l0 k1 a0 (wrap64 (x3_1 + 1))) else (some false)) = some r := H
        have A3 := Aside0.mk A30
        clear A30
        by_cases c4 : ((t121.size : Int) % 2) = 0
        · rw [if_pos c4] at H
          have c4b0 : (((t121.size : Int) % 2) == 0) = true := beq_iff_eq.mpr c4
          have c4b1 : (((t121.size : Int) % 2) != 0) = false := bne_eq_false_iff_eq.mpr c4
          clear c4
          have H' := Aside0.mk H
          clear H
          go_wp2_with (first | ((with_reducible refine gate_callee (f := 25) rfl ?_); refine goesL_ (some 15) rfl rfl Try.func25 (by kernel_rfl) rfl #[.string a0, .int .u8 ((wrap64 (97 + x3_1)) % 256)] rfl (by (try simp only [List.map_toArray, List.map_cons, List.map_nil]); first | done | rfl | (simp only [List.length_drop, List.length_take]; rfl)) ?_; (with_reducible refine (spec_loWith.calls k1 a0 ((wrap64 (97 + x3_1)) % 256) t121 _ A3.out).mono ?_); rintro e w' ⟨rfl, ⟨nd, rfl⟩⟩; refine ⟨_, rfl, ?_⟩))
          go_roundg k1
          case measure => have := HK1.out; omega
          case rel => exact ⟨(wrap64 (x3_1 + 1)), (by first | rfl | (simp; done) | (simp [*]; done)), H', ⟨by have := HK1.out; omega⟩, by repeat (first | exact Drawn0.refl _ | apply Drawn0.step)⟩
        · rw [if_neg c4] at H
          have c4b0 : (((t121.size : Int) % 2) == 0) = false := beq_eq_false_iff_ne.mpr c4
          have c4b1 : (((t121.size : Int) % 2) != 0) = true := bne_iff_ne.mpr c4
          obtain rfl := Option.some.inj H
          go_wp2_with (first | ((with_reducible refine gate_callee (f := 25) rfl ?_); refine goesL_ (some 15) rfl rfl Try.func25 (by kernel_rfl) rfl #[.string a0, .int .u8 ((wrap64 (97 + x3_1)) % 256)] rfl (by (try simp only [List.map_toArray, List.map_cons, List.map_nil]); first | done | rfl | (simp only [List.length_drop, List.length_take]; rfl)) ?_; (with_reducible refine (spec_loWith.calls k1 a0 ((wrap64 (97 + x3_1)) % 256) t121 _ A3.out).mono ?_); rintro e w' ⟨rfl, ⟨nd, rfl⟩⟩; refine ⟨_, rfl, ?_⟩))
          go_ret
          exact ⟨by first | rfl | (simp; done) | (simp [*]; done), by repeat (first | exact Drawn0.refl _ | apply Drawn0.step)⟩
      · rw [if_neg c2] at H
        have c2b0 : decide (x3_1 < (wrap64 ((a0.size : Int) / 2))) = false := decide_eq_false c2
        clear c2
        obtain rfl := Option.some.inj H
        go_wp2
        go_ret
        exact ⟨by first | rfl | (simp; done) | (simp [*]; done), by repeat (first | exact Drawn0.refl _ | apply Drawn0.step)⟩

end Go.Proofs.Ytgdpeabbmbclbaa.Pr

-- Written by a program for this claim.
namespace Go.Proofs.Ytgdpeabbmbclbaa.Pr
open Go.RowKit Go.Proofs.YtgdpeabbmbclbaaW.PrintWords Go.Proofs.YtgdpeabbmbclbaaW.PrintLast Go.Proofs.YtgdpeabbmbclbaaW.PrintMore
attribute [local go_sem] max2_int min2_int max_two min_two max_three min_three max_four min_four   -- for this text's walks alone
set_option linter.unusedVariables false
set_option linter.unusedSimpArgs false

/-! ### spec_loBoth: function 16 -/
def spec_loBoth.l0 : Nat → ByteArray → Int → Int → Int → Int → Option (Int)
  | 0, _, _, _, _, _ => none
  | k + 1, x0, x1, x2, x7, x8 => if x8 < (wrap64 ((x0.size : Int) / 2)) then ((spec_loLaced.f k x0 x1 ((wrap64 (97 + x8)) % 256)).bind fun t122 => (if t122 = true then ((spec_loLaced.f k x0 x2 ((wrap64 (97 + x8)) % 256)).bind fun t123 => (if t123 = true then (spec_loBoth.l0 k x0 x1 x2 (wrap64 (x7 + 1)) (wrap64 (x8 + 1))) else (spec_loBoth.l0 k x0 x1 x2 x7 (wrap64 (x8 + 1))))) else (spec_loBoth.l0 k x0 x1 x2 x7 (wrap64 (x8 + 1))))) else (some x7)
def spec_loBoth.f (k : Nat) (a0 : ByteArray) (a1 : Int) (a2 : Int) : Option (Int) := spec_loBoth.l0 k a0 a1 a2 0 0
theorem spec_loBoth.mono_l : ∀ k, (∀ y0 y1 y2 y3 y4, LeO (spec_loBoth.l0 k y0 y1 y2 y3 y4) (spec_loBoth.l0 (k + 1) y0 y1 y2 y3 y4))
  | 0 => fun _ _ _ _ _ r h => by simp [spec_loBoth.l0] at h
  | k + 1 => by
    have ih0 := spec_loBoth.mono_l k
    · intro y0 y1 y2 y3 y4
      unfold spec_loBoth.l0
      repeat' first
      | (with_reducible exact ih0 _ _ _ _ _)
      | (with_reducible exact spec_loLaced.mono _ _ _ _)
      | (with_reducible exact LeO.refl _)
      | (with_reducible exact LeO.none _)
      | (with_reducible refine LeO.ite ?_ ?_)
      | (with_reducible refine LeO.bind ?_ (fun _ => ?_))
      | exact ih0 _ _ _ _ _
      | exact spec_loLaced.mono _ _ _ _
      | exact LeO.none _
      | refine LeO.ite ?_ ?_
      | refine LeO.bind ?_ (fun _ => ?_)
theorem spec_loBoth.mono : ∀ a0 a1 a2 k, LeO (spec_loBoth.f k a0 a1 a2) (spec_loBoth.f (k + 1) a0 a1 a2) := by
  intro a0 a1 a2 k
  have ih0 := spec_loBoth.mono_l k
  unfold spec_loBoth.f
  repeat' first
      | (with_reducible exact ih0 _ _ _ _ _)
      | (with_reducible exact spec_loLaced.mono _ _ _ _)
      | (with_reducible exact LeO.refl _)
      | (with_reducible exact LeO.none _)
      | (with_reducible refine LeO.ite ?_ ?_)
      | (with_reducible refine LeO.bind ?_ (fun _ => ?_))
      | exact ih0 _ _ _ _ _
      | exact spec_loLaced.mono _ _ _ _
      | exact LeO.none _
      | refine LeO.ite ?_ ?_
      | refine LeO.bind ?_ (fun _ => ?_)
set_option maxHeartbeats 8000000 in
set_option maxRecDepth 100000 in
theorem spec_loBoth.calls (k : Nat) (a0 : ByteArray) (a1 : Int) (a2 : Int) (r : Int) (w : World) (h : spec_loBoth.f k a0 a1 a2 = some r) :
    Calls Try.prog 16 #[.string a0, .int .u8 a1, .int .u8 a2] w fun e w' => e = .returned (.int .i64 r) ∧ Drawn0 w w' := by
  have H : (spec_loBoth.l0 k a0 a1 a2 0 0) = some r := h
  clear h
  have H' := Aside0.mk H
  clear H
  go_enter Try.func16, Try.ntmps16
  go_wp2
  go_loopg [7, 8] k (fun kq v7 v8 w' => ∃ (x7_1 : Int) (x8_1 : Int), v7 = .int .i64 x7_1 ∧ v8 = .int .i64 x8_1 ∧ Aside0 (spec_loBoth.l0 kq a0 a1 a2 x7_1 x8_1 = some r) ∧ Aside0 (kq ≤ k) ∧ Drawn0 w w')
  case atStart => exact ⟨(0), (0), (by first | rfl | (simp; done) | (simp [*]; done)), (by first | rfl | (simp; done) | (simp [*]; done)), H', ⟨Nat.le_refl _⟩, by repeat (first | exact Drawn0.refl _ | apply Drawn0.step)⟩
  case round =>
    clear H'
    try clear c1
    try clear p2
    obtain ⟨x7_1, x8_1, rfl, rfl, HA, HK1, ⟨m1, rfl⟩⟩ := hrel
    cases gk with
    | zero => exact absurd HA.out (by simp [spec_loBoth.l0])
    | succ k1 =>
      have H := HA.out
      clear HA
      simp only [spec_loBoth.l0] at H
      by_cases c4 : x8_1 < (wrap64 ((a0.size : Int) / 2))
      · rw [if_pos c4] at H
        have c4b0 : decide (x8_1 < (wrap64 ((a0.size : Int) / 2))) = true := decide_eq_true c4
        clear c4
        replace H := Option.bind_eq_some_iff.mp H
        obtain ⟨t122, A50, H⟩ := H
        replace H : (if t122 = true then ((spec_loLaced.f k1 a0 a2 ((wrap64 (97 + x8_1)) % 256)).bind fun t123 => (if t123 = true then (spec_loBoth.l0 k1 a0 a1 a2 (wrap64 (x7_1 + 1)) (wrap64 (x8_1 + 1))) else (spec_loBoth.l0 k1 a0 a1 a2 x7_1 (wrap64 (x8_1 + 1))))) else (spec_loBoth.l0 k1 a0 a1 a2 x7_1 (wrap64 (x8_1 + 1)))) = some r := H
        have A5 := Aside0.mk A50
        clear A50
        by_cases c6 : t122 = true
        · subst c6
          have H1 : ((spec_loLaced.f k1 a0 a2 ((wrap64 (97 + x8_1)) % 256)).bind fun t123 => (if t123 = true then (spec_loBoth.l0 k1 a0 a1 a2 (wrap64 (x7_1 + 1)) (wrap64 (x8_1 + 1))) else (spec_loBoth.l0 k1 a0 a1 a2 x7_1 (wrap64 (x8_1 + 1))))) = some r := by rw [if_pos rfl] at H; exact H
          clear H
          have H := H1
          clear H1
          replace H := Option.bind_eq_some_iff.mp H
          obtain ⟨t123, A70, H⟩ := H
          replace H : (if t123 = true then (spec_loBoth.l0 k1 a0 a1 a2 (wrap64 (x7_1 + 1)) (wrap64 (x8_1 + 1))) else (spec_loBoth.l0 k1 a0 a1 a2 x7_1 (wrap64 (x8_1 + 1)))) = some r := H
          have A7 := Aside0.mk A70
          clear A70
          by_cases c8 : t123 = true
          · subst c8
            have H1 : (spec_loBoth.l0 k1 a0 a1 a2 (wrap64 (x7_1 + 1)) (wrap64 (x8_1 + 1))) = some r := by rw [if_pos rfl] at H; exact H
            clear H
            have H := H1
            clear H1
            have H' := Aside0.mk H
            clear H
            go_wp2_with (first | ((with_reducible refine gate_callee (f := 15) rfl ?_); refine goesL_ (some 21) rfl rfl Try.func15 (by kernel_rfl) rfl #[.string a0, .int .u8 a1, .int .u8 ((wrap64 (97 + x8_1)) % 256)] rfl (by (try simp only [List.map_toArray, List.map_cons, List.map_nil]); first | done | rfl | (simp only [List.length_drop, List.length_take]; rfl)) ?_; (with_reducible refine (spec_loLaced.calls k1 a0 a1 ((wrap64 (97 + x8_1)) % 256) true _ A5.out).mono ?_); rintro e w' ⟨rfl, ⟨nd, rfl⟩⟩; refine ⟨_, rfl, ?_⟩) | (go_at_call 15; (with_reducible refine (spec_loLaced.calls k1 a0 a2 ((wrap64 (97 + x8_1)) % 256) true _ A7.out).mono ?_); rintro e w' ⟨rfl, ⟨nd, rfl⟩⟩))
            go_roundg k1
            case measure => have := HK1.out; omega
            case rel => exact ⟨(wrap64 (x7_1 + 1)), (wrap64 (x8_1 + 1)), (by first | rfl | (simp; done) | (simp [*]; done)), (by first | rfl | (simp; done) | (simp [*]; done)), H', ⟨by have := HK1.out; omega⟩, by repeat (first | exact Drawn0.refl _ | apply Drawn0.step)⟩
          · replace c8 := Bool.eq_false_iff.mpr c8
            subst c8
            have H1 : (spec_loBoth.l0 k1 a0 a1 a2 x7_1 (wrap64 (x8_1 + 1))) = some r := by rw [if_neg (show ¬ (false = true) by decide)] at H; exact H
            clear H
            have H := H1
            clear H1
            have H' := Aside0.mk H
            clear H
            go_wp2_with (first | ((with_reducible refine gate_callee (f := 15) rfl ?_); refine goesL_ (some 21) rfl rfl Try.func15 (by kernel_rfl) rfl #[.string a0, .int .u8 a1, .int .u8 ((wrap64 (97 + x8_1)) % 256)] rfl (by (try simp only [List.map_toArray, List.map_cons, List.map_nil]); first | done | rfl | (simp only [List.length_drop, List.length_take]; rfl)) ?_; (with_reducible refine (spec_loLaced.calls k1 a0 a1 ((wrap64 (97 + x8_1)) % 256) true _ A5.out).mono ?_); rintro e w' ⟨rfl, ⟨nd, rfl⟩⟩; refine ⟨_, rfl, ?_⟩) | (go_at_call 15; (with_reducible refine (spec_loLaced.calls k1 a0 a2 ((wrap64 (97 + x8_1)) % 256) false _ A7.out).mono ?_); rintro e w' ⟨rfl, ⟨nd, rfl⟩⟩))
            go_roundg k1
            case measure => have := HK1.out; omega
            case rel => exact ⟨(x7_1), (wrap64 (x8_1 + 1)), (by first | rfl | (simp; done) | (simp [*]; done)), (by first | rfl | (simp; done) | (simp [*]; done)), H', ⟨by have := HK1.out; omega⟩, by repeat (first | exact Drawn0.refl _ | apply Drawn0.step)⟩
        · replace c6 := Bool.eq_false_iff.mpr c6
          subst c6
          have H1 : (spec_loBoth.l0 k1 a0 a1 a2 x7_1 (wrap64 (x8_1 + 1))) = some r := by rw [if_neg (show ¬ (false = true) by decide)] at H; exact H
          clear H
          have H := H1
          clear H1
          have H' := Aside0.mk H
          clear H
          go_wp2_with (first | ((with_reducible refine gate_callee (f := 15) rfl ?_); refine goesL_ (some 21) rfl rfl Try.func15 (by kernel_rfl) rfl #[.string a0, .int .u8 a1, .int .u8 ((wrap64 (97 + x8_1)) % 256)] rfl (by (try simp only [List.map_toArray, List.map_cons, List.map_nil]); first | done | rfl | (simp only [List.length_drop, List.length_take]; rfl)) ?_; (with_reducible refine (spec_loLaced.calls k1 a0 a1 ((wrap64 (97 + x8_1)) % 256) false _ A5.out).mono ?_); rintro e w' ⟨rfl, ⟨nd, rfl⟩⟩; refine ⟨_, rfl, ?_⟩))
          go_roundg k1
          case measure => have := HK1.out; omega
          case rel => exact ⟨(x7_1), (wrap64 (x8_1 + 1)), (by first | rfl | (simp; done) | (simp [*]; done)), (by first | rfl | (simp; done) | (simp [*]; done)), H', ⟨by have := HK1.out; omega⟩, by repeat (first | exact Drawn0.refl _ | apply Drawn0.step)⟩
      · rw [if_neg c4] at H
        have c4b0 : decide (x8_1 < (wrap64 ((a0.size : Int) / 2))) = false := decide_eq_false c4
        clear c4
        obtain rfl := Option.some.inj H
        go_wp2
        go_ret
        exact ⟨by first | rfl | (simp; done) | (simp [*]; done), by repeat (first | exact Drawn0.refl _ | apply Drawn0.step)⟩

end Go.Proofs.Ytgdpeabbmbclbaa.Pr

-- Written by a program for this claim.
namespace Go.Proofs.Ytgdpeabbmbclbaa.Pr
open Go.RowKit Go.Proofs.YtgdpeabbmbclbaaW.PrintWords Go.Proofs.YtgdpeabbmbclbaaW.PrintLast Go.Proofs.YtgdpeabbmbclbaaW.PrintMore
attribute [local go_sem] max2_int min2_int max_two min_two max_three min_three max_four min_four   -- for this text's walks alone
set_option linter.unusedVariables false
set_option linter.unusedSimpArgs false

/-! ### spec_loDrawn: function 7 -/
mutual
def spec_loDrawn.l0 : Nat → ByteArray → Int → Int → Option (Bool)
  | 0, _, _, _ => none
  | k + 1, x0, x3, x4 => if x4 < x3 then (spec_loDrawn.l1 k x0 x3 x4 0) else (spec_loDrawn.l2 k x0 x3 0)
def spec_loDrawn.l1 : Nat → ByteArray → Int → Int → Int → Option (Bool)
  | 0, _, _, _, _ => none
  | k + 1, x0, x3, x4, x5 => if x5 < x4 then ((spec_loLaced.f k x0 ((wrap64 (97 + x4)) % 256) ((wrap64 (97 + x5)) % 256)).bind fun t125 => (if t125 = true then (spec_loDrawn.l1 k x0 x3 x4 (wrap64 (x5 + 1))) else ((spec_loBoth.f k x0 ((wrap64 (97 + x4)) % 256) ((wrap64 (97 + x5)) % 256)).bind fun t126 => (if (Int.tmod t126 2) = 0 then (spec_loDrawn.l1 k x0 x3 x4 (wrap64 (x5 + 1))) else (some false))))) else (spec_loDrawn.l0 k x0 x3 (wrap64 (x4 + 1)))
def spec_loDrawn.l2 : Nat → ByteArray → Int → Int → Option (Bool)
  | 0, _, _, _ => none
  | k + 1, x0, x3, x8 => if 0 ≤ x3 then (if x8 < (shl .i64 1 x3) then (spec_loDrawn.l3 k x0 x3 x8 true 0) else (some false)) else (none)
def spec_loDrawn.l3 : Nat → ByteArray → Int → Int → Bool → Int → Option (Bool)
  | 0, _, _, _, _, _ => none
  | k + 1, x0, x3, x8, x9, x10 => if x10 < x3 then (spec_loDrawn.j4 k x0 x3 x8 x9 x10 x9) else (spec_loDrawn.j4 k x0 x3 x8 x9 x10 false)
def spec_loDrawn.j4 : Nat → ByteArray → Int → Int → Bool → Int → Bool → Option (Bool)
  | 0, _, _, _, _, _, _ => none
  | k + 1, x0, x3, x8, x9, x10, x60 => if x60 = true then (spec_loDrawn.l4 k x0 x3 x8 x9 x10 0) else (if x9 = true then (some true) else (spec_loDrawn.l2 k x0 x3 (wrap64 (x8 + 1))))
def spec_loDrawn.l4 : Nat → ByteArray → Int → Int → Bool → Int → Int → Option (Bool)
  | 0, _, _, _, _, _, _ => none
  | k + 1, x0, x3, x8, x9, x10, x11 => if x11 < x10 then ((spec_loLaced.f k x0 ((wrap64 (97 + x10)) % 256) ((wrap64 (97 + x11)) % 256)).bind fun t127 => (if t127 = true then (if 0 ≤ x10 then (if 0 ≤ x11 then ((spec_loBoth.f k x0 ((wrap64 (97 + x10)) % 256) ((wrap64 (97 + x11)) % 256)).bind fun t128 => (if (((Go.bits .and .i64 (shr .i64 x8 x10) 1) != (Go.bits .and .i64 (shr .i64 x8 x11) 1)) != ((Int.tmod t128 2) == 0)) = true then (spec_loDrawn.l4 k x0 x3 x8 false x10 (wrap64 (x11 + 1))) else (spec_loDrawn.l4 k x0 x3 x8 x9 x10 (wrap64 (x11 + 1))))) else (none)) else (none)) else (spec_loDrawn.l4 k x0 x3 x8 x9 x10 (wrap64 (x11 + 1))))) else (spec_loDrawn.l3 k x0 x3 x8 x9 (wrap64 (x10 + 1)))
end
def spec_loDrawn.f (k : Nat) (a0 : ByteArray) : Option (Bool) := (spec_loEven.f k a0).bind fun t124 => (if t124 = true then (spec_loDrawn.l0 k a0 (wrap64 ((a0.size : Int) / 2)) 0) else (some false))
theorem spec_loDrawn.mono_l : ∀ k, (∀ y0 y1 y2, LeO (spec_loDrawn.l0 k y0 y1 y2) (spec_loDrawn.l0 (k + 1) y0 y1 y2)) ∧ (∀ y0 y1 y2 y3, LeO (spec_loDrawn.l1 k y0 y1 y2 y3) (spec_loDrawn.l1 (k + 1) y0 y1 y2 y3)) ∧ (∀ y0 y1 y2, LeO (spec_loDrawn.l2 k y0 y1 y2) (spec_loDrawn.l2 (k + 1) y0 y1 y2)) ∧ (∀ y0 y1 y2 y3 y4, LeO (spec_loDrawn.l3 k y0 y1 y2 y3 y4) (spec_loDrawn.l3 (k + 1) y0 y1 y2 y3 y4)) ∧ (∀ y0 y1 y2 y3 y4 y5, LeO (spec_loDrawn.j4 k y0 y1 y2 y3 y4 y5) (spec_loDrawn.j4 (k + 1) y0 y1 y2 y3 y4 y5)) ∧ (∀ y0 y1 y2 y3 y4 y5, LeO (spec_loDrawn.l4 k y0 y1 y2 y3 y4 y5) (spec_loDrawn.l4 (k + 1) y0 y1 y2 y3 y4 y5))
  | 0 => ⟨fun _ _ _ r h => by simp [spec_loDrawn.l0] at h, fun _ _ _ _ r h => by simp [spec_loDrawn.l1] at h, fun _ _ _ r h => by simp [spec_loDrawn.l2] at h, fun _ _ _ _ _ r h => by simp [spec_loDrawn.l3] at h, fun _ _ _ _ _ _ r h => by simp [spec_loDrawn.j4] at h, fun _ _ _ _ _ _ r h => by simp [spec_loDrawn.l4] at h⟩
  | k + 1 => by
    obtain ⟨ih0, ih1, ih2, ih3, ih4, ih5⟩ := spec_loDrawn.mono_l k
    refine ⟨?_, ?_, ?_, ?_, ?_, ?_⟩
    · intro y0 y1 y2
      unfold spec_loDrawn.l0
      repeat' first
      | (with_reducible exact ih0 _ _ _)
      | (with_reducible exact ih1 _ _ _ _)
      | (with_reducible exact ih2 _ _ _)
      | (with_reducible exact ih3 _ _ _ _ _)
      | (with_reducible exact ih4 _ _ _ _ _ _)
      | (with_reducible exact ih5 _ _ _ _ _ _)
      | (with_reducible exact spec_loBoth.mono _ _ _ _)
      | (with_reducible exact spec_loEven.mono _ _)
      | (with_reducible exact spec_loLaced.mono _ _ _ _)
      | (with_reducible exact LeO.refl _)
      | (with_reducible exact LeO.none _)
      | (with_reducible refine LeO.ite ?_ ?_)
      | (with_reducible refine LeO.bind ?_ (fun _ => ?_))
      | exact ih0 _ _ _
      | exact ih1 _ _ _ _
      | exact ih2 _ _ _
      | exact ih3 _ _ _ _ _
      | exact ih4 _ _ _ _ _ _
      | exact ih5 _ _ _ _ _ _
      | exact spec_loBoth.mono _ _ _ _
      | exact spec_loEven.mono _ _
      | exact spec_loLaced.mono _ _ _ _
      | exact LeO.none _
      | refine LeO.ite ?_ ?_
      | refine LeO.bind ?_ (fun _ => ?_)
    · intro y0 y1 y2 y3
      unfold spec_loDrawn.l1
      repeat' first
      | (with_reducible exact ih0 _ _ _)
      | (with_reducible exact ih1 _ _ _ _)
      | (with_reducible exact ih2 _ _ _)
      | (with_reducible exact ih3 _ _ _ _ _)
      | (with_reducible exact ih4 _ _ _ _ _ _)
      | (with_reducible exact ih5 _ _ _ _ _ _)
      | (with_reducible exact spec_loBoth.mono _ _ _ _)
      | (with_reducible exact spec_loEven.mono _ _)
      | (with_reducible exact spec_loLaced.mono _ _ _ _)
      | (with_reducible exact LeO.refl _)
      | (with_reducible exact LeO.none _)
      | (with_reducible refine LeO.ite ?_ ?_)
      | (with_reducible refine LeO.bind ?_ (fun _ => ?_))
      | exact ih0 _ _ _
      | exact ih1 _ _ _ _
      | exact ih2 _ _ _
      | exact ih3 _ _ _ _ _
      | exact ih4 _ _ _ _ _ _
      | exact ih5 _ _ _ _ _ _
      | exact spec_loBoth.mono _ _ _ _
      | exact spec_loEven.mono _ _
      | exact spec_loLaced.mono _ _ _ _
      | exact LeO.none _
      | refine LeO.ite ?_ ?_
      | refine LeO.bind ?_ (fun _ => ?_)
    · intro y0 y1 y2
      unfold spec_loDrawn.l2
      repeat' first
      | (with_reducible exact ih0 _ _ _)
      | (with_reducible exact ih1 _ _ _ _)
      | (with_reducible exact ih2 _ _ _)
      | (with_reducible exact ih3 _ _ _ _ _)
      | (with_reducible exact ih4 _ _ _ _ _ _)
      | (with_reducible exact ih5 _ _ _ _ _ _)
      | (with_reducible exact spec_loBoth.mono _ _ _ _)
      | (with_reducible exact spec_loEven.mono _ _)
      | (with_reducible exact spec_loLaced.mono _ _ _ _)
      | (with_reducible exact LeO.refl _)
      | (with_reducible exact LeO.none _)
      | (with_reducible refine LeO.ite ?_ ?_)
      | (with_reducible refine LeO.bind ?_ (fun _ => ?_))
      | exact ih0 _ _ _
      | exact ih1 _ _ _ _
      | exact ih2 _ _ _
      | exact ih3 _ _ _ _ _
      | exact ih4 _ _ _ _ _ _
      | exact ih5 _ _ _ _ _ _
      | exact spec_loBoth.mono _ _ _ _
      | exact spec_loEven.mono _ _
      | exact spec_loLaced.mono _ _ _ _
      | exact LeO.none _
      | refine LeO.ite ?_ ?_
      | refine LeO.bind ?_ (fun _ => ?_)
    · intro y0 y1 y2 y3 y4
      unfold spec_loDrawn.l3
      repeat' first
      | (with_reducible exact ih0 _ _ _)
      | (with_reducible exact ih1 _ _ _ _)
      | (with_reducible exact ih2 _ _ _)
      | (with_reducible exact ih3 _ _ _ _ _)
      | (with_reducible exact ih4 _ _ _ _ _ _)
      | (with_reducible exact ih5 _ _ _ _ _ _)
      | (with_reducible exact spec_loBoth.mono _ _ _ _)
      | (with_reducible exact spec_loEven.mono _ _)
      | (with_reducible exact spec_loLaced.mono _ _ _ _)
      | (with_reducible exact LeO.refl _)
      | (with_reducible exact LeO.none _)
      | (with_reducible refine LeO.ite ?_ ?_)
      | (with_reducible refine LeO.bind ?_ (fun _ => ?_))
      | exact ih0 _ _ _
      | exact ih1 _ _ _ _
      | exact ih2 _ _ _
      | exact ih3 _ _ _ _ _
      | exact ih4 _ _ _ _ _ _
      | exact ih5 _ _ _ _ _ _
      | exact spec_loBoth.mono _ _ _ _
      | exact spec_loEven.mono _ _
      | exact spec_loLaced.mono _ _ _ _
      | exact LeO.none _
      | refine LeO.ite ?_ ?_
      | refine LeO.bind ?_ (fun _ => ?_)
    · intro y0 y1 y2 y3 y4 y5
      unfold spec_loDrawn.j4
      repeat' first
      | (with_reducible exact ih0 _ _ _)
      | (with_reducible exact ih1 _ _ _ _)
      | (with_reducible exact ih2 _ _ _)
      | (with_reducible exact ih3 _ _ _ _ _)
      | (with_reducible exact ih4 _ _ _ _ _ _)
      | (with_reducible exact ih5 _ _ _ _ _ _)
      | (with_reducible exact spec_loBoth.mono _ _ _ _)
      | (with_reducible exact spec_loEven.mono _ _)
      | (with_reducible exact spec_loLaced.mono _ _ _ _)
      | (with_reducible exact LeO.refl _)
      | (with_reducible exact LeO.none _)
      | (with_reducible refine LeO.ite ?_ ?_)
      | (with_reducible refine LeO.bind ?_ (fun _ => ?_))
      | exact ih0 _ _ _
      | exact ih1 _ _ _ _
      | exact ih2 _ _ _
      | exact ih3 _ _ _ _ _
      | exact ih4 _ _ _ _ _ _
      | exact ih5 _ _ _ _ _ _
      | exact spec_loBoth.mono _ _ _ _
      | exact spec_loEven.mono _ _
      | exact spec_loLaced.mono _ _ _ _
      | exact LeO.none _
      | refine LeO.ite ?_ ?_
      | refine LeO.bind ?_ (fun _ => ?_)
    · intro y0 y1 y2 y3 y4 y5
      unfold spec_loDrawn.l4
      repeat' first
      | (with_reducible exact ih0 _ _ _)
      | (with_reducible exact ih1 _ _ _ _)
      | (with_reducible exact ih2 _ _ _)
      | (with_reducible exact ih3 _ _ _ _ _)
      | (with_reducible exact ih4 _ _ _ _ _ _)
      | (with_reducible exact ih5 _ _ _ _ _ _)
      | (with_reducible exact spec_loBoth.mono _ _ _ _)
      | (with_reducible exact spec_loEven.mono _ _)
      | (with_reducible exact spec_loLaced.mono _ _ _ _)
      | (with_reducible exact LeO.refl _)
      | (with_reducible exact LeO.none _)
      | (with_reducible refine LeO.ite ?_ ?_)
      | (with_reducible refine LeO.bind ?_ (fun _ => ?_))
      | exact ih0 _ _ _
      | exact ih1 _ _ _ _
      | exact ih2 _ _ _
      | exact ih3 _ _ _ _ _
      | exact ih4 _ _ _ _ _ _
      | exact ih5 _ _ _ _ _ _
      | exact spec_loBoth.mono _ _ _ _
      | exact spec_loEven.mono _ _
      | exact spec_loLaced.mono _ _ _ _
      | exact LeO.none _
      | refine LeO.ite ?_ ?_
      | refine LeO.bind ?_ (fun _ => ?_)
theorem spec_loDrawn.mono : ∀ a0 k, LeO (spec_loDrawn.f k a0) (spec_loDrawn.f (k + 1) a0) := by
  intro a0 k
  obtain ⟨ih0, ih1, ih2, ih3, ih4, ih5⟩ := spec_loDrawn.mono_l k
  unfold spec_loDrawn.f
  repeat' first
      | (with_reducible exact ih0 _ _ _)
      | (with_reducible exact ih1 _ _ _ _)
      | (with_reducible exact ih2 _ _ _)
      | (with_reducible exact ih3 _ _ _ _ _)
      | (with_reducible exact ih4 _ _ _ _ _ _)
      | (with_reducible exact ih5 _ _ _ _ _ _)
      | (with_reducible exact spec_loBoth.mono _ _ _ _)
      | (with_reducible exact spec_loEven.mono _ _)
      | (with_reducible exact spec_loLaced.mono _ _ _ _)
      | (with_reducible exact LeO.refl _)
      | (with_reducible exact LeO.none _)
      | (with_reducible refine LeO.ite ?_ ?_)
      | (with_reducible refine LeO.bind ?_ (fun _ => ?_))
      | exact ih0 _ _ _
      | exact ih1 _ _ _ _
      | exact ih2 _ _ _
      | exact ih3 _ _ _ _ _
      | exact ih4 _ _ _ _ _ _
      | exact ih5 _ _ _ _ _ _
      | exact spec_loBoth.mono _ _ _ _
      | exact spec_loEven.mono _ _
      | exact spec_loLaced.mono _ _ _ _
      | exact LeO.none _
      | refine LeO.ite ?_ ?_
      | refine LeO.bind ?_ (fun _ => ?_)
set_option maxHeartbeats 8000000 in
set_option maxRecDepth 100000 in
theorem spec_loDrawn.calls (k : Nat) (a0 : ByteArray) (r : Bool) (w : World) (h : spec_loDrawn.f k a0 = some r) :
    Calls Try.prog 7 #[.string a0] w fun e w' => e = .returned (.bool r) ∧ Drawn0 w w' := by
  have H : ((spec_loEven.f k a0).bind fun t124 => (if t124 = true then (spec_loDrawn.l0 k a0 (wrap64 ((a0.size : Int) / 2)) 0) else (some false))) = some r := h
  clear h
  replace H := Option.bind_eq_some_iff.mp H
  obtain ⟨t124, A20, H⟩ := H
  replace H : (if t124 = true then (spec_loDrawn.l0 k a0 (wrap64 ((a0.size : Int) / 2)) 0) else (some false)) = some r := H
  have A2 := Aside0.mk A20
  clear A20
  by_cases c3 : t124 = true
  · subst c3
    have H1 : (spec_loDrawn.l0 k a0 (wrap64 ((a0.size : Int) / 2)) 0) = some r := by rw [if_pos rfl] at H; exact H
    clear H
    have H := H1
    clear H1
    have H' := Aside0.mk H
    clear H
    go_enter Try.func7, Try.ntmps7
    go_wp2_with (first | (go_at_call 14; (with_reducible refine (spec_loEven.calls k a0 true _ A2.out).mono ?_); rintro e w' ⟨rfl, ⟨nd, rfl⟩⟩; (try first | exact ⟨rfl, _, World.drewN_drewN _ _ _⟩ | exact ⟨rfl, _, Eq.trans (World.drewN_drewN _ _ _) (congrArg (World.drewN _) (Nat.add_assoc _ _ _))⟩)))
    repeat (go_quiet (first | (go_at_call 14; (with_reducible refine (spec_loEven.calls k a0 true _ A2.out).mono ?_); rintro e w' ⟨rfl, ⟨nd, rfl⟩⟩; (try first | exact ⟨rfl, _, World.drewN_drewN _ _ _⟩ | exact ⟨rfl, _, Eq.trans (World.drewN_drewN _ _ _) (congrArg (World.drewN _) (Nat.add_assoc _ _ _))⟩))); try go_wp2_with (first | (go_at_call 14; (with_reducible refine (spec_loEven.calls k a0 true _ A2.out).mono ?_); rintro e w' ⟨rfl, ⟨nd, rfl⟩⟩; (try first | exact ⟨rfl, _, World.drewN_drewN _ _ _⟩ | exact ⟨rfl, _, Eq.trans (World.drewN_drewN _ _ _) (congrArg (World.drewN _) (Nat.add_assoc _ _ _))⟩))))
    go_loopg [4] k (fun kq v4 w' => ∃ (x4_1 : Int), v4 = .int .i64 x4_1 ∧ Aside0 (spec_loDrawn.l0 kq a0 (wrap64 ((a0.size : Int) / 2)) x4_1 = some r) ∧ Aside0 (kq ≤ k) ∧ Drawn0 w w')
    case atStart => exact ⟨(0), (by first | rfl | (simp; done) | (simp [*]; done)), H', ⟨Nat.le_refl _⟩, by repeat (first | exact Drawn0.refl _ | apply Drawn0.step)⟩
    case round =>
      clear H'
      try clear p2
      try clear c3
      obtain ⟨x4_1, rfl, HA, HK1, ⟨m1, rfl⟩⟩ := hrel
      cases gk with
      | zero => exact absurd HA.out (by simp [spec_loDrawn.l0])
      | succ k1 =>
        have H := HA.out
        clear HA
        simp only [spec_loDrawn.l0] at H
        by_cases c4 : x4_1 < (wrap64 ((a0.size : Int) / 2))
        · rw [if_pos c4] at H
          have c4b0 : decide (x4_1 < (wrap64 ((a0.size : Int) / 2))) = true := decide_eq_true c4
          clear c4
          have H' := Aside0.mk H
          clear H
          go_wp2
          repeat (go_quiet (fail); try go_wp2)
          go_loopg [5] k1 (fun kq v5 w' => ∃ (x5_2 : Int), v5 = .int .i64 x5_2 ∧ Aside0 (spec_loDrawn.l1 kq a0 (wrap64 ((a0.size : Int) / 2)) x4_1 x5_2 = some r) ∧ Aside0 (kq ≤ k1) ∧ Drawn0 w w')
          case atStart => exact ⟨(0), (by first | rfl | (simp; done) | (simp [*]; done)), H', ⟨Nat.le_refl _⟩, by repeat (first | exact Drawn0.refl _ | apply Drawn0.step)⟩
          case round =>
            clear H'
            try clear p2
            try clear c3
            try clear c4
            try clear c4b0
            try clear p2
            obtain ⟨x5_2, rfl, HA, HK2, ⟨m2, rfl⟩⟩ := hrel
            cases gk with
            | zero => exact absurd HA.out (by simp [spec_loDrawn.l1])
            | succ k2 =>
              have H := HA.out
              clear HA
              simp only [spec_loDrawn.l1] at H
              by_cases c5 : x5_2 < x4_1
              · rw [if_pos c5] at H
                have c5b0 : decide (x5_2 < x4_1) = true := decide_eq_true c5
                clear c5
                replace H := Option.bind_eq_some_iff.mp H
                obtain ⟨t125, A60, H⟩ := H
                replace H : (if t125 = true then (spec_loDrawn.l1 k2 a0 (wrap64 ((a0.size : Int) / 2)) x4_1 (wrap64 (x5_2 + 1))) else ((spec_loBoth.f k2 a0 ((wrap64 (97 + x4_1)) % 256) ((wrap64 (97 + x5_2)) % 256)).bind fun t126 => (if (Int.tmod t126 2) = 0 then (spec_loDrawn.l1 k2 a0 (wrap64 ((a0.size : Int) / 2)) x4_1 (wrap64 (x5_2 + 1))) else (some false)))) = some r := H
                have A6 := Aside0.mk A60
                clear A60
                by_cases c7 : t125 = true
                · subst c7
                  have H1 : (spec_loDrawn.l1 k2 a0 (wrap64 ((a0.size : Int) / 2)) x4_1 (wrap64 (x5_2 + 1))) = some r := by rw [if_pos rfl] at H; exact H
                  clear H
                  have H := H1
                  clear H1
                  have H' := Aside0.mk H
                  clear H
                  go_wp2_with (first | (go_at_call 15; (with_reducible refine (spec_loLaced.calls k2 a0 ((wrap64 (97 + x4_1)) % 256) ((wrap64 (97 + x5_2)) % 256) true _ A6.out).mono ?_); rintro e w' ⟨rfl, ⟨nd, rfl⟩⟩; (try first | exact ⟨rfl, _, World.drewN_drewN _ _ _⟩ | exact ⟨rfl, _, Eq.trans (World.drewN_drewN _ _ _) (congrArg (World.drewN _) (Nat.add_assoc _ _ _))⟩)))
                  repeat (go_quiet (first | (go_at_call 15; (with_reducible refine (spec_loLaced.calls k2 a0 ((wrap64 (97 + x4_1)) % 256) ((wrap64 (97 + x5_2)) % 256) true _ A6.out).mono ?_); rintro e w' ⟨rfl, ⟨nd, rfl⟩⟩; (try first | exact ⟨rfl, _, World.drewN_drewN _ _ _⟩ | exact ⟨rfl, _, Eq.trans (World.drewN_drewN _ _ _) (congrArg (World.drewN _) (Nat.add_assoc _ _ _))⟩))); try go_wp2_with (first | (go_at_call 15; (with_reducible refine (spec_loLaced.calls k2 a0 ((wrap64 (97 + x4_1)) % 256) ((wrap64 (97 + x5_2)) % 256) true _ A6.out).mono ?_); rintro e w' ⟨rfl, ⟨nd, rfl⟩⟩; (try first | exact ⟨rfl, _, World.drewN_drewN _ _ _⟩ | exact ⟨rfl, _, Eq.trans (World.drewN_drewN _ _ _) (congrArg (World.drewN _) (Nat.add_assoc _ _ _))⟩))))
                  go_roundg k2
                  case measure => have := HK1.out; have := HK2.out; omega
                  case rel => exact ⟨(wrap64 (x5_2 + 1)), (by first | rfl | (simp; done) | (simp [*]; done)), H', ⟨by have := HK1.out; have := HK2.out; omega⟩, by repeat (first | exact Drawn0.refl _ | apply Drawn0.step)⟩
                · replace c7 := Bool.eq_false_iff.mpr c7
                  subst c7
                  have H1 : ((spec_loBoth.f k2 a0 ((wrap64 (97 + x4_1)) % 256) ((wrap64 (97 + x5_2)) % 256)).bind fun t126 => (if (Int.tmod t126 2) = 0 then (spec_loDrawn.l1 k2 a0 (wrap64 ((a0.size : Int) / 2)) x4_1 (wrap64 (x5_2 + 1))) else (some false))) = some r := by rw [if_neg (show ¬ (false = true) by decide)] at H; exact H
                  clear H
                  have H := H1
                  clear H1
                  replace H := Option.bind_eq_some_iff.mp H
                  obtain ⟨t126, A80, H⟩ := H
                  replace H : (if (Int.tmod t126 2) = 0 then (spec_loDrawn.l1 k2 a0 (wrap64 ((a0.size : Int) / 2)) x4_1 (wrap64 (x5_2 + 1))) else (some false)) = some r := H
                  have A8 := Aside0.mk A80
                  clear A80
                  by_cases c9 : (Int.tmod t126 2) = 0
                  · rw [if_pos c9] at H
                    have c9b0 : ((Int.tmod t126 2) == 0) = true := beq_iff_eq.mpr c9
                    have c9b1 : ((Int.tmod t126 2) != 0) = false := bne_eq_false_iff_eq.mpr c9
                    clear c9
                    have H' := Aside0.mk H
                    clear H
                    go_wp2_with (first | (go_at_call 15; (with_reducible refine (spec_loLaced.calls k2 a0 ((wrap64 (97 + x4_1)) % 256) ((wrap64 (97 + x5_2)) % 256) false _ A6.out).mono ?_); rintro e w' ⟨rfl, ⟨nd, rfl⟩⟩; (try first | exact ⟨rfl, _, World.drewN_drewN _ _ _⟩ | exact ⟨rfl, _, Eq.trans (World.drewN_drewN _ _ _) (congrArg (World.drewN _) (Nat.add_assoc _ _ _))⟩)) | (go_at_call 16; (with_reducible refine (spec_loBoth.calls k2 a0 ((wrap64 (97 + x4_1)) % 256) ((wrap64 (97 + x5_2)) % 256) t126 _ A8.out).mono ?_); rintro e w' ⟨rfl, ⟨nd, rfl⟩⟩; (try first | exact ⟨rfl, _, World.drewN_drewN _ _ _⟩ | exact ⟨rfl, _, Eq.trans (World.drewN_drewN _ _ _) (congrArg (World.drewN _) (Nat.add_assoc _ _ _))⟩)))
                    repeat (go_quiet (first | (go_at_call 15; (with_reducible refine (spec_loLaced.calls k2 a0 ((wrap64 (97 + x4_1)) % 256) ((wrap64 (97 + x5_2)) % 256) false _ A6.out).mono ?_); rintro e w' ⟨rfl, ⟨nd, rfl⟩⟩; (try first | exact ⟨rfl, _, World.drewN_drewN _ _ _⟩ | exact ⟨rfl, _, Eq.trans (World.drewN_drewN _ _ _) (congrArg (World.drewN _) (Nat.add_assoc _ _ _))⟩)) | (go_at_call 16; (with_reducible refine (spec_loBoth.calls k2 a0 ((wrap64 (97 + x4_1)) % 256) ((wrap64 (97 + x5_2)) % 256) t126 _ A8.out).mono ?_); rintro e w' ⟨rfl, ⟨nd, rfl⟩⟩; (try first | exact ⟨rfl, _, World.drewN_drewN _ _ _⟩ | exact ⟨rfl, _, Eq.trans (World.drewN_drewN _ _ _) (congrArg (World.drewN _) (Nat.add_assoc _ _ _))⟩))); try go_wp2_with (first | (go_at_call 15; (with_reducible refine (spec_loLaced.calls k2 a0 ((wrap64 (97 + x4_1)) % 256) ((wrap64 (97 + x5_2)) % 256) false _ A6.out).mono ?_); rintro e w' ⟨rfl, ⟨nd, rfl⟩⟩; (try first | exact ⟨rfl, _, World.drewN_drewN _ _ _⟩ | exact ⟨rfl, _, Eq.trans (World.drewN_drewN _ _ _) (congrArg (World.drewN _) (Nat.add_assoc _ _ _))⟩)) | (go_at_call 16; (with_reducible refine (spec_loBoth.calls k2 a0 ((wrap64 (97 + x4_1)) % 256) ((wrap64 (97 + x5_2)) % 256) t126 _ A8.out).mono ?_); rintro e w' ⟨rfl, ⟨nd, rfl⟩⟩; (try first | exact ⟨rfl, _, World.drewN_drewN _ _ _⟩ | exact ⟨rfl, _, Eq.trans (World.drewN_drewN _ _ _) (congrArg (World.drewN _) (Nat.add_assoc _ _ _))⟩))))
                    go_roundg k2
                    case measure => have := HK1.out; have := HK2.out; omega
                    case rel => exact ⟨(wrap64 (x5_2 + 1)), (by first | rfl | (simp; done) | (simp [*]; done)), H', ⟨by have := HK1.out; have := HK2.out; omega⟩, by repeat (first | exact Drawn0.refl _ | apply Drawn0.step)⟩
                  · rw [if_neg c9] at H
                    have c9b0 : ((Int.tmod t126 2) == 0) = false := beq_eq_false_iff_ne.mpr c9
                    have c9b1 : ((Int.tmod t126 2) != 0) = true := bne_iff_ne.mpr c9
                    obtain rfl := Option.some.inj H
                    go_wp2_with (first | (go_at_call 15; (with_reducible refine (spec_loLaced.calls k2 a0 ((wrap64 (97 + x4_1)) % 256) ((wrap64 (97 + x5_2)) % 256) false _ A6.out).mono ?_); rintro e w' ⟨rfl, ⟨nd, rfl⟩⟩; (try first | exact ⟨rfl, _, World.drewN_drewN _ _ _⟩ | exact ⟨rfl, _, Eq.trans (World.drewN_drewN _ _ _) (congrArg (World.drewN _) (Nat.add_assoc _ _ _))⟩)) | (go_at_call 16; (with_reducible refine (spec_loBoth.calls k2 a0 ((wrap64 (97 + x4_1)) % 256) ((wrap64 (97 + x5_2)) % 256) t126 _ A8.out).mono ?_); rintro e w' ⟨rfl, ⟨nd, rfl⟩⟩; (try first | exact ⟨rfl, _, World.drewN_drewN _ _ _⟩ | exact ⟨rfl, _, Eq.trans (World.drewN_drewN _ _ _) (congrArg (World.drewN _) (Nat.add_assoc _ _ _))⟩)))
                    repeat (go_quiet (first | (go_at_call 15; (with_reducible refine (spec_loLaced.calls k2 a0 ((wrap64 (97 + x4_1)) % 256) ((wrap64 (97 + x5_2)) % 256) false _ A6.out).mono ?_); rintro e w' ⟨rfl, ⟨nd, rfl⟩⟩; (try first | exact ⟨rfl, _, World.drewN_drewN _ _ _⟩ | exact ⟨rfl, _, Eq.trans (World.drewN_drewN _ _ _) (congrArg (World.drewN _) (Nat.add_assoc _ _ _))⟩)) | (go_at_call 16; (with_reducible refine (spec_loBoth.calls k2 a0 ((wrap64 (97 + x4_1)) % 256) ((wrap64 (97 + x5_2)) % 256) t126 _ A8.out).mono ?_); rintro e w' ⟨rfl, ⟨nd, rfl⟩⟩; (try first | exact ⟨rfl, _, World.drewN_drewN _ _ _⟩ | exact ⟨rfl, _, Eq.trans (World.drewN_drewN _ _ _) (congrArg (World.drewN _) (Nat.add_assoc _ _ _))⟩))); try go_wp2_with (first | (go_at_call 15; (with_reducible refine (spec_loLaced.calls k2 a0 ((wrap64 (97 + x4_1)) % 256) ((wrap64 (97 + x5_2)) % 256) false _ A6.out).mono ?_); rintro e w' ⟨rfl, ⟨nd, rfl⟩⟩; (try first | exact ⟨rfl, _, World.drewN_drewN _ _ _⟩ | exact ⟨rfl, _, Eq.trans (World.drewN_drewN _ _ _) (congrArg (World.drewN _) (Nat.add_assoc _ _ _))⟩)) | (go_at_call 16; (with_reducible refine (spec_loBoth.calls k2 a0 ((wrap64 (97 + x4_1)) % 256) ((wrap64 (97 + x5_2)) % 256) t126 _ A8.out).mono ?_); rintro e w' ⟨rfl, ⟨nd, rfl⟩⟩; (try first | exact ⟨rfl, _, World.drewN_drewN _ _ _⟩ | exact ⟨rfl, _, Eq.trans (World.drewN_drewN _ _ _) (congrArg (World.drewN _) (Nat.add_assoc _ _ _))⟩))))
                    go_ret
                    exact ⟨by first | rfl | (simp; done) | (simp [*]; done), by repeat (first | exact Drawn0.refl _ | apply Drawn0.step)⟩
              · rw [if_neg c5] at H
                have c5b0 : decide (x5_2 < x4_1) = false := decide_eq_false c5
                clear c5
                have H' := Aside0.mk H
                clear H
                go_wp2
                repeat (go_quiet (fail); try go_wp2)
                go_roundg k2
                case measure => have := HK1.out; have := HK2.out; omega
                case rel => exact ⟨(wrap64 (x4_1 + 1)), (by first | rfl | (simp; done) | (simp [*]; done)), H', ⟨by have := HK1.out; have := HK2.out; omega⟩, by repeat (first | exact Drawn0.refl _ | apply Drawn0.step)⟩
        · rw [if_neg c4] at H
          have c4b0 : decide (x4_1 < (wrap64 ((a0.size : Int) / 2))) = false := decide_eq_false c4
          clear c4
          have H' := Aside0.mk H
          clear H
          go_wp2
          repeat (go_quiet (fail); try go_wp2)
          go_loopg [8] k1 (fun kq v8 w' => ∃ (x8_2 : Int), v8 = .int .i64 x8_2 ∧ Aside0 (spec_loDrawn.l2 kq a0 (wrap64 ((a0.size : Int) / 2)) x8_2 = some r) ∧ Aside0 (kq ≤ k1) ∧ Drawn0 w w')
          case atStart => exact ⟨(0), (by first | rfl | (simp; done) | (simp [*]; done)), H', ⟨Nat.le_refl _⟩, by repeat (first | exact Drawn0.refl _ | apply Drawn0.step)⟩
          case round =>
            clear H'
            try clear p2
            try clear c3
            try clear c4
            try clear c4b0
            try clear c5
            try clear c5b0
            try clear p6
            try clear c7
            try clear c9
            try clear c9b0
            try clear c9b1
            try clear p2
            obtain ⟨x8_2, rfl, HA, HK2, ⟨m2, rfl⟩⟩ := hrel
            cases gk with
            | zero => exact absurd HA.out (by simp [spec_loDrawn.l2])
            | succ k2 =>
              have H := HA.out
              clear HA
              simp only [spec_loDrawn.l2] at H
              obtain ⟨ji10, hji10⟩ : ∃ j_ : Int, (wrap64 ((a0.size : Int) / 2)) = j_ := ⟨_, rfl⟩
              replace H : (if 0 ≤ (ji10) then (if x8_2 < (shl .i64 1 (ji10)) then (spec_loDrawn.l3 k2 a0 (ji10) x8_2 true 0) else (some false)) else (none)) = some r := by first | (rw [hji10] at H; exact H) | (simp only [hji10] at H ⊢; exact H)
              (try rw [hji10] at c4b0)
              have hji10w : (IntKind.i64.wrap ((a0.size : Int) / 2)) = ji10 := (i64_w _).trans hji10
              by_cases c11 : 0 ≤ (ji10)
              · rw [if_pos c11] at H
                have c11b0 := eq_true c11
                have c11b1 : decide (0 ≤ (ji10)) = true := decide_eq_true c11
                clear c11
                obtain ⟨ji12, hji12⟩ : ∃ j_ : Int, (shl .i64 1 (ji10)) = j_ := ⟨_, rfl⟩
                replace H : (if x8_2 < (ji12) then (spec_loDrawn.l3 k2 a0 (ji10) x8_2 true 0) else (some false)) = some r := by first | (rw [hji12] at H; exact H) | (simp only [hji12] at H ⊢; exact H)
                have hji12_ : (IntKind.i64.wrap (1 * 2 ^ min (ji10).toNat 64)) = ji12 := hji12
                have hji12z : (ji10) ≤ 64 → (IntKind.i64.wrap (1 * 2 ^ (ji10).toNat)) = ji12 := shl_small hji12
                have hji12u : (IntKind.i64.wrap (2 ^ min (ji10).toNat 64)) = ji12 := by have h_ := hji12_; rw [Int.one_mul] at h_; exact h_
                have hji12v : (ji10) ≤ 64 → (IntKind.i64.wrap (2 ^ (ji10).toNat)) = ji12 := fun hle_ => by have h_ := hji12z hle_; rw [Int.one_mul] at h_; exact h_
                have hji12y : (wrap64 (1 * 2 ^ min (ji10).toNat 64)) = ji12 := (i64_w _).symm.trans hji12_
                have hji12x : (ji10) ≤ 64 → (wrap64 (1 * 2 ^ (ji10).toNat)) = ji12 := fun h_ => (i64_w _).symm.trans (hji12z h_)
                by_cases c13 : x8_2 < (ji12)
                · rw [if_pos c13] at H
                  have c13b0 : decide (x8_2 < (ji12)) = true := decide_eq_true c13
                  clear c13
                  have H' := Aside0.mk H
                  clear H
                  go_wp2
                  repeat (go_quiet (fail); try go_wp2)
                  go_loopg [9, 10] k2 (fun kq v9 v10 w' => ∃ (x9_3 : Bool) (x10_3 : Int), v9 = .bool x9_3 ∧ v10 = .int .i64 x10_3 ∧ Aside0 (spec_loDrawn.l3 kq a0 (ji10) x8_2 x9_3 x10_3 = some r) ∧ Aside0 (kq ≤ k2) ∧ Drawn0 w w')
                  case atStart => exact ⟨(true), (0), (by first | rfl | (simp; done) | (simp [*]; done)), (by first | rfl | (simp; done) | (simp [*]; done)), H', ⟨Nat.le_refl _⟩, by repeat (first | exact Drawn0.refl _ | apply Drawn0.step)⟩
                  case round =>
                    clear H'
                    try clear c1
                    try clear p2
                    try clear c3
                    try clear c4
                    try clear c4b0
                    try clear c5
                    try clear c5b0
                    try clear p6
                    try clear c7
                    try clear c9
                    try clear c9b0
                    try clear c9b1
                    try clear c11
                    try clear c11b0
                    try clear c11b1
                    try clear c13
                    try clear c13b0
                    try clear p2
                    try clear p6
                    obtain ⟨x9_3, x10_3, rfl, rfl, HA, HK3, ⟨m3, rfl⟩⟩ := hrel
                    cases gk with
                    | zero => exact absurd HA.out (by simp [spec_loDrawn.l3])
                    | succ k3 =>
                      have H := HA.out
                      clear HA
                      simp only [spec_loDrawn.l3] at H
                      have HC14 := Aside0.mk H
                      clear H
                      go_upto_region 18 with (fail)
                      repeat (go_quiet (fail); go_upto_region 18 with (fail))
                      go_cut [60] (fun v60 wc => ∃ (kq : Nat) (x60_13 : Bool), v60 = .bool x60_13 ∧ Aside0 (spec_loDrawn.j4 kq a0 (ji10) x8_2 x9_3 x10_3 x60_13 = some r) ∧ Aside0 (kq ≤ k3) ∧ Drawn0 w wc)
                      case first =>
                        have H := HC14.out
                        clear HC14
                        by_cases c15 : x10_3 < (ji10)
                        · rw [if_pos c15] at H
                          have c15b0 : decide (x10_3 < (ji10)) = true := decide_eq_true c15
                          clear c15
                          (first | rw [c15b0] | (simp only [i64_w, i32_w]; rw [c15b0]) | skip)
                          have H' := Aside0.mk H
                          clear H
                          go_wp2
                          repeat (go_quiet (fail); try go_wp2)
                          go_meet
                          case rel => exact ⟨_, (x9_3), (by first | rfl | (simp; done) | (simp [*]; done)), (by first | exact H' | (rw [hji10]; exact H') | (rw [hji12]; exact H')), ⟨by have := HK1.out; have := HK2.out; have := HK3.out; first | omega | exact Nat.le_refl _⟩, by repeat (first | exact Drawn0.refl _ | apply Drawn0.step)⟩
                        · rw [if_neg c15] at H
                          have c15b0 : decide (x10_3 < (ji10)) = false := decide_eq_false c15
                          clear c15
                          (first | rw [c15b0] | (simp only [i64_w, i32_w]; rw [c15b0]) | skip)
                          have H' := Aside0.mk H
                          clear H
                          go_wp2
                          repeat (go_quiet (fail); try go_wp2)
                          go_meet
                          case rel => exact ⟨_, (false), (by first | rfl | (simp; done) | (simp [*]; done)), (by first | exact H' | (rw [hji10]; exact H') | (rw [hji12]; exact H')), ⟨by have := HK1.out; have := HK2.out; have := HK3.out; first | omega | exact Nat.le_refl _⟩, by repeat (first | exact Drawn0.refl _ | apply Drawn0.step)⟩
                      case rest =>
                        clear HC14
                        try clear c1
                        try clear p2
                        try clear c3
                        try clear c4
                        try clear c4b0
                        try clear c5
                        try clear c5b0
                        try clear p6
                        try clear c7
                        try clear c9
                        try clear c9b0
                        try clear c9b1
                        try clear c11
                        try clear c11b0
                        try clear c11b1
                        try clear c13
                        try clear c13b0
                        try clear c15
                        try clear c15b0
                        try clear p2
                        try clear p6
                        obtain ⟨kq, x60_13, rfl, HA, HJ13, ⟨mc13, rfl⟩⟩ := hcut
                        cases kq with
                        | zero => exact absurd HA.out (by simp [spec_loDrawn.j4])
                        | succ kj13 =>
                          have H := HA.out
                          clear HA
                          simp only [spec_loDrawn.j4] at H
                          by_cases c16 : x60_13 = true
                          · subst c16
                            have H1 : (spec_loDrawn.l4 kj13 a0 (ji10) x8_2 x9_3 x10_3 0) = some r := by rw [if_pos rfl] at H; exact H
                            clear H
                            have H := H1
                            clear H1
                            have H' := Aside0.mk H
                            clear H
                            go_wp2
                            repeat (go_quiet (fail); try go_wp2)
                            go_loopg [9, 11] kj13 (fun kq v9 v11 w' => ∃ (x9_5 : Bool) (x11_5 : Int), v9 = .bool x9_5 ∧ v11 = .int .i64 x11_5 ∧ Aside0 (spec_loDrawn.l4 kq a0 (ji10) x8_2 x9_5 x10_3 x11_5 = some r) ∧ Aside0 (kq ≤ kj13) ∧ Drawn0 w w')
                            case atStart => exact ⟨(x9_3), (0), (by first | rfl | (simp; done) | (simp [*]; done)), (by first | rfl | (simp; done) | (simp [*]; done)), H', ⟨Nat.le_refl _⟩, by repeat (first | exact Drawn0.refl _ | apply Drawn0.step)⟩
                            case round =>
                              clear H'
                              try clear c1
                              try clear p2
                              try clear c3
                              try clear c4
                              try clear c4b0
                              try clear c5
                              try clear c5b0
                              try clear p6
                              try clear c7
                              try clear c9
                              try clear c9b0
                              try clear c9b1
                              try clear c11
                              try clear c11b0
                              try clear c11b1
                              try clear c13
                              try clear c13b0
                              try clear c15
                              try clear c15b0
                              try clear c16
                              try clear p2
                              try clear p6
                              obtain ⟨x9_5, x11_5, rfl, rfl, HA, HK5, ⟨m5, rfl⟩⟩ := hrel
                              cases gk with
                              | zero => exact absurd HA.out (by simp [spec_loDrawn.l4])
                              | succ k5 =>
                                have H := HA.out
                                clear HA
                                simp only [spec_loDrawn.l4] at H
                                by_cases c17 : x11_5 < x10_3
                                · rw [if_pos c17] at H
                                  have c17b0 : decide (x11_5 < x10_3) = true := decide_eq_true c17
                                  clear c17
                                  replace H := Option.bind_eq_some_iff.mp H
                                  obtain ⟨t127, A180, H⟩ := H
                                  replace H : (if t127 = true then (if 0 ≤ x10_3 then (if 0 ≤ x11_5 then ((spec_loBoth.f k5 a0 ((wrap64 (97 + x10_3)) % 256) ((wrap64 (97 + x11_5)) % 256)).bind fun t128 => (if (((Go.bits .and .i64 (shr .i64 x8_2 x10_3) 1) != (Go.bits .and .i64 (shr .i64 x8_2 x11_5) 1)) != ((Int.tmod t128 2) == 0)) = true then (spec_loDrawn.l4 k5 a0 (ji10) x8_2 false x10_3 (wrap64 (x11_5 + 1))) else (spec_loDrawn.l4 k5 a0 (ji10) x8_2 x9_5 x10_3 (wrap64 (x11_5 + 1))))) else (none)) else (none)) else (spec_loDrawn.l4 k5 a0 (ji10) x8_2 x9_5 x10_3 (wrap64 (x11_5 + 1)))) = some r := H
                                  have A18 := Aside0.mk A180
                                  clear A180
                                  by_cases c19 : t127 = true
                                  · subst c19
                                    have H1 : (if 0 ≤ x10_3 then (if 0 ≤ x11_5 then ((spec_loBoth.f k5 a0 ((wrap64 (97 + x10_3)) % 256) ((wrap64 (97 + x11_5)) % 256)).bind fun t128 => (if (((Go.bits .and .i64 (shr .i64 x8_2 x10_3) 1) != (Go.bits .and .i64 (shr .i64 x8_2 x11_5) 1)) != ((Int.tmod t128 2) == 0)) = true then (spec_loDrawn.l4 k5 a0 (ji10) x8_2 false x10_3 (wrap64 (x11_5 + 1))) else (spec_loDrawn.l4 k5 a0 (ji10) x8_2 x9_5 x10_3 (wrap64 (x11_5 + 1))))) else (none)) else (none)) = some r := by rw [if_pos rfl] at H; exact H
                                    clear H
                                    have H := H1
                                    clear H1
                                    by_cases c20 : 0 ≤ x10_3
                                    · rw [if_pos c20] at H
                                      have c20b0 := eq_true c20
                                      have c20b1 : decide (0 ≤ x10_3) = true := decide_eq_true c20
                                      clear c20
                                      obtain ⟨ji21, hji21⟩ : ∃ j_ : Int, (shr .i64 x8_2 x10_3) = j_ := ⟨_, rfl⟩
                                      replace H : (if 0 ≤ x11_5 then ((spec_loBoth.f k5 a0 ((wrap64 (97 + x10_3)) % 256) ((wrap64 (97 + x11_5)) % 256)).bind fun t128 => (if (((Go.bits .and .i64 (ji21) 1) != (Go.bits .and .i64 (shr .i64 x8_2 x11_5) 1)) != ((Int.tmod t128 2) == 0)) = true then (spec_loDrawn.l4 k5 a0 (ji10) x8_2 false x10_3 (wrap64 (x11_5 + 1))) else (spec_loDrawn.l4 k5 a0 (ji10) x8_2 x9_5 x10_3 (wrap64 (x11_5 + 1))))) else (none)) = some r := by first | (rw [hji21] at H; exact H) | (simp only [hji21] at H ⊢; exact H)
                                      (try rw [hji21] at A18)
                                      have hji21_ : (x8_2 / 2 ^ min x10_3.toNat 64) = ji21 := hji21
                                      have hji21z : x10_3 ≤ 64 → (x8_2 / 2 ^ x10_3.toNat) = ji21 := shr_small hji21
                                      by_cases c22 : 0 ≤ x11_5
                                      · rw [if_pos c22] at H
                                        have c22b0 := eq_true c22
                                        have c22b1 : decide (0 ≤ x11_5) = true := decide_eq_true c22
                                        clear c22
                                        obtain ⟨ji23, hji23⟩ : ∃ j_ : Int, (shr .i64 x8_2 x11_5) = j_ := ⟨_, rfl⟩
                                        replace H : ((spec_loBoth.f k5 a0 ((wrap64 (97 + x10_3)) % 256) ((wrap64 (97 + x11_5)) % 256)).bind fun t128 => (if (((Go.bits .and .i64 (ji21) 1) != (Go.bits .and .i64 (ji23) 1)) != ((Int.tmod t128 2) == 0)) = true then (spec_loDrawn.l4 k5 a0 (ji10) x8_2 false x10_3 (wrap64 (x11_5 + 1))) else (spec_loDrawn.l4 k5 a0 (ji10) x8_2 x9_5 x10_3 (wrap64 (x11_5 + 1))))) = some r := by first | (rw [hji23] at H; exact H) | (simp only [hji23] at H ⊢; exact H)
                                        (try rw [hji23] at A18)
                                        have hji23_ : (x8_2 / 2 ^ min x11_5.toNat 64) = ji23 := hji23
                                        have hji23z : x11_5 ≤ 64 → (x8_2 / 2 ^ x11_5.toNat) = ji23 := shr_small hji23
                                        replace H := Option.bind_eq_some_iff.mp H
                                        obtain ⟨t128, A240, H⟩ := H
                                        replace H : (if (((Go.bits .and .i64 (ji21) 1) != (Go.bits .and .i64 (ji23) 1)) != ((Int.tmod t128 2) == 0)) = true then (spec_loDrawn.l4 k5 a0 (ji10) x8_2 false x10_3 (wrap64 (x11_5 + 1))) else (spec_loDrawn.l4 k5 a0 (ji10) x8_2 x9_5 x10_3 (wrap64 (x11_5 + 1)))) = some r := H
                                        have A24 := Aside0.mk A240
                                        clear A240
                                        by_cases c25 : (((Go.bits .and .i64 (ji21) 1) != (Go.bits .and .i64 (ji23) 1)) != ((Int.tmod t128 2) == 0)) = true
                                        · rw [if_pos c25] at H
                                          have c25b0 : (((Go.bits .and .i64 (ji21) 1) != (Go.bits .and .i64 (ji23) 1)) != ((Int.tmod t128 2) == 0)) = true := c25
                                          (try (have c25b1 : decide (((Go.bits .and .i64 (ji21) 1) != (Go.bits .and .i64 (ji23) 1)) = ((Int.tmod t128 2) == 0)) = false := by simpa using c25))
                                          (try (have c25b2 : (((Go.bits .and .i64 (ji21) 1) != (Go.bits .and .i64 (ji23) 1)) == ((Int.tmod t128 2) == 0)) = false := by simpa using c25))
                                          (try (have c25b3 : ¬ (((Go.bits .and .i64 (ji21) 1) != (Go.bits .and .i64 (ji23) 1)) = ((Int.tmod t128 2) == 0)) := by simpa using c25))
                                          clear c25
                                          have H' := Aside0.mk H
                                          clear H
                                          go_wp2_with (first | (go_at_call 15; (with_reducible refine (spec_loLaced.calls k5 a0 ((wrap64 (97 + x10_3)) % 256) ((wrap64 (97 + x11_5)) % 256) true _ A18.out).mono ?_); rintro e w' ⟨rfl, ⟨nd, rfl⟩⟩; (try first | exact ⟨rfl, _, World.drewN_drewN _ _ _⟩ | exact ⟨rfl, _, Eq.trans (World.drewN_drewN _ _ _) (congrArg (World.drewN _) (Nat.add_assoc _ _ _))⟩)) | (go_at_call 16; (with_reducible refine (spec_loBoth.calls k5 a0 ((wrap64 (97 + x10_3)) % 256) ((wrap64 (97 + x11_5)) % 256) t128 _ A24.out).mono ?_); rintro e w' ⟨rfl, ⟨nd, rfl⟩⟩; (try first | exact ⟨rfl, _, World.drewN_drewN _ _ _⟩ | exact ⟨rfl, _, Eq.trans (World.drewN_drewN _ _ _) (congrArg (World.drewN _) (Nat.add_assoc _ _ _))⟩)))
                                          repeat (go_quiet (first | (go_at_call 15; (with_reducible refine (spec_loLaced.calls k5 a0 ((wrap64 (97 + x10_3)) % 256) ((wrap64 (97 + x11_5)) % 256) true _ A18.out).mono ?_); rintro e w' ⟨rfl, ⟨nd, rfl⟩⟩; (try first | exact ⟨rfl, _, World.drewN_drewN _ _ _⟩ | exact ⟨rfl, _, Eq.trans (World.drewN_drewN _ _ _) (congrArg (World.drewN _) (Nat.add_assoc _ _ _))⟩)) | (go_at_call 16; (with_reducible refine (spec_loBoth.calls k5 a0 ((wrap64 (97 + x10_3)) % 256) ((wrap64 (97 + x11_5)) % 256) t128 _ A24.out).mono ?_); rintro e w' ⟨rfl, ⟨nd, rfl⟩⟩; (try first | exact ⟨rfl, _, World.drewN_drewN _ _ _⟩ | exact ⟨rfl, _, Eq.trans (World.drewN_drewN _ _ _) (congrArg (World.drewN _) (Nat.add_assoc _ _ _))⟩))); try go_wp2_with (first | (go_at_call 15; (with_reducible refine (spec_loLaced.calls k5 a0 ((wrap64 (97 + x10_3)) % 256) ((wrap64 (97 + x11_5)) % 256) true _ A18.out).mono ?_); rintro e w' ⟨rfl, ⟨nd, rfl⟩⟩; (try first | exact ⟨rfl, _, World.drewN_drewN _ _ _⟩ | exact ⟨rfl, _, Eq.trans (World.drewN_drewN _ _ _) (congrArg (World.drewN _) (Nat.add_assoc _ _ _))⟩)) | (go_at_call 16; (with_reducible refine (spec_loBoth.calls k5 a0 ((wrap64 (97 + x10_3)) % 256) ((wrap64 (97 + x11_5)) % 256) t128 _ A24.out).mono ?_); rintro e w' ⟨rfl, ⟨nd, rfl⟩⟩; (try first | exact ⟨rfl, _, World.drewN_drewN _ _ _⟩ | exact ⟨rfl, _, Eq.trans (World.drewN_drewN _ _ _) (congrArg (World.drewN _) (Nat.add_assoc _ _ _))⟩))))
                                          go_roundg k5
                                          case measure => have := HK1.out; have := HK2.out; have := HK3.out; have := HJ13.out; have := HK5.out; omega
                                          case rel => exact ⟨(false), (wrap64 (x11_5 + 1)), (by first | rfl | (simp; done) | (simp [*]; done)), (by first | rfl | (simp; done) | (simp [*]; done)), (by first | exact H' | (rw [hji10]; exact H') | (rw [hji12]; exact H') | (rw [hji21]; exact H') | (rw [hji23]; exact H')), ⟨by have := HK1.out; have := HK2.out; have := HK3.out; have := HJ13.out; have := HK5.out; omega⟩, by repeat (first | exact Drawn0.refl _ | apply Drawn0.step)⟩
                                        · rw [if_neg c25] at H
                                          have c25b0 : (((Go.bits .and .i64 (ji21) 1) != (Go.bits .and .i64 (ji23) 1)) != ((Int.tmod t128 2) == 0)) = false := by simpa using c25
                                          (try (have c25b1 : decide (((Go.bits .and .i64 (ji21) 1) != (Go.bits .and .i64 (ji23) 1)) = ((Int.tmod t128 2) == 0)) = true := by simpa using c25))
                                          (try (have c25b2 : (((Go.bits .and .i64 (ji21) 1) != (Go.bits .and .i64 (ji23) 1)) == ((Int.tmod t128 2) == 0)) = true := by simpa using c25))
                                          clear c25
                                          have H' := Aside0.mk H
                                          clear H
                                          go_wp2_with (first | (go_at_call 15; (with_reducible refine (spec_loLaced.calls k5 a0 ((wrap64 (97 + x10_3)) % 256) ((wrap64 (97 + x11_5)) % 256) true _ A18.out).mono ?_); rintro e w' ⟨rfl, ⟨nd, rfl⟩⟩; (try first | exact ⟨rfl, _, World.drewN_drewN _ _ _⟩ | exact ⟨rfl, _, Eq.trans (World.drewN_drewN _ _ _) (congrArg (World.drewN _) (Nat.add_assoc _ _ _))⟩)) | (go_at_call 16; (with_reducible refine (spec_loBoth.calls k5 a0 ((wrap64 (97 + x10_3)) % 256) ((wrap64 (97 + x11_5)) % 256) t128 _ A24.out).mono ?_); rintro e w' ⟨rfl, ⟨nd, rfl⟩⟩; (try first | exact ⟨rfl, _, World.drewN_drewN _ _ _⟩ | exact ⟨rfl, _, Eq.trans (World.drewN_drewN _ _ _) (congrArg (World.drewN _) (Nat.add_assoc _ _ _))⟩)))
                                          repeat (go_quiet (first | (go_at_call 15; (with_reducible refine (spec_loLaced.calls k5 a0 ((wrap64 (97 + x10_3)) % 256) ((wrap64 (97 + x11_5)) % 256) true _ A18.out).mono ?_); rintro e w' ⟨rfl, ⟨nd, rfl⟩⟩; (try first | exact ⟨rfl, _, World.drewN_drewN _ _ _⟩ | exact ⟨rfl, _, Eq.trans (World.drewN_drewN _ _ _) (congrArg (World.drewN _) (Nat.add_assoc _ _ _))⟩)) | (go_at_call 16; (with_reducible refine (spec_loBoth.calls k5 a0 ((wrap64 (97 + x10_3)) % 256) ((wrap64 (97 + x11_5)) % 256) t128 _ A24.out).mono ?_); rintro e w' ⟨rfl, ⟨nd, rfl⟩⟩; (try first | exact ⟨rfl, _, World.drewN_drewN _ _ _⟩ | exact ⟨rfl, _, Eq.trans (World.drewN_drewN _ _ _) (congrArg (World.drewN _) (Nat.add_assoc _ _ _))⟩))); try go_wp2_with (first | (go_at_call 15; (with_reducible refine (spec_loLaced.calls k5 a0 ((wrap64 (97 + x10_3)) % 256) ((wrap64 (97 + x11_5)) % 256) true _ A18.out).mono ?_); rintro e w' ⟨rfl, ⟨nd, rfl⟩⟩; (try first | exact ⟨rfl, _, World.drewN_drewN _ _ _⟩ | exact ⟨rfl, _, Eq.trans (World.drewN_drewN _ _ _) (congrArg (World.drewN _) (Nat.add_assoc _ _ _))⟩)) | (go_at_call 16; (with_reducible refine (spec_loBoth.calls k5 a0 ((wrap64 (97 + x10_3)) % 256) ((wrap64 (97 + x11_5)) % 256) t128 _ A24.out).mono ?_); rintro e w' ⟨rfl, ⟨nd, rfl⟩⟩; (try first | exact ⟨rfl, _, World.drewN_drewN _ _ _⟩ | exact ⟨rfl, _, Eq.trans (World.drewN_drewN _ _ _) (congrArg (World.drewN _) (Nat.add_assoc _ _ _))⟩))))
                                          go_roundg k5
                                          case measure => have := HK1.out; have := HK2.out; have := HK3.out; have := HJ13.out; have := HK5.out; omega
                                          case rel => exact ⟨(x9_5), (wrap64 (x11_5 + 1)), (by first | rfl | (simp; done) | (simp [*]; done)), (by first | rfl | (simp; done) | (simp [*]; done)), (by first | exact H' | (rw [hji10]; exact H') | (rw [hji12]; exact H') | (rw [hji21]; exact H') | (rw [hji23]; exact H')), ⟨by have := HK1.out; have := HK2.out; have := HK3.out; have := HJ13.out; have := HK5.out; omega⟩, by repeat (first | exact Drawn0.refl _ | apply Drawn0.step)⟩
                                      · rw [if_neg c22] at H
                                        exact absurd H (by simp)
                                    · rw [if_neg c20] at H
                                      exact absurd H (by simp)
                                  · replace c19 := Bool.eq_false_iff.mpr c19
                                    subst c19
                                    have H1 : (spec_loDrawn.l4 k5 a0 (ji10) x8_2 x9_5 x10_3 (wrap64 (x11_5 + 1))) = some r := by rw [if_neg (show ¬ (false = true) by decide)] at H; exact H
                                    clear H
                                    have H := H1
                                    clear H1
                                    have H' := Aside0.mk H
                                    clear H
                                    go_wp2_with (first | (go_at_call 15; (with_reducible refine (spec_loLaced.calls k5 a0 ((wrap64 (97 + x10_3)) % 256) ((wrap64 (97 + x11_5)) % 256) false _ A18.out).mono ?_); rintro e w' ⟨rfl, ⟨nd, rfl⟩⟩; (try first | exact ⟨rfl, _, World.drewN_drewN _ _ _⟩ | exact ⟨rfl, _, Eq.trans (World.drewN_drewN _ _ _) (congrArg (World.drewN _) (Nat.add_assoc _ _ _))⟩)))
                                    repeat (go_quiet (first | (go_at_call 15; (with_reducible refine (spec_loLaced.calls k5 a0 ((wrap64 (97 + x10_3)) % 256) ((wrap64 (97 + x11_5)) % 256) false _ A18.out).mono ?_); rintro e w' ⟨rfl, ⟨nd, rfl⟩⟩; (try first | exact ⟨rfl, _, World.drewN_drewN _ _ _⟩ | exact ⟨rfl, _, Eq.trans (World.drewN_drewN _ _ _) (congrArg (World.drewN _) (Nat.add_assoc _ _ _))⟩))); try go_wp2_with (first | (go_at_call 15; (with_reducible refine (spec_loLaced.calls k5 a0 ((wrap64 (97 + x10_3)) % 256) ((wrap64 (97 + x11_5)) % 256) false _ A18.out).mono ?_); rintro e w' ⟨rfl, ⟨nd, rfl⟩⟩; (try first | exact ⟨rfl, _, World.drewN_drewN _ _ _⟩ | exact ⟨rfl, _, Eq.trans (World.drewN_drewN _ _ _) (congrArg (World.drewN _) (Nat.add_assoc _ _ _))⟩))))
                                    go_roundg k5
                                    case measure => have := HK1.out; have := HK2.out; have := HK3.out; have := HJ13.out; have := HK5.out; omega
                                    case rel => exact ⟨(x9_5), (wrap64 (x11_5 + 1)), (by first | rfl | (simp; done) | (simp [*]; done)), (by first | rfl | (simp; done) | (simp [*]; done)), (by first | exact H' | (rw [hji10]; exact H') | (rw [hji12]; exact H') | (rw [hji21]; exact H') | (rw [hji23]; exact H')), ⟨by have := HK1.out; have := HK2.out; have := HK3.out; have := HJ13.out; have := HK5.out; omega⟩, by repeat (first | exact Drawn0.refl _ | apply Drawn0.step)⟩
                                · rw [if_neg c17] at H
                                  have c17b0 : decide (x11_5 < x10_3) = false := decide_eq_false c17
                                  clear c17
                                  have H' := Aside0.mk H
                                  clear H
                                  go_wp2
                                  repeat (go_quiet (fail); try go_wp2)
                                  go_roundg k5
                                  case measure => have := HK1.out; have := HK2.out; have := HK3.out; have := HJ13.out; have := HK5.out; omega
                                  case rel => exact ⟨(x9_5), (wrap64 (x10_3 + 1)), (by first | rfl | (simp; done) | (simp [*]; done)), (by first | rfl | (simp; done) | (simp [*]; done)), (by first | exact H' | (rw [hji10]; exact H') | (rw [hji12]; exact H') | (rw [hji21]; exact H') | (rw [hji23]; exact H')), ⟨by have := HK1.out; have := HK2.out; have := HK3.out; have := HJ13.out; have := HK5.out; omega⟩, by repeat (first | exact Drawn0.refl _ | apply Drawn0.step)⟩
                          · replace c16 := Bool.eq_false_iff.mpr c16
                            subst c16
                            have H1 : (if x9_3 = true then (some true) else (spec_loDrawn.l2 kj13 a0 (ji10) (wrap64 (x8_2 + 1)))) = some r := by rw [if_neg (show ¬ (false = true) by decide)] at H; exact H
                            clear H
                            have H := H1
                            clear H1
                            by_cases c26 : x9_3 = true
                            · subst c26
                              have H1 : (some true) = some r := by rw [if_pos rfl] at H; exact H
                              clear H
                              have H := H1
                              clear H1
                              obtain rfl := Option.some.inj H
                              go_wp2
                              repeat (go_quiet (fail); try go_wp2)
                              go_ret
                              exact ⟨by first | rfl | (simp; done) | (simp only [← hji10, ← hji12] <;> (first | rfl | simp)) | (simp [*]; done), by repeat (first | exact Drawn0.refl _ | apply Drawn0.step)⟩
                            · replace c26 := Bool.eq_false_iff.mpr c26
                              subst c26
                              have H1 : (spec_loDrawn.l2 kj13 a0 (ji10) (wrap64 (x8_2 + 1))) = some r := by rw [if_neg (show ¬ (false = true) by decide)] at H; exact H
                              clear H
                              have H := H1
                              clear H1
                              have H' := Aside0.mk H
                              clear H
                              go_wp2
                              repeat (go_quiet (fail); try go_wp2)
                              go_roundg kj13
                              case measure => have := HK1.out; have := HK2.out; have := HK3.out; have := HJ13.out; omega
                              case rel => exact ⟨(wrap64 (x8_2 + 1)), (by first | rfl | (simp; done) | (simp [*]; done)), (by first | exact H' | (rw [hji10]; exact H') | (rw [hji12]; exact H') | (rw [hji21]; exact H') | (rw [hji23]; exact H')), ⟨by have := HK1.out; have := HK2.out; have := HK3.out; have := HJ13.out; omega⟩, by repeat (first | exact Drawn0.refl _ | apply Drawn0.step)⟩
                · rw [if_neg c13] at H
                  have c13b0 : decide (x8_2 < (ji12)) = false := decide_eq_false c13
                  clear c13
                  obtain rfl := Option.some.inj H
                  go_wp2
                  repeat (go_quiet (fail); try go_wp2)
                  go_ret
                  exact ⟨by first | rfl | (simp; done) | (simp only [← hji10, ← hji12] <;> (first | rfl | simp)) | (simp [*]; done), by repeat (first | exact Drawn0.refl _ | apply Drawn0.step)⟩
              · rw [if_neg c11] at H
                exact absurd H (by simp)
  · replace c3 := Bool.eq_false_iff.mpr c3
    subst c3
    have H1 : (some false) = some r := by rw [if_neg (show ¬ (false = true) by decide)] at H; exact H
    clear H
    have H := H1
    clear H1
    obtain rfl := Option.some.inj H
    go_enter Try.func7, Try.ntmps7
    go_wp2_with (first | (go_at_call 14; (with_reducible refine (spec_loEven.calls k a0 false _ A2.out).mono ?_); rintro e w' ⟨rfl, ⟨nd, rfl⟩⟩; (try first | exact ⟨rfl, _, World.drewN_drewN _ _ _⟩ | exact ⟨rfl, _, Eq.trans (World.drewN_drewN _ _ _) (congrArg (World.drewN _) (Nat.add_assoc _ _ _))⟩)))
    repeat (go_quiet (first | (go_at_call 14; (with_reducible refine (spec_loEven.calls k a0 false _ A2.out).mono ?_); rintro e w' ⟨rfl, ⟨nd, rfl⟩⟩; (try first | exact ⟨rfl, _, World.drewN_drewN _ _ _⟩ | exact ⟨rfl, _, Eq.trans (World.drewN_drewN _ _ _) (congrArg (World.drewN _) (Nat.add_assoc _ _ _))⟩))); try go_wp2_with (first | (go_at_call 14; (with_reducible refine (spec_loEven.calls k a0 false _ A2.out).mono ?_); rintro e w' ⟨rfl, ⟨nd, rfl⟩⟩; (try first | exact ⟨rfl, _, World.drewN_drewN _ _ _⟩ | exact ⟨rfl, _, Eq.trans (World.drewN_drewN _ _ _) (congrArg (World.drewN _) (Nat.add_assoc _ _ _))⟩))))
    go_ret
    exact ⟨by first | rfl | (simp; done) | (simp [*]; done), by repeat (first | exact Drawn0.refl _ | apply Drawn0.step)⟩

end Go.Proofs.Ytgdpeabbmbclbaa.Pr

-- Written by a program for this claim.
namespace Go.Proofs.Ytgdpeabbmbclbaa.Pr
open Go.RowKit Go.Proofs.YtgdpeabbmbclbaaW.PrintWords Go.Proofs.YtgdpeabbmbclbaaW.PrintLast Go.Proofs.YtgdpeabbmbclbaaW.PrintMore
attribute [local go_sem] max2_int min2_int max_two min_two max_three min_three max_four min_four   -- for this text's walks alone
set_option linter.unusedVariables false
set_option linter.unusedSimpArgs false

/-! ### spec_CountDrawn: function 4 -/
def spec_CountDrawn.l0 : Nat → Int → List ByteArray → Int → Int → Option (Int × Bool)
  | 0, _, _, _, _ => none
  | k + 1, x6, x16, x17, x18 => if x18 < x17 then (if 0 ≤ x18 then (if x18 < (x16.length : Int) then ((spec_loDrawn.f k (rdOf ByteArray.empty x16 x18)).bind fun t134 => (if t134 = true then (spec_CountDrawn.l0 k (wrap64 (x6 + 1)) x16 x17 (wrap64 (x18 + 1))) else (spec_CountDrawn.l0 k x6 x16 x17 (wrap64 (x18 + 1))))) else (none)) else (none)) else (some (x6, true))
def spec_CountDrawn.f (k : Nat) (a0 : Int) : Option (Int × Bool) := (spec_AllLoops.f k a0).bind fun bt129 => (if bt129.2 = true then (spec_CountDrawn.l0 k 0 bt129.1 (bt129.1.length : Int) 0) else (some (0, false)))
theorem spec_CountDrawn.mono_l : ∀ k, (∀ y0 y1 y2 y3, LeO (spec_CountDrawn.l0 k y0 y1 y2 y3) (spec_CountDrawn.l0 (k + 1) y0 y1 y2 y3))
  | 0 => fun _ _ _ _ r h => by simp [spec_CountDrawn.l0] at h
  | k + 1 => by
    have ih0 := spec_CountDrawn.mono_l k
    · intro y0 y1 y2 y3
      unfold spec_CountDrawn.l0
      repeat' first
      | (with_reducible exact ih0 _ _ _ _)
      | (with_reducible exact spec_AllLoops.mono _ _)
      | (with_reducible exact spec_loDrawn.mono _ _)
      | (with_reducible exact LeO.refl _)
      | (with_reducible exact LeO.none _)
      | (with_reducible refine LeO.ite ?_ ?_)
      | (with_reducible refine LeO.bind ?_ (fun _ => ?_))
      | exact ih0 _ _ _ _
      | exact spec_AllLoops.mono _ _
      | exact spec_loDrawn.mono _ _
      | exact LeO.none _
      | refine LeO.ite ?_ ?_
      | refine LeO.bind ?_ (fun _ => ?_)
theorem spec_CountDrawn.mono : ∀ a0 k, LeO (spec_CountDrawn.f k a0) (spec_CountDrawn.f (k + 1) a0) := by
  intro a0 k
  have ih0 := spec_CountDrawn.mono_l k
  unfold spec_CountDrawn.f
  repeat' first
      | (with_reducible exact ih0 _ _ _ _)
      | (with_reducible exact spec_AllLoops.mono _ _)
      | (with_reducible exact spec_loDrawn.mono _ _)
      | (with_reducible exact LeO.refl _)
      | (with_reducible exact LeO.none _)
      | (with_reducible refine LeO.ite ?_ ?_)
      | (with_reducible refine LeO.bind ?_ (fun _ => ?_))
      | exact ih0 _ _ _ _
      | exact spec_AllLoops.mono _ _
      | exact spec_loDrawn.mono _ _
      | exact LeO.none _
      | refine LeO.ite ?_ ?_
      | refine LeO.bind ?_ (fun _ => ?_)
set_option maxHeartbeats 8000000 in
set_option maxRecDepth 100000 in
theorem spec_CountDrawn.calls (k : Nat) (a0 : Int) (r1 : Int) (r2 : Bool) (w : World) (h : spec_CountDrawn.f k a0 = some (r1, r2)) :
    Calls Try.prog 4 #[.int .i64 a0] w fun e w' => e = .returned (.tuple #[.int .i64 r1, .bool r2]) ∧ Below w.heap.size w w' := by
  have HB := Aside0.mk (Below.refl w.heap.size w)
  have H : ((spec_AllLoops.f k a0).bind fun bt129 => (if bt129.2 = true then (spec_CountDrawn.l0 k 0 bt129.1 (bt129.1.length : Int) 0) else (some (0, false)))) = some (r1, r2) := h
  clear h
  replace H := Option.bind_eq_some_iff.mp H
  obtain ⟨⟨t129, t130⟩, A20, H⟩ := H
  replace H : (if t130 = true then (spec_CountDrawn.l0 k 0 t129 (t129.length : Int) 0) else (some (0, false))) = some (r1, r2) := H
  have A2 := Aside0.mk A20
  clear A20
  by_cases c3 : t130 = true
  · subst c3
    have H1 : (spec_CountDrawn.l0 k 0 t129 (t129.length : Int) 0) = some (r1, r2) := by rw [if_pos rfl] at H; exact H
    clear H
    have H := H1
    clear H1
    have H' := Aside0.mk H
    clear H
    go_enter Try.func4, Try.ntmps4
    go_wp2_with (first | ((with_reducible refine gate_callee (f := 6) rfl ?_); refine goesL_ (some 11) rfl rfl Try.func6 (by kernel_rfl) rfl #[.int .i64 a0] rfl (by (try simp only [List.map_toArray, List.map_cons, List.map_nil]); first | done | rfl | (simp only [List.length_drop, List.length_take]; rfl)) ?_; (with_reducible refine (spec_AllLoops.calls k a0 t129 true _ A2.out).mono ?_); rintro e w4 ⟨v131, rfl, ho0, hb⟩; refine ⟨_, rfl, ?_⟩; have n0_ := Aside0.mk (Kd.R_lower ho0 (below_size (by repeat (first | (with_reducible first | exact HB.out | apply below_alloc | apply pw_below_drewN | apply below_drew1) | exact HB.out)))); have n1_ := Aside0.mk (below_step (by repeat (first | (with_reducible first | exact HB.out | apply below_alloc | apply pw_below_drewN | apply below_drew1) | exact HB.out)) hb); clear HB; have HO132 := n0_; have HB := n1_; clear n0_ n1_; (try clear hb); (try clear hb2); (try clear hk); (try clear hi); (try clear ho0); obtain ⟨Ao5, co5, eo5⟩ := Kd.R_slice HO132.out; subst eo5))
    go_loopg [6, 18] k (fun kq v6 v18 w' => ∃ (x6_1 : Int) (x18_1 : Int), v6 = .int .i64 x6_1 ∧ v18 = .int .i64 x18_1 ∧ Aside0 (spec_CountDrawn.l0 kq x6_1 t129 (t129.length : Int) x18_1 = some (r1, r2)) ∧ Aside0 (kq ≤ k) ∧ Aside0 (Kd.R Kd.string 9 w' w.heap.size (fun _ => True) (.slice Ao5 t129.length co5) t129) ∧ Aside0 (Below w.heap.size w w'))
    case atStart => exact ⟨(0), (0), (by first | rfl | (simp; done) | (simp [*]; done)), (by first | rfl | (simp; done) | (simp [*]; done)), H', ⟨Nat.le_refl _⟩, ⟨by (with_reducible repeat (first | apply Kd.R_alloc | apply Kd.R_drewN | apply Kd.R_drew)); exact HO132.out⟩, ⟨by repeat (first | (with_reducible first | exact HB.out | apply below_alloc | apply pw_below_drewN | apply below_drew1) | exact HB.out)⟩⟩
    case round =>
      clear H'
      try clear p2
      try clear c3
      try clear c4
      obtain ⟨x6_1, x18_1, rfl, rfl, HA, HK1, HO_16, HB⟩ := hrel
      cases gk with
      | zero => exact absurd HA.out (by simp [spec_CountDrawn.l0])
      | succ k1 =>
        have H := HA.out
        clear HA
        simp only [spec_CountDrawn.l0] at H
        by_cases c6 : x18_1 < (t129.length : Int)
        · rw [if_pos c6] at H
          have c6b0 : decide (x18_1 < (t129.length : Int)) = true := decide_eq_true c6
          clear c6
          by_cases c7 : 0 ≤ x18_1
          · rw [if_pos c7] at H
            have c7b0 : decide (0 ≤ x18_1) = true := decide_eq_true c7
            clear c7
            by_cases c8 : x18_1 < (t129.length : Int)
            · rw [if_pos c8] at H
              have c8b0 : decide (x18_1 < (t129.length : Int)) = true := decide_eq_true c8
              clear c8
              replace H := Option.bind_eq_some_iff.mp H
              obtain ⟨t134, A90, H⟩ := H
              replace H : (if t134 = true then (spec_CountDrawn.l0 k1 (wrap64 (x6_1 + 1)) t129 (t129.length : Int) (wrap64 (x18_1 + 1))) else (spec_CountDrawn.l0 k1 x6_1 t129 (t129.length : Int) (wrap64 (x18_1 + 1)))) = some (r1, r2) := H
              have A9 := Aside0.mk A90
              clear A90
              by_cases c10 : t134 = true
              · subst c10
                have H1 : (spec_CountDrawn.l0 k1 (wrap64 (x6_1 + 1)) t129 (t129.length : Int) (wrap64 (x18_1 + 1))) = some (r1, r2) := by rw [if_pos rfl] at H; exact H
                clear H
                have H := H1
                clear H1
                have H' := Aside0.mk H
                clear H
                have p133 : 0 ≤ (x18_1 : Int) := of_decide_eq_true (by first | (with_reducible assumption) | assumption)
                have q133 : x18_1 < (t129.length : Int) := of_decide_eq_true (by first | (with_reducible assumption) | assumption)
                obtain ⟨ad133, e133, hx133_0⟩ := Kd.at_string (Kd.R_reads' HO_16.out).2.2 x18_1 p133 q133
                cases e133
                replace p133 := eq_true p133
                replace q133 := eq_true q133
                go_wp2_with (first | ((with_reducible refine gate_callee (f := 7) rfl ?_); refine goesL_ (some 23) rfl rfl Try.func7 (by kernel_rfl) rfl #[.string (rdOf ByteArray.empty t129 x18_1)] rfl (by (try simp only [List.map_toArray, List.map_cons, List.map_nil]); first | done | rfl | (simp only [List.length_drop, List.length_take]; rfl)) ?_; (with_reducible refine (spec_loDrawn.calls k1 (rdOf ByteArray.empty t129 x18_1) true _ A9.out).mono ?_); rintro e w' ⟨rfl, ⟨nd, rfl⟩⟩; refine ⟨_, rfl, ?_⟩))
                go_roundg k1
                case measure => have := HK1.out; omega
                case rel => exact ⟨(wrap64 (x6_1 + 1)), (wrap64 (x18_1 + 1)), (by first | rfl | (simp; done) | (simp [*]; done)), (by first | rfl | (simp; done) | (simp [*]; done)), H', ⟨by have := HK1.out; omega⟩, ⟨by (with_reducible repeat (first | apply Kd.R_alloc | apply Kd.R_drewN | apply Kd.R_drew)); exact HO_16.out⟩, ⟨by repeat (first | (with_reducible first | exact HB.out | apply below_alloc | apply pw_below_drewN | apply below_drew1) | exact HB.out)⟩⟩
              · replace c10 := Bool.eq_false_iff.mpr c10
                subst c10
                have H1 : (spec_CountDrawn.l0 k1 x6_1 t129 (t129.length : Int) (wrap64 (x18_1 + 1))) = some (r1, r2) := by rw [if_neg (show ¬ (false = true) by decide)] at H; exact H
                clear H
                have H := H1
                clear H1
                have H' := Aside0.mk H
                clear H
                have p133 : 0 ≤ (x18_1 : Int) := of_decide_eq_true (by first | (with_reducible assumption) | assumption)
                have q133 : x18_1 < (t129.length : Int) := of_decide_eq_true (by first | (with_reducible assumption) | assumption)
                obtain ⟨ad133, e133, hx133_0⟩ := Kd.at_string (Kd.R_reads' HO_16.out).2.2 x18_1 p133 q133
                cases e133
                replace p133 := eq_true p133
                replace q133 := eq_true q133
                go_wp2_with (first | ((with_reducible refine gate_callee (f := 7) rfl ?_); refine goesL_ (some 23) rfl rfl Try.func7 (by kernel_rfl) rfl #[.string (rdOf ByteArray.empty t129 x18_1)] rfl (by (try simp only [List.map_toArray, List.map_cons, List.map_nil]); first | done | rfl | (simp only [List.length_drop, List.length_take]; rfl)) ?_; (with_reducible refine (spec_loDrawn.calls k1 (rdOf ByteArray.empty t129 x18_1) false _ A9.out).mono ?_); rintro e w' ⟨rfl, ⟨nd, rfl⟩⟩; refine ⟨_, rfl, ?_⟩))
                go_roundg k1
                case measure => have := HK1.out; omega
                case rel => exact ⟨(x6_1), (wrap64 (x18_1 + 1)), (by first | rfl | (simp; done) | (simp [*]; done)), (by first | rfl | (simp; done) | (simp [*]; done)), H', ⟨by have := HK1.out; omega⟩, ⟨by (with_reducible repeat (first | apply Kd.R_alloc | apply Kd.R_drewN | apply Kd.R_drew)); exact HO_16.out⟩, ⟨by repeat (first | (with_reducible first | exact HB.out | apply below_alloc | apply pw_below_drewN | apply below_drew1) | exact HB.out)⟩⟩
            · rw [if_neg c8] at H
              exact absurd H (by simp)
          · rw [if_neg c7] at H
            exact absurd H (by simp)
        · rw [if_neg c6] at H
          have c6b0 : decide (x18_1 < (t129.length : Int)) = false := decide_eq_false c6
          clear c6
          simp only [Option.some.injEq, Prod.mk.injEq] at H
          obtain ⟨rfl, rfl⟩ := H
          go_wp2
          go_ret2
          exact ⟨by first | rfl | (simp [errW_none, errW_some] <;> rfl) | (simp [*, errW_none, errW_some] <;> rfl), by repeat (first | (with_reducible first | exact HB.out | apply below_alloc | apply pw_below_drewN | apply below_drew1) | exact HB.out)⟩
  · replace c3 := Bool.eq_false_iff.mpr c3
    subst c3
    have H1 : (some (0, false)) = some (r1, r2) := by rw [if_neg (show ¬ (false = true) by decide)] at H; exact H
    clear H
    have H := H1
    clear H1
    simp only [Option.some.injEq, Prod.mk.injEq] at H
    obtain ⟨rfl, rfl⟩ := H
    go_enter Try.func4, Try.ntmps4
    go_wp2_with (first | ((with_reducible refine gate_callee (f := 6) rfl ?_); refine goesL_ (some 11) rfl rfl Try.func6 (by kernel_rfl) rfl #[.int .i64 a0] rfl (by (try simp only [List.map_toArray, List.map_cons, List.map_nil]); first | done | rfl | (simp only [List.length_drop, List.length_take]; rfl)) ?_; (with_reducible refine (spec_AllLoops.calls k a0 t129 false _ A2.out).mono ?_); rintro e w11 ⟨v131, rfl, ho0, hb⟩; refine ⟨_, rfl, ?_⟩; have n0_ := Aside0.mk (Kd.R_lower ho0 (below_size (by repeat (first | (with_reducible first | exact HB.out | apply below_alloc | apply pw_below_drewN | apply below_drew1) | exact HB.out)))); have n1_ := Aside0.mk (below_step (by repeat (first | (with_reducible first | exact HB.out | apply below_alloc | apply pw_below_drewN | apply below_drew1) | exact HB.out)) hb); clear HB; have HO132 := n0_; have HB := n1_; clear n0_ n1_; (try clear hb); (try clear hb2); (try clear hk); (try clear hi); (try clear ho0)))
    go_ret2
    exact ⟨by first | rfl | (simp [errW_none, errW_some] <;> rfl) | (simp [*, errW_none, errW_some] <;> rfl), by repeat (first | (with_reducible first | exact HB.out | apply below_alloc | apply pw_below_drewN | apply below_drew1) | exact HB.out)⟩

end Go.Proofs.Ytgdpeabbmbclbaa.Pr

-- Written by a program for this claim.
namespace Go.Proofs.Ytgdpeabbmbclbaa.Pr
open Go.RowKit Go.Proofs.YtgdpeabbmbclbaaW.PrintWords Go.Proofs.YtgdpeabbmbclbaaW.PrintLast Go.Proofs.YtgdpeabbmbclbaaW.PrintMore
attribute [local go_sem] max2_int min2_int max_two min_two max_three min_three max_four min_four   -- for this text's walks alone
set_option linter.unusedVariables false
set_option linter.unusedSimpArgs false

/-! ### impl_within: function 8 -/
def impl_within.f (a0 : Int) (a1 : Int) (a2 : Int) : Option (Bool) := if a0 ≥ a1 then (some (decide (a0 ≤ a2))) else (some false)
set_option maxHeartbeats 8000000 in
set_option maxRecDepth 100000 in
theorem impl_within.calls (a0 : Int) (a1 : Int) (a2 : Int) (r : Bool) (w : World) (h : impl_within.f a0 a1 a2 = some r) :
    Calls Try.prog 8 #[.int .i64 a0, .int .i64 a1, .int .i64 a2] w fun e w' => e = .returned (.bool r) ∧ Drawn0 w w' := by
  have H : (if a0 ≥ a1 then (some (decide (a0 ≤ a2))) else (some false)) = some r := h
  clear h
  by_cases c4 : a0 ≥ a1
  · rw [if_pos c4] at H
    have c4b0 : decide (a1 ≤ a0) = true := decide_eq_true c4
    clear c4
    obtain rfl := Option.some.inj H
    go_enter Try.func8, Try.ntmps8
    go_wp2
    go_ret
    exact ⟨by first | rfl | (simp; done) | (simp [*]; done), by repeat (first | exact Drawn0.refl _ | apply Drawn0.step)⟩
  · rw [if_neg c4] at H
    have c4b0 : decide (a1 ≤ a0) = false := decide_eq_false c4
    clear c4
    obtain rfl := Option.some.inj H
    go_enter Try.func8, Try.ntmps8
    go_wp2
    go_ret
    exact ⟨by first | rfl | (simp; done) | (simp [*]; done), by repeat (first | exact Drawn0.refl _ | apply Drawn0.step)⟩

end Go.Proofs.Ytgdpeabbmbclbaa.Pr

-- Written by a program for this claim.
namespace Go.Proofs.Ytgdpeabbmbclbaa.Pr
open Go.RowKit Go.Proofs.YtgdpeabbmbclbaaW.PrintWords Go.Proofs.YtgdpeabbmbclbaaW.PrintLast Go.Proofs.YtgdpeabbmbclbaaW.PrintMore
attribute [local go_sem] max2_int min2_int max_two min_two max_three min_three max_four min_four   -- for this text's walks alone
set_option linter.unusedVariables false
set_option linter.unusedSimpArgs false

/-! ### impl_countOn: function 17 -/
mutual
def impl_countOn.j0 : Nat → Int → Int → Bool → Option (Int)
  | 0, _, _, _ => none
  | k + 1, x0, x1, x5 => if x5 = true then (some 0) else (if x0 = 0 then (impl_countOn.j1 k x0 x1 (x1 == 0)) else (impl_countOn.j1 k x0 x1 false))
def impl_countOn.j1 : Nat → Int → Int → Bool → Option (Int)
  | 0, _, _, _ => none
  | k + 1, x0, x1, x12 => if x12 = true then (some 1) else ((impl_countOn.f k (wrap64 (x0 - 1)) x1).bind fun t106 => ((impl_countOn.f k (wrap64 (x0 + 1)) (wrap64 (x1 - 1))).bind fun t107 => (some (wrap64 ((wrap64 (x0 * t106)) + t107)))))
def impl_countOn.f : Nat → Int → Int → Option (Int)
  | 0, _, _ => none
  | k + 1, a0, a1 => if a0 < 0 then (impl_countOn.j0 k a0 a1 true) else (impl_countOn.j0 k a0 a1 (decide (a1 < 0)))
end
theorem impl_countOn.mono_l : ∀ k, (∀ y0 y1, LeO (impl_countOn.f k y0 y1) (impl_countOn.f (k + 1) y0 y1)) ∧ (∀ y0 y1 y2, LeO (impl_countOn.j0 k y0 y1 y2) (impl_countOn.j0 (k + 1) y0 y1 y2)) ∧ (∀ y0 y1 y2, LeO (impl_countOn.j1 k y0 y1 y2) (impl_countOn.j1 (k + 1) y0 y1 y2))
  | 0 => ⟨fun _ _ r h => by simp [impl_countOn.f] at h, fun _ _ _ r h => by simp [impl_countOn.j0] at h, fun _ _ _ r h => by simp [impl_countOn.j1] at h⟩
  | k + 1 => by
    obtain ⟨ih0, ih1, ih2⟩ := impl_countOn.mono_l k
    refine ⟨?_, ?_, ?_⟩
    · intro y0 y1
      unfold impl_countOn.f
      repeat' first
      | (with_reducible exact ih0 _ _)
      | (with_reducible exact ih1 _ _ _)
      | (with_reducible exact ih2 _ _ _)
      | (with_reducible exact LeO.refl _)
      | (with_reducible exact LeO.none _)
      | (with_reducible refine LeO.ite ?_ ?_)
      | (with_reducible refine LeO.bind ?_ (fun _ => ?_))
      | exact ih0 _ _
      | exact ih1 _ _ _
      | exact ih2 _ _ _
      | exact LeO.none _
      | refine LeO.ite ?_ ?_
      | refine LeO.bind ?_ (fun _ => ?_)
    · intro y0 y1 y2
      unfold impl_countOn.j0
      repeat' first
      | (with_reducible exact ih0 _ _)
      | (with_reducible exact ih1 _ _ _)
      | (with_reducible exact ih2 _ _ _)
      | (with_reducible exact LeO.refl _)
      | (with_reducible exact LeO.none _)
      | (with_reducible refine LeO.ite ?_ ?_)
      | (with_reducible refine LeO.bind ?_ (fun _ => ?_))
      | exact ih0 _ _
      | exact ih1 _ _ _
      | exact ih2 _ _ _
      | exact LeO.none _
      | refine LeO.ite ?_ ?_
      | refine LeO.bind ?_ (fun _ => ?_)
    · intro y0 y1 y2
      unfold impl_countOn.j1
      repeat' first
      | (with_reducible exact ih0 _ _)
      | (with_reducible exact ih1 _ _ _)
      | (with_reducible exact ih2 _ _ _)
      | (with_reducible exact LeO.refl _)
      | (with_reducible exact LeO.none _)
      | (with_reducible refine LeO.ite ?_ ?_)
      | (with_reducible refine LeO.bind ?_ (fun _ => ?_))
      | exact ih0 _ _
      | exact ih1 _ _ _
      | exact ih2 _ _ _
      | exact LeO.none _
      | refine LeO.ite ?_ ?_
      | refine LeO.bind ?_ (fun _ => ?_)
theorem impl_countOn.mono : ∀ a0 a1 k, LeO (impl_countOn.f k a0 a1) (impl_countOn.f (k + 1) a0 a1) := by
  intro a0 a1 k
  obtain ⟨ih0, ih1, ih2⟩ := impl_countOn.mono_l k
  exact ih0 a0 a1
set_option maxHeartbeats 8000000 in
set_option maxRecDepth 100000 in
theorem impl_countOn.calls (k : Nat) : ∀ (a0 : Int) (a1 : Int) (r : Int) (w : World) (h : impl_countOn.f k a0 a1 = some r),
    Calls Try.prog 17 #[.int .i64 a0, .int .i64 a1] w fun e w' => e = .returned (.int .i64 r) ∧ Drawn0 w w' := by
  induction k using Nat.strongRecOn with
  | _ k ih =>
  intro a0 a1 r w h
  cases k with
  | zero => exact absurd h (by simp [impl_countOn.f])
  | succ k =>
  simp only [impl_countOn.f] at h
  have H : (if a0 < 0 then (impl_countOn.j0 k a0 a1 true) else (impl_countOn.j0 k a0 a1 (decide (a1 < 0)))) = some r := h
  clear h
  have HC3 := Aside0.mk H
  clear H
  go_enter Try.func17, Try.ntmps17
  go_upto_region 1 with (fail)
  go_cut [5] (fun v5 wc => ∃ (kq : Nat) (x5_2 : Bool), v5 = .bool x5_2 ∧ Aside0 (impl_countOn.j0 kq a0 a1 x5_2 = some r) ∧ Aside0 (kq ≤ k) ∧ Drawn0 w wc)
  case first =>
    have H := HC3.out
    clear HC3
    by_cases c4 : a0 < 0
    · rw [if_pos c4] at H
      have c4b0 : decide (a0 < 0) = true := decide_eq_true c4
      clear c4
      (first | rw [c4b0] | (simp only [i64_w, i32_w]; rw [c4b0]) | skip)
      have H' := Aside0.mk H
      clear H
      go_wp2
      go_meet
      case rel => exact ⟨_, (true), (by first | rfl | (simp; done) | (simp [*]; done)), H', ⟨by first | omega | exact Nat.le_refl _⟩, by repeat (first | exact Drawn0.refl _ | apply Drawn0.step)⟩
    · rw [if_neg c4] at H
      have c4b0 : decide (a0 < 0) = false := decide_eq_false c4
      clear c4
      (first | rw [c4b0] | (simp only [i64_w, i32_w]; rw [c4b0]) | skip)
      have H' := Aside0.mk H
      clear H
      go_wp2
      go_meet
      case rel => exact ⟨_, (decide (a1 < 0)), (by first | rfl | (simp; done) | (simp [*]; done)), H', ⟨by first | omega | exact Nat.le_refl _⟩, by repeat (first | exact Drawn0.refl _ | apply Drawn0.step)⟩
  case rest =>
    clear HC3
    try clear c1
    try clear p2
    try clear c4
    try clear c4b0
    obtain ⟨kq, x5_2, rfl, HA, HJ2, ⟨mc2, rfl⟩⟩ := hcut
    cases kq with
    | zero => exact absurd HA.out (by simp [impl_countOn.j0])
    | succ kj2 =>
      have H := HA.out
      clear HA
      simp only [impl_countOn.j0] at H
      by_cases c5 : x5_2 = true
      · subst c5
        have H1 : (some 0) = some r := by rw [if_pos rfl] at H; exact H
        clear H
        have H := H1
        clear H1
        obtain rfl := Option.some.inj H
        go_wp2
        go_ret
        exact ⟨by first | rfl | (simp; done) | (simp [*]; done), by repeat (first | exact Drawn0.refl _ | apply Drawn0.step)⟩
      · replace c5 := Bool.eq_false_iff.mpr c5
        subst c5
        have H1 : (if a0 = 0 then (impl_countOn.j1 kj2 a0 a1 (a1 == 0)) else (impl_countOn.j1 kj2 a0 a1 false)) = some r := by rw [if_neg (show ¬ (false = true) by decide)] at H; exact H
        clear H
        have H := H1
        clear H1
        have HC6 := Aside0.mk H
        clear H
        go_upto_region 3 with (fail)
        go_cut [12] (fun v12 wc => ∃ (kq : Nat) (x12_5 : Bool), v12 = .bool x12_5 ∧ Aside0 (impl_countOn.j1 kq a0 a1 x12_5 = some r) ∧ Aside0 (kq ≤ kj2) ∧ Drawn0 w wc)
        case first =>
          have H := HC6.out
          clear HC6
          by_cases c7 : a0 = 0
          · rw [if_pos c7] at H
            have c7b0 : (a0 == 0) = true := beq_iff_eq.mpr c7
            have c7b1 : (a0 != 0) = false := bne_eq_false_iff_eq.mpr c7
            clear c7
            (first | rw [c7b0] | (simp only [i64_w, i32_w]; rw [c7b0]) | skip)
            have H' := Aside0.mk H
            clear H
            go_wp2
            go_meet
            case rel => exact ⟨_, ((a1 == 0)), (by first | rfl | (simp; done) | (simp [*]; done)), H', ⟨by have := HJ2.out; first | omega | exact Nat.le_refl _⟩, by repeat (first | exact Drawn0.refl _ | apply Drawn0.step)⟩
          · rw [if_neg c7] at H
            have c7b0 : (a0 == 0) = false := beq_eq_false_iff_ne.mpr c7
            have c7b1 : (a0 != 0) = true := bne_iff_ne.mpr c7
            (first | rw [c7b0] | (simp only [i64_w, i32_w]; rw [c7b0]) | skip)
            have H' := Aside0.mk H
            clear H
            go_wp2
            go_meet
            case rel => exact ⟨_, (false), (by first | rfl | (simp; done) | (simp [*]; done)), H', ⟨by have := HJ2.out; first | omega | exact Nat.le_refl _⟩, by repeat (first | exact Drawn0.refl _ | apply Drawn0.step)⟩
        case rest =>
          clear HC6
          try clear c1
          try clear c2
          try clear p2
          try clear c4
          try clear c4b0
          try clear c5
          try clear c7
          try clear c7b0
          try clear c7b1
          try clear p2
          obtain ⟨kq, x12_5, rfl, HA, HJ5, ⟨mc5, rfl⟩⟩ := hcut
          cases kq with
          | zero => exact absurd HA.out (by simp [impl_countOn.j1])
          | succ kj5 =>
            have H := HA.out
            clear HA
            simp only [impl_countOn.j1] at H
            by_cases c8 : x12_5 = true
            · subst c8
              have H1 : (some 1) = some r := by rw [if_pos rfl] at H; exact H
              clear H
              have H := H1
              clear H1
              obtain rfl := Option.some.inj H
              go_wp2
              go_ret
              exact ⟨by first | rfl | (simp; done) | (simp [*]; done), by repeat (first | exact Drawn0.refl _ | apply Drawn0.step)⟩
            · replace c8 := Bool.eq_false_iff.mpr c8
              subst c8
              have H1 : ((impl_countOn.f kj5 (wrap64 (a0 - 1)) a1).bind fun t106 => ((impl_countOn.f kj5 (wrap64 (a0 + 1)) (wrap64 (a1 - 1))).bind fun t107 => (some (wrap64 ((wrap64 (a0 * t106)) + t107))))) = some r := by rw [if_neg (show ¬ (false = true) by decide)] at H; exact H
              clear H
              have H := H1
              clear H1
              replace H := Option.bind_eq_some_iff.mp H
              obtain ⟨t106, A90, H⟩ := H
              replace H : ((impl_countOn.f kj5 (wrap64 (a0 + 1)) (wrap64 (a1 - 1))).bind fun t107 => (some (wrap64 ((wrap64 (a0 * t106)) + t107)))) = some r := H
              have A9 := Aside0.mk A90
              clear A90
              replace H := Option.bind_eq_some_iff.mp H
              obtain ⟨t107, A100, H⟩ := H
              replace H : (some (wrap64 ((wrap64 (a0 * t106)) + t107))) = some r := H
              have A10 := Aside0.mk A100
              clear A100
              obtain rfl := Option.some.inj H
              go_wp2_with (first | ((with_reducible refine gate_callee (f := 17) rfl ?_); refine goesL_ (some 23) rfl rfl Try.func17 (by kernel_rfl) rfl #[.int .i64 (wrap64 (a0 - 1)), .int .i64 a1] rfl (by (try simp only [List.map_toArray, List.map_cons, List.map_nil]); first | done | rfl | (simp only [List.length_drop, List.length_take]; rfl)) ?_; (with_reducible refine (ih kj5 (by have := HJ2.out; have := HJ5.out; omega) (wrap64 (a0 - 1)) a1 t106 _ A9.out).mono ?_); rintro e w' ⟨rfl, ⟨nd, rfl⟩⟩; refine ⟨_, rfl, ?_⟩) | ((with_reducible refine gate_callee (f := 17) rfl ?_); refine goesL_ (some 29) rfl rfl Try.func17 (by kernel_rfl) rfl #[.int .i64 (wrap64 (a0 + 1)), .int .i64 (wrap64 (a1 - 1))] rfl (by (try simp only [List.map_toArray, List.map_cons, List.map_nil]); first | done | rfl | (simp only [List.length_drop, List.length_take]; rfl)) ?_; (with_reducible refine (ih kj5 (by have := HJ2.out; have := HJ5.out; omega) (wrap64 (a0 + 1)) (wrap64 (a1 - 1)) t107 _ A10.out).mono ?_); rintro e w' ⟨rfl, ⟨nd, rfl⟩⟩; refine ⟨_, rfl, ?_⟩))
              go_ret
              exact ⟨by first | rfl | (simp; done) | (simp [*]; done), by repeat (first | exact Drawn0.refl _ | apply Drawn0.step)⟩

end Go.Proofs.Ytgdpeabbmbclbaa.Pr

/- What is asked of a predicate that is handed to the library, and the place of the first element for which it holds. -/
namespace Go.Proofs.Ytgdpeabbmbclbaa.Pr
open Go.RowKit Go.Proofs.YtgdpeabbmbclbaaW.PrintWords Go.Proofs.YtgdpeabbmbclbaaW.PrintLast Go.Proofs.YtgdpeabbmbclbaaW.PrintMore
set_option linter.unusedVariables false
set_option linter.unusedSimpArgs false

/-- A function value that tells p of the elements of a list, in any world in which what was there is as it was. -/
def PredB {α : Type} (g : Nat) (lb : Array Value) (enc : α → Value) (p : α → Bool) (zs : List α) (w : World) : Prop :=
  ∀ (W : World) (x : α), x ∈ zs → Below w.heap.size w W → Calls Try.prog g (#[enc x] ++ lb) W fun e w' => e = .returned (.bool (p x)) ∧ Below W.heap.size W w'
/-- The place of the first element for which p holds, or -1. -/
def idxP {α : Type} (p : α → Bool) : List α → Int
  | [] => -1
  | x :: r => if p x = true then 0 else if idxP p r < 0 then -1 else idxP p r + 1
theorem idxP_ge {α : Type} (p : α → Bool) : ∀ l : List α, -1 ≤ idxP p l
  | [] => by simp [idxP]
  | x :: r => by
    have := idxP_ge p r
    unfold idxP
    split
    · omega
    · split <;> omega
theorem idxP_nonneg {α : Type} (p : α → Bool) : ∀ l : List α, decide (idxP p l ≥ 0) = l.any p
  | [] => by simp [idxP]
  | x :: r => by
    have ih := idxP_nonneg p r
    unfold idxP
    rw [List.any_cons, ← ih]
    cases hx : p x with
    | true => simp
    | false =>
      simp only [Bool.false_eq_true, if_false, Bool.false_or]
      split
      · rename_i h; simp; omega
      · rename_i h; simp; omega
theorem idxP_none {α : Type} (p : α → Bool) : ∀ l : List α, (∀ x ∈ l, p x = false) → idxP p l = -1
  | [], _ => rfl
  | x :: r, h => by
    unfold idxP
    rw [if_neg (by rw [h x (List.mem_cons_self ..)]; simp), idxP_none p r (fun y hy => h y (List.mem_cons_of_mem _ hy))]
    simp
theorem idxP_at {α : Type} (p : α → Bool) : ∀ (l : List α) (i : Nat) (h : i < l.length), p l[i] = true → (∀ j (hj : j < i), p (l[j]'(by omega)) = false) → idxP p l = i
  | [], i, h, _, _ => by simp at h
  | x :: r, 0, h, hp, _ => by
    unfold idxP
    rw [if_pos (by simpa using hp)]
    rfl
  | x :: r, i + 1, h, hp, hn => by
    have h0 := hn 0 (by omega)
    have ih := idxP_at p r i (by simpa using h) (by simpa using hp) (fun j hj => by simpa using hn (j + 1) (by omega))
    unfold idxP
    rw [if_neg (by simp at h0; rw [h0]; simp), ih, if_neg (by omega)]
    omega

end Go.Proofs.Ytgdpeabbmbclbaa.Pr

/- Bytes as elements. -/
namespace Go.Proofs.Ytgdpeabbmbclbaa.Pr
open Go.RowKit Go.Proofs.YtgdpeabbmbclbaaW.PrintWords Go.Proofs.YtgdpeabbmbclbaaW.PrintLast Go.Proofs.YtgdpeabbmbclbaaW.PrintMore
set_option linter.unusedVariables false
set_option linter.unusedSimpArgs false

def encB (x : Int) : Value := .int .u8 x
theorem rdB (l : List Int) (i : Nat) (h : i < l.length) : rd l (i : Int) = l[i] := by
  unfold rd
  simp [List.getD_eq_getElem?_getD, List.getElem?_eq_getElem h]

end Go.Proofs.Ytgdpeabbmbclbaa.Pr

/- A text's bytes as a row. -/
namespace Go.Proofs.Ytgdpeabbmbclbaa.Pr
open Go.RowKit Go.Proofs.YtgdpeabbmbclbaaW.PrintWords Go.Proofs.YtgdpeabbmbclbaaW.PrintLast Go.Proofs.YtgdpeabbmbclbaaW.PrintMore
set_option linter.unusedVariables false
set_option linter.unusedSimpArgs false

theorem bytes_C (W : World) (e : Nat) (s : ByteArray) (hs : s.size ≤ 9223372036854775807) : Kd.C (Kd.int .u8) (Lib.bytesWorld W e s) (some ⟨W.heap.size, 0, none⟩) (bytesOf s).length (bytesOf s) := by
  have h := bytes_reads W e s hs
  refine ⟨rfl, by rw [bytesOf_length]; exact hs, fun hn => ?_⟩
  obtain ⟨ad, e1, hc⟩ := h.2.2 (by rwa [bytesOf_length] at hn)
  refine ⟨ad, e1, fun j p hj => ?_⟩
  obtain ⟨hjl, hp⟩ := List.getElem?_eq_some_iff.1 hj
  have h2 := hc j (by rwa [bytesOf_length] at hjl)
  rw [List.getD_eq_getElem?_getD, hj] at h2
  refine ⟨[.int .u8 p], rfl, rfl, fun i u hi => ?_⟩
  have hi2 : i = 0 := by have := (List.getElem?_eq_some_iff.1 hi).1; simp at this; exact this
  subst hi2
  obtain rfl : Value.int .u8 p = u := by simpa using hi
  show (Lib.bytesWorld W e s).cell? (ad.add (j * 1 + 0)) = _
  rw [show j * 1 + 0 = j by omega]
  exact h2
theorem cell_keep {W w' : World} {B : Nat} {v : Value} (hb : Below W.heap.size W w') (hB : B < W.heap.size) (h : W.cell? ⟨B, 0, none⟩ = some v) : w'.cell? ⟨B, 0, none⟩ = some v := (hb.cell (p := ⟨B, 0, none⟩) hB).trans h
theorem lt_keep {W w' : World} {B : Nat} (hb : Below W.heap.size W w') (hB : B < W.heap.size) : B < w'.heap.size := Nat.lt_of_lt_of_le hB hb.size
theorem below_keep {w W w' : World} (hb : Below W.heap.size W w') (h : Below w.heap.size w W) : Below w.heap.size w w' := h.trans (hb.mono h.size)
theorem toList_ne {s t : ByteArray} (h : s ≠ t) : s.toList ≠ t.toList := fun e => h (by
  rw [ByteArray.toList_eq, ByteArray.toList_eq] at e
  exact ByteArray.ext (Array.toList_inj.1 e))
end Go.Proofs.Ytgdpeabbmbclbaa.Pr

/- Loops as lists of letters: letters named anew, and what a loop is. Plain lists, no program. -/
namespace Go.Proofs.Ytgdpeabbmbclbaa.M
set_option linter.unusedVariables false
set_option linter.unusedSimpArgs false

/-- Letters named anew in the order in which they come; ns are those that have come. -/
def anew : List Int → List Int → List Int
  | _, [] => []
  | ns, x :: r => (97 + (ns.idxOf x : Int)) :: anew (if x ∈ ns then ns else ns ++ [x]) r
/-- Letters in the order in which they come, after ns. -/
def newN : List Int → List Int → List Int
  | ns, [] => ns
  | ns, x :: r => newN (if x ∈ ns then ns else ns ++ [x]) r
theorem anew_length : ∀ (w ns : List Int), (anew ns w).length = w.length
  | [], _ => rfl
  | x :: r, ns => by simp [anew, anew_length r]
theorem newN_length : ∀ (w ns : List Int), (newN ns w).length ≤ ns.length + w.length
  | [], _ => by simp [newN]
  | x :: r, ns => by
    unfold newN
    by_cases h : x ∈ ns
    · rw [if_pos h]
      have := newN_length r ns
      simp; omega
    · rw [if_neg h]
      have := newN_length r (ns ++ [x])
      simp at this ⊢; omega
/-- Another naming of the letters changes nothing. -/
theorem anew_map (f : Int → Int) : ∀ (w ns : List Int), (∀ x ∈ ns ++ w, ∀ y ∈ ns ++ w, f x = f y → x = y) → anew (ns.map f) (w.map f) = anew ns w
  | [], _, _ => rfl
  | x :: r, ns, h => by
    have hi : (ns.map f).idxOf (f x) = ns.idxOf x := by
      have : ∀ l : List Int, (∀ y ∈ l, f y = f x → y = x) → (l.map f).idxOf (f x) = l.idxOf x := by
        intro l
        induction l with
        | nil => intro _; rfl
        | cons y l ih =>
          intro hl
          simp only [List.map_cons, List.idxOf_cons]
          by_cases e : y = x
          · subst e; simp
          · have hne : f y ≠ f x := fun e2 => e (hl y (List.mem_cons_self ..) e2)
            rw [ih (fun z hz => hl z (List.mem_cons_of_mem _ hz)), show (f y == f x) = false by simpa using hne, show (y == x) = false by simpa using e]
      refine this ns (fun y hy e => h y (by simp [hy]) x (by simp) e)
    have hm : f x ∈ ns.map f ↔ x ∈ ns := by
      constructor
      · intro hx
        obtain ⟨y, hy, e⟩ := List.mem_map.1 hx
        have := h y (by simp [hy]) x (by simp) e
        exact this ▸ hy
      · exact fun hx => List.mem_map.2 ⟨x, hx, rfl⟩
    rw [List.map_cons, anew, anew, hi]
    congr 1
    by_cases hx : x ∈ ns
    · rw [if_pos hx, if_pos (hm.2 hx)]
      exact anew_map f r ns (fun a ha b hb => h a (by simp at ha ⊢; rcases ha with ha | ha <;> simp [ha]) b (by simp at hb ⊢; rcases hb with hb | hb <;> simp [hb]))
    · rw [if_neg hx, if_neg (fun e => hx (hm.1 e)), ← List.map_singleton (f := f), ← List.map_append]
      exact anew_map f r (ns ++ [x]) (fun a ha b hb => h a (by simpa using ha) b (by simpa using hb))

/-- A loop whose letters come in order: j have come; how many have come at the end. -/
def runL : Nat → List Int → Option Nat
  | j, [] => some j
  | j, x :: r => if 97 ≤ x ∧ x < 97 + j then runL j r else if x = 97 + j then runL (j + 1) r else none
def abcL (j : Nat) : List Int := (List.range j).map fun (i : Nat) => (97 : Int) + (i : Int)
theorem mem_abc (j : Nat) (x : Int) : x ∈ abcL j ↔ 97 ≤ x ∧ x < 97 + j := by
  simp only [abcL, List.mem_map, List.mem_range]
  constructor
  · rintro ⟨i, hi, rfl⟩; omega
  · intro h; exact ⟨(x - 97).toNat, by omega, by omega⟩
theorem abc_succ (j : Nat) : abcL j ++ [97 + (j : Int)] = abcL (j + 1) := by simp [abcL, List.range_succ]
theorem abc_length (j : Nat) : (abcL j).length = j := by simp [abcL]
theorem idx_abc : ∀ (j : Nat) (x : Int), x ∈ abcL j → 97 + ((abcL j).idxOf x : Int) = x
  | 0, x, h => by simp [abcL] at h
  | j + 1, x, h => by
    rw [← abc_succ] at h ⊢
    by_cases hx : x ∈ abcL j
    · rw [List.idxOf_append, if_pos hx]; exact idx_abc j x hx
    · have e : x = 97 + (j : Int) := by
        rcases List.mem_append.1 h with h | h
        · exact absurd h hx
        · simpa using h
      rw [List.idxOf_append, if_neg hx, abc_length, e]
      simp
theorem idx_none (l : List Int) (x : Int) (h : x ∉ l) : l.idxOf x = l.length := List.idxOf_eq_length h
theorem anew_run : ∀ (w : List Int) (j : Nat), anew (abcL j) w = w ↔ (runL j w).isSome = true
  | [], j => by simp [anew, runL]
  | x :: r, j => by
    unfold anew runL
    by_cases hx : x ∈ abcL j
    · have hx2 := (mem_abc j x).1 hx
      rw [if_pos hx, if_pos hx2, idx_abc j x hx, List.cons.injEq]
      simp [anew_run r j]
    · have hx2 : ¬ (97 ≤ x ∧ x < 97 + (j : Int)) := fun h => hx ((mem_abc j x).2 h)
      rw [if_neg hx, if_neg hx2, idx_none _ _ hx, abc_length, List.cons.injEq]
      by_cases e : x = 97 + (j : Int)
      · rw [if_pos e, e, abc_succ]
        simp [anew_run r (j + 1)]
      · rw [if_neg e]
        constructor
        · intro h; exact absurd h.1.symm e
        · intro h; simp at h
theorem run_mono : ∀ (w : List Int) (j J : Nat), runL j w = some J → j ≤ J ∧ J ≤ j + w.length
  | [], j, J, h => by simp [runL] at h; simp; omega
  | x :: r, j, J, h => by
    unfold runL at h
    split at h
    · have := run_mono r j J h; simp; omega
    · split at h
      · have := run_mono r (j + 1) J h; simp; omega
      · cases h
theorem run_mem : ∀ (w : List Int) (j J : Nat), runL j w = some J → (∀ x ∈ w, 97 ≤ x ∧ x < 97 + (J : Int)) ∧ ∀ i : Nat, j ≤ i → i < J → 97 + (i : Int) ∈ w
  | [], j, J, h => by simp [runL] at h; subst h; exact ⟨by simp, fun i h1 h2 => by omega⟩
  | x :: r, j, J, h => by
    unfold runL at h
    split at h
    · rename_i hx
      have hm := run_mono r j J h
      obtain ⟨h1, h2⟩ := run_mem r j J h
      exact ⟨fun y hy => by rcases List.mem_cons.1 hy with e | hy; (· subst e; omega); exact h1 y hy, fun i a b => List.mem_cons_of_mem _ (h2 i a b)⟩
    · split at h
      · rename_i hx e
        have hm := run_mono r (j + 1) J h
        obtain ⟨h1, h2⟩ := run_mem r (j + 1) J h
        refine ⟨fun y hy => by rcases List.mem_cons.1 hy with e | hy; (· subst e; omega); exact h1 y hy, fun i a b => ?_⟩
        by_cases ei : i = j
        · subst ei; rw [e]; exact List.mem_cons_self ..
        · exact List.mem_cons_of_mem _ (h2 i (by omega) b)
      · cases h

/-- How many letters of w are among the first J. -/
def totL (w : List Int) : Nat → Nat
  | 0 => 0
  | J + 1 => totL w J + w.count (97 + (J : Int))
theorem tot_cons (x : Int) (w : List Int) : ∀ J : Nat, totL (x :: w) J = totL w J + if 97 ≤ x ∧ x < 97 + (J : Int) then 1 else 0
  | 0 => by
    rw [if_neg (by omega)]
    rfl
  | J + 1 => by
    rw [totL, totL, tot_cons x w J, List.count_cons]
    simp only [beq_iff_eq]
    split <;> split <;> split <;> omega
theorem tot_all : ∀ (w : List Int) (J : Nat), (∀ x ∈ w, 97 ≤ x ∧ x < 97 + (J : Int)) → totL w J = w.length
  | [], J, _ => by
    induction J with
    | zero => rfl
    | succ J ih => simp [totL]; simpa using ih
  | x :: w, J, h => by
    rw [tot_cons, if_pos (h x (List.mem_cons_self ..)), tot_all w J (fun y hy => h y (List.mem_cons_of_mem _ hy))]
    rfl
theorem tot_two (w : List Int) : ∀ J : Nat, (∀ i : Nat, i < J → w.count (97 + (i : Int)) = 2) → totL w J = 2 * J
  | 0, _ => rfl
  | J + 1, h => by
    rw [totL, tot_two w J (fun i hi => h i (by omega)), h J (by omega)]
    omega

/-- A loop. -/
def goodL (w : List Int) : Bool := decide (w.length ≤ 16) && (anew [] w == w) && w.all (fun x => w.count x == 2)
/-- What a loop is: twice m letters, the first m ones, each twice. -/
structure Loop (w : List Int) (m : Nat) : Prop where
  len : w.length = 2 * m
  few : m ≤ 8
  run : runL 0 w = some m
  lo : ∀ x ∈ w, 97 ≤ x
  hi : ∀ x ∈ w, x < 97 + (m : Int)
  two : ∀ i : Nat, i < m → w.count (97 + (i : Int)) = 2
theorem loop_of {w : List Int} (h : goodL w = true) : ∃ m, Loop w m := by
  simp only [goodL, Bool.and_eq_true, decide_eq_true_eq, beq_iff_eq, List.all_eq_true] at h
  obtain ⟨⟨h1, h2⟩, h3⟩ := h
  have h4 := (anew_run w 0).1 h2
  obtain ⟨m, hm⟩ := Option.isSome_iff_exists.1 h4
  obtain ⟨h5, h6⟩ := run_mem w 0 m hm
  have h7 : ∀ i : Nat, i < m → w.count (97 + (i : Int)) = 2 := fun i hi => h3 _ (h6 i (by omega) hi)
  have h8 := tot_all w m h5
  rw [tot_two w m h7] at h8
  exact ⟨m, h8.symm, by omega, hm, fun x hx => (h5 x hx).1, fun x hx => (h5 x hx).2, h7⟩
theorem Loop.half {w : List Int} {m : Nat} (h : Loop w m) : w.length / 2 = m := by have := h.len; omega
theorem Loop.cnt {w : List Int} {m : Nat} (h : Loop w m) {x : Int} (h1 : 97 ≤ x) (h2 : x < 97 + (m : Int)) : w.count x = 2 := by
  have := h.two (x - 97).toNat (by omega)
  rwa [show (97 : Int) + ((x - 97).toNat : Int) = x by omega] at this
theorem Loop.good {w : List Int} {m : Nat} (h : Loop w m) : goodL w = true := by
  simp only [goodL, Bool.and_eq_true, decide_eq_true_eq, beq_iff_eq, List.all_eq_true]
  refine ⟨⟨by have := h.len; have := h.few; omega, (anew_run w 0).2 (by rw [h.run]; rfl)⟩, fun x hx => h.cnt (h.lo x hx) (h.hi x hx)⟩
/-- All letters are among the first eight. -/
theorem good_letters {w : List Int} (h : goodL w = true) : ∀ x ∈ w, 97 ≤ x ∧ x ≤ 104 := fun x hx => by
  obtain ⟨m, hm⟩ := loop_of h
  have := hm.lo x hx
  have := hm.hi x hx
  have := hm.few
  omega
theorem good_even {w : List Int} (h : goodL w = true) : w.length % 2 = 0 := by
  obtain ⟨m, hm⟩ := loop_of h
  have := hm.len
  omega
end Go.Proofs.Ytgdpeabbmbclbaa.M

/- The two places of a letter of a loop, and what stands between them. Plain lists, no program. -/
namespace Go.Proofs.Ytgdpeabbmbclbaa.M
set_option linter.unusedVariables false
set_option linter.unusedSimpArgs false

/-- A list with a letter at just two places. -/
theorem two_parts (x : Int) : ∀ (w : List Int), w.count x = 2 → ∃ p q r, w = p ++ x :: (q ++ x :: r) ∧ x ∉ p ∧ x ∉ q ∧ x ∉ r := by
  have one : ∀ (w : List Int), w.count x = 1 → ∃ q r, w = q ++ x :: r ∧ x ∉ q ∧ x ∉ r := by
    intro w
    induction w with
    | nil => intro h; simp at h
    | cons y w ih =>
      intro h
      rw [List.count_cons] at h
      by_cases e : y = x
      · subst e
        simp at h
        exact ⟨[], w, rfl, by simp, List.count_eq_zero.1 h⟩
      · rw [if_neg (by simpa using e)] at h
        obtain ⟨q, r, rfl, h1, h2⟩ := ih (by omega)
        exact ⟨y :: q, r, rfl, by simp [h1, Ne.symm e], h2⟩
  intro w
  induction w with
  | nil => intro h; simp at h
  | cons y w ih =>
    intro h
    rw [List.count_cons] at h
    by_cases e : y = x
    · subst e
      simp at h
      obtain ⟨q, r, rfl, h1, h2⟩ := one w h
      exact ⟨[], q, r, rfl, by simp, h1, h2⟩
    · rw [if_neg (by simpa using e)] at h
      obtain ⟨p, q, r, rfl, h1, h2, h3⟩ := ih (by omega)
      exact ⟨y :: p, q, r, rfl, by simp [h1, Ne.symm e], h2, h3⟩
/-- What stands between the two places of a letter. -/
def midL (x : Int) (w : List Int) : List Int := (w.drop (w.idxOf x + 1)).takeWhile (fun y => y != x)
theorem idx_parts {x : Int} {p t : List Int} (h : x ∉ p) : (p ++ x :: t).idxOf x = p.length := by
  rw [List.idxOf_append, if_neg h]
  simp
theorem mid_parts {x : Int} {p q r : List Int} (h1 : x ∉ p) (h2 : x ∉ q) : midL x (p ++ x :: (q ++ x :: r)) = q := by
  unfold midL
  rw [idx_parts h1, show p.length + 1 = (p ++ [x]).length by simp, show p ++ x :: (q ++ x :: r) = (p ++ [x]) ++ (q ++ x :: r) by simp, List.drop_left]
  rw [List.takeWhile_append_of_pos (fun y hy => by simpa using fun e : y = x => h2 (e ▸ hy))]
  simp
/-- Two letters of a loop that are interlaced. -/
def lacedL (w : List Int) (a b : Int) : Bool := (midL a w).count b == 1
theorem laced_self {w : List Int} {a : Int} (h : w.count a = 2) : lacedL w a a = false := by
  obtain ⟨p, q, r, rfl, h1, h2, h3⟩ := two_parts a w h
  unfold lacedL
  rw [mid_parts h1 h2, List.count_eq_zero.2 h2]
  rfl
theorem laced_comm1 {w : List Int} {a b : Int} (ha : w.count a = 2) (hb : w.count b = 2) (h : lacedL w a b = true) : lacedL w b a = true := by
  have hne : a ≠ b := fun e => by subst e; rw [laced_self ha] at h; cases h
  obtain ⟨p, q, r, rfl, h1, h2, h3⟩ := two_parts a w ha
  unfold lacedL at h ⊢
  rw [mid_parts h1 h2, beq_iff_eq] at h
  have split1 : ∀ l : List Int, l.count b = 1 → ∃ u v, l = u ++ b :: v ∧ b ∉ u ∧ b ∉ v := by
    intro l hl
    have hm : b ∈ l := List.count_pos_iff.1 (by omega)
    obtain ⟨u, v, rfl⟩ := List.append_of_mem hm
    rw [List.count_append, List.count_cons_self] at hl
    exact ⟨u, v, rfl, List.count_eq_zero.1 (by omega), List.count_eq_zero.1 (by omega)⟩
  have hab : (a == b) = false := by simpa using hne
  rw [List.count_append, List.count_cons, List.count_append, List.count_cons, hab] at hb
  simp only [Bool.false_eq_true, if_false, Nat.add_zero] at hb
  obtain ⟨q1, q2, rfl, hq1, hq2⟩ := split1 q h
  have ca : ∀ l : List Int, a ∉ l → l.count a = 0 := fun l hl => List.count_eq_zero.2 hl
  simp only [List.mem_append, List.mem_cons, not_or] at h2
  by_cases hp : p.count b = 1
  · obtain ⟨p1, p2, rfl, hp1, hp2⟩ := split1 p hp
    simp only [List.mem_append, List.mem_cons, not_or] at h1
    rw [show p1 ++ b :: p2 ++ a :: (q1 ++ b :: q2 ++ a :: r) = p1 ++ b :: ((p2 ++ a :: q1) ++ b :: (q2 ++ a :: r)) by simp]
    rw [mid_parts hp1 (by simp [hp2, hq1, Ne.symm hne]), List.count_append, List.count_cons_self, ca _ h1.2.2, ca _ h2.1]
    rfl
  · obtain ⟨r1, r2, rfl, hr1, hr2⟩ := split1 r (by omega)
    simp only [List.mem_append, List.mem_cons, not_or] at h3
    have hp0 : b ∉ p := List.count_eq_zero.1 (by omega)
    rw [show p ++ a :: (q1 ++ b :: q2 ++ a :: (r1 ++ b :: r2)) = (p ++ a :: q1) ++ b :: ((q2 ++ a :: r1) ++ b :: r2) by simp]
    rw [mid_parts (by simp [hp0, hq1, Ne.symm hne]) (by simp [hq2, hr1, Ne.symm hne]), List.count_append, List.count_cons_self, ca _ h2.2.2, ca _ h3.1]
    rfl
theorem laced_comm {w : List Int} {a b : Int} (ha : w.count a = 2) (hb : w.count b = 2) : lacedL w a b = lacedL w b a := by
  cases h : lacedL w a b with
  | true => exact (laced_comm1 ha hb h).symm
  | false =>
    cases h2 : lacedL w b a with
    | true => rw [laced_comm1 hb ha h2] at h; cases h
    | false => rfl

/-- The letters from x on, d of them, for which p holds. -/
def lettP (p : Int → Bool) (x : Int) : Nat → List Int
  | 0 => []
  | d + 1 => if p x = true then x :: lettP p (x + 1) d else lettP p (x + 1) d
theorem lettP_length (p : Int → Bool) : ∀ (d : Nat) (x : Int), (lettP p x d).length ≤ d
  | 0, _ => by simp [lettP]
  | d + 1, x => by
    have := lettP_length p d (x + 1)
    unfold lettP
    split <;> simp <;> omega
theorem lettP_congr (p q : Int → Bool) : ∀ (d : Nat) (x : Int), (∀ y, x ≤ y → y < x + d → p y = q y) → lettP p x d = lettP q x d
  | 0, _, _ => rfl
  | d + 1, x, h => by
    rw [lettP, lettP, h x (by omega) (by omega), lettP_congr p q d (x + 1) (fun y h1 h2 => h y (by omega) (by omega))]
theorem lettP_nil (p : Int → Bool) : ∀ (d : Nat) (x : Int), lettP p x d = [] ↔ ∀ y, x ≤ y → y < x + d → p y = false
  | 0, x => by simp [lettP]; intro y h1 h2; omega
  | d + 1, x => by
    unfold lettP
    cases hp : p x with
    | true => simp; exact ⟨x, by omega, by omega, hp⟩
    | false =>
      simp only [Bool.false_eq_true, if_false]
      rw [lettP_nil p d (x + 1)]
      constructor
      · intro h y h1 h2
        by_cases e : y = x
        · subst e; exact hp
        · exact h y (by omega) (by omega)
      · intro h y h1 h2; exact h y (by omega) (by omega)
/-- All letters that are interlaced with one. -/
def withL (w : List Int) (m : Nat) (a : Int) : List Int := lettP (fun c => lacedL w a c) 97 m
/-- How many letters are interlaced with both of two. -/
def bothL (w : List Int) (m : Nat) (a b : Int) : Nat := (lettP (fun c => lacedL w a c && lacedL w b c) 97 m).length
theorem both_comm (w : List Int) (m : Nat) (a b : Int) : bothL w m a b = bothL w m b a := by
  unfold bothL
  rw [lettP_congr _ (fun c => lacedL w b c && lacedL w a c) m 97 (fun y _ _ => Bool.and_comm _ _)]
def evenL (w : List Int) (m : Nat) : Bool := (lettP (fun c => (withL w m c).length % 2 == 1) 97 m) == []
end Go.Proofs.Ytgdpeabbmbclbaa.M

-- Written by a program for this claim.
namespace Go.Proofs.Ytgdpeabbmbclbaa.Pr
open Go.RowKit Go.Proofs.YtgdpeabbmbclbaaW.PrintWords Go.Proofs.YtgdpeabbmbclbaaW.PrintLast Go.Proofs.YtgdpeabbmbclbaaW.PrintMore
attribute [local go_sem] max2_int min2_int max_two min_two max_three min_three max_four min_four   -- for this text's walks alone
set_option linter.unusedVariables false
set_option linter.unusedSimpArgs false

/-! ### impl_lettersOf: function 20 -/
def impl_lettersOf.f (a0 : ByteArray) : Option (ByteArray) := if 0 ≤ (wrap64 ((a0.size : Int) / 2)) then (if (wrap64 ((a0.size : Int) / 2)) ≤ 8 then (some ((⟨#[97, 98, 99, 100, 101, 102, 103, 104]⟩ : ByteArray).extract 0 ((wrap64 ((a0.size : Int) / 2)) : Int).toNat)) else (none)) else (none)
set_option maxHeartbeats 8000000 in
set_option maxRecDepth 100000 in
theorem impl_lettersOf.calls (a0 : ByteArray) (r : ByteArray) (w : World) (h : impl_lettersOf.f a0 = some r) :
    Calls Try.prog 20 #[.string a0] w fun e w' => e = .returned (.string r) ∧ Drawn0 w w' := by
  have H : (if 0 ≤ (wrap64 ((a0.size : Int) / 2)) then (if (wrap64 ((a0.size : Int) / 2)) ≤ 8 then (some ((⟨#[97, 98, 99, 100, 101, 102, 103, 104]⟩ : ByteArray).extract 0 ((wrap64 ((a0.size : Int) / 2)) : Int).toNat)) else (none)) else (none)) = some r := h
  clear h
  obtain ⟨ji2, hji2⟩ : ∃ j_ : Int, (wrap64 ((a0.size : Int) / 2)) = j_ := ⟨_, rfl⟩
  replace H : (if 0 ≤ (ji2) then (if (ji2) ≤ 8 then (some ((⟨#[97, 98, 99, 100, 101, 102, 103, 104]⟩ : ByteArray).extract 0 ((ji2) : Int).toNat)) else (none)) else (none)) = some r := by first | (rw [hji2] at H; exact H) | (simp only [hji2] at H ⊢; exact H)
  have hji2w : (IntKind.i64.wrap ((a0.size : Int) / 2)) = ji2 := (i64_w _).trans hji2
  by_cases c3 : 0 ≤ (ji2)
  · rw [if_pos c3] at H
    have c3b0 := eq_true c3
    have c3b1 : decide (0 ≤ (ji2)) = true := decide_eq_true c3
    clear c3
    by_cases c4 : (ji2) ≤ 8
    · rw [if_pos c4] at H
      have c4b0 := eq_true c4
      have c4b1 : decide ((ji2) ≤ 8) = true := decide_eq_true c4
      clear c4
      obtain rfl := Option.some.inj H
      go_enter Try.func20, Try.ntmps20
      go_wp2
      go_ret
      exact ⟨by first | rfl | (simp; done) | (simp only [← hji2] <;> (first | rfl | simp)) | (simp [*]; done), by repeat (first | exact Drawn0.refl _ | apply Drawn0.step)⟩
    · rw [if_neg c4] at H
      exact absurd H (by simp)
  · rw [if_neg c3] at H
    exact absurd H (by simp)

end Go.Proofs.Ytgdpeabbmbclbaa.Pr

/- What the program's lettersWith computes, for any predicate that leaves old memory as it was: the letters for which it holds. -/
namespace Go.Proofs.Ytgdpeabbmbclbaa.Pr
open Go.RowKit Go.Proofs.YtgdpeabbmbclbaaW.PrintWords Go.Proofs.YtgdpeabbmbclbaaW.PrintLast Go.Proofs.YtgdpeabbmbclbaaW.PrintMore
set_option linter.unusedVariables false
set_option linter.unusedSimpArgs false

def lettS (m : Nat) : ByteArray := (⟨#[97, 98, 99, 100, 101, 102, 103, 104]⟩ : ByteArray).extract 0 m
theorem lettS_facts : ∀ m : Fin 9, bytesOf (lettS m.val) = M.abcL m.val ∧ (lettS m.val).size = m.val := by decide +kernel
theorem lettersOf_eq (w : ByteArray) (m : Nat) (h : w.size / 2 = m) (hm : m ≤ 8) : impl_lettersOf.f w = some (lettS m) := by
  unfold impl_lettersOf.f
  have e : wrap64 ((w.size : Int) / 2) = m := by unfold wrap64; omega
  rw [e, if_pos (by omega), if_pos (by omega)]
  rfl
theorem abc_get (m i : Nat) (h : i < m) : (M.abcL m)[i]? = some (97 + (i : Int)) := by
  unfold M.abcL
  simp [h]

theorem cell_grown {w w1 : World} {row : Option Nat} {B : Nat} (hg : w.grownBy w1 row) (hB : B < w.heap.size) (hne : some B ≠ row) (j : Nat) : w1.cell? ⟨B, j, none⟩ = w.cell? ⟨B, j, none⟩ := by
  have h := hg.block B hB hne
  unfold World.cell?
  simp only [h]
theorem own_ne_append {w : World} {v v1 : Value} {B : Nat} (hat : v1.ownBlock = v.ownBlock ∨ ∃ b, v1.ownBlock = some b ∧ w.heap.size ≤ b) (hn : v.ownBlock ≠ some B) (hB : B < w.heap.size) : v1.ownBlock ≠ some B := by
  rcases hat with h | ⟨b, h, hb⟩
  · rw [h]; exact hn
  · rw [h]
    intro e
    injection e with e
    omega

set_option maxHeartbeats 8000000 in
set_option maxRecDepth 100000 in
theorem lettersWith_calls (w0 : ByteArray) (m : Nat) (hm0 : w0.size / 2 = m) (hm : m ≤ 8) (p : Int → Bool) (g : Nat) (lb : Array Value) (eg : ∀ args w, (callFunc g args).run Try.prog w = .ok (.enter g args) w) (w : World)
    (hp : ∀ (W : World) (x : Int), 97 ≤ x → x < 97 + (m : Int) → Below w.heap.size w W → Calls Try.prog g (#[.int .u8 x] ++ lb) W fun e w' => e = .returned (.bool (p x)) ∧ Below W.heap.size W w') :
    Calls Try.prog 28 #[.string w0, .func (.func g) #[] lb] w fun e w' => e = .returned (.string (strOfNums (M.lettP p 97 m))) ∧ Below w.heap.size w w' := by
  have HP := Aside0.mk hp
  have HL := Aside0.mk (fun (W : World) => impl_lettersOf.calls w0 (lettS m) W (lettersOf_eq w0 m hm0 hm))
  obtain ⟨hbl, hls⟩ : bytesOf (lettS m) = M.abcL m ∧ (lettS m).size = m := lettS_facts ⟨m, by omega⟩
  have HBL := Aside0.mk hbl
  have HCC := Aside0.mk (fun (W : World) => bytes_C W 5 (lettS m) (by omega))
  clear hp hm0 hbl
  have HB := Aside0.mk (Below.refl w.heap.size w)
  go_enter Try.func28, Try.ntmps28
  go_wp2_with (first | (go_at_call 20; refine (HL.out _).mono ?_; rintro e w1 ⟨rfl, ⟨nd, rfl⟩⟩) | ((with_reducible refine gate_dst (N := 8) rfl ?_); refine Kd.R_lit (Kd.int .u8) _ 5 ?hg (N := 8) ?hd (xs := ([] : List Int)) (inner := []) (ok := fun _ => True) (okp := fun _ => True) ?hr ?hp (fun _ hk => hk) trivial (Below.refl _ _) (Nat.le_refl _) (by simp) ?_; (case hd => rfl); (case hg => rfl); (case hr => first | (go_simp; done) | (go_simp; rfl)); (case hp => exact (Reps.none _ _)); intro v244 w6 ho7 hb hg_ hnew_; clear hg_ hnew_; have n0_ := Aside0.mk (Kd.R_lower ho7 (below_size (by repeat (first | (with_reducible first | exact HB.out | apply below_alloc | apply pw_below_drewN | apply below_drew1) | exact HB.out)))); have n1_ := Aside0.mk (below_step (by repeat (first | (with_reducible first | exact HB.out | apply below_alloc | apply pw_below_drewN | apply below_drew1) | exact HB.out)) hb); clear HB; have HO0 := n0_; have HB := n1_; clear n0_ n1_; clear hb ho7))
  rw [print_bytes 9 36 5 Try.underlying9 Try.underlying36 Try.underlying5]
  simp only [Result.andThen]
  rw [Oper.upon_value]
  rw [hls]
  have hc0 := HCC.out (w6.drewN nd)
  have hb0 : Below w.heap.size w (Lib.bytesWorld (w6.drewN nd) 5 (lettS m)) := bytes_below (pw_below_drewN HB.out nd) (by show w.heap.size ≤ w6.heap.size; exact HB.out.size) 5 (lettS m)
  have hn0 : v244.ownBlock ≠ some w6.heap.size := fun e => by
    obtain ⟨inner, ho, _⟩ := HO0.out.2
    exact absurd (own_lt ho _ e) (by omega)
  have hlt0 : w6.heap.size < (Lib.bytesWorld (w6.drewN nd) 5 (lettS m)).heap.size := by
    rw [Lib.bytesWorld_size]
    show w6.heap.size < w6.heap.size + 1
    omega
  have ho0 : Kd.R (Kd.int .u8) 5 (Lib.bytesWorld (w6.drewN nd) 5 (lettS m)) w.heap.size (fun _ => True) v244 [] := Kd.R_below (Kd.R_drewN HO0.out nd) (bytes_below (Below.refl _ _) (Nat.le_refl _) 5 (lettS m))
  rw [HBL.out, M.abc_length] at hc0
  rw [show (w6.drewN nd).heap.size = w6.heap.size from rfl] at hc0 ⊢
  generalize grownCap (w6.drewN nd) m 0 5 = cp
  generalize Lib.bytesWorld (w6.drewN nd) 5 (lettS m) = W1 at hc0 hb0 ho0 hlt0 ⊢
  generalize w6.heap.size = B1 at hc0 hn0 hlt0 ⊢
  clear HO0 HB HCC HL HBL hls
  have hcells : ∀ j : Nat, j < m → W1.cell? ⟨B1, j, none⟩ = some (.int .u8 (97 + (j : Int))) := fun i hlt => by
    obtain ⟨ad, e1, hc⟩ := hc0.2.2 (by omega)
    injection e1 with e1
    subst e1
    obtain ⟨cs, h1, h2, h3⟩ := hc i (97 + (i : Int)) (abc_get m i hlt)
    have h4 := h3 0 (.int .u8 (97 + (i : Int))) (by rw [show cs = [Value.int .u8 (97 + (i : Int))] from h2]; rfl)
    have ha : (⟨B1, 0, none⟩ : Addr).add (i * (Kd.int .u8).sz + 0) = ⟨B1, i, none⟩ := by
      rw [add_plain]
      show (⟨B1, i * 1 + 0, none⟩ : Addr) = _
      rw [show i * 1 + 0 = i by omega]
    rwa [ha] at h4
  have HC1 := Aside0.mk hcells
  have HN1 := Aside0.mk hn0
  have HLT1 := Aside0.mk hlt0
  clear hcells hn0 hlt0
  have HB := Aside0.mk hb0
  have HO := Aside0.mk ho0
  clear hc0 hb0 ho0
  go_wp2
  go_loopg [5, 7, 13] m (fun gg v5 v7 v13 w' => ∃ (i : Nat) (xs : List Int), v13 = .int .i64 i ∧ Aside0 (i + gg = m) ∧ Aside0 (M.lettP p 97 m = xs ++ M.lettP p (97 + (i : Int)) gg) ∧ Aside0 (xs.length ≤ i) ∧ Aside0 (Kd.R (Kd.int .u8) 5 w' w.heap.size (fun _ => True) v5 xs) ∧ Aside0 (Below w.heap.size w w') ∧ Aside0 (∀ j : Nat, j < m → w'.cell? ⟨B1, j, none⟩ = some (.int .u8 (97 + (j : Int)))) ∧ Aside0 (v5.ownBlock ≠ some B1) ∧ Aside0 (B1 < w'.heap.size))
  case atStart => exact ⟨0, [], by first | rfl | (simp; done) | (simp [*]; done), ⟨by omega⟩, ⟨by simp⟩, ⟨by simp⟩, HO, HB, HC1, HN1, HLT1⟩
  case round =>
    obtain ⟨i, xs, rfl, HG, HX, HLen, HO2, HB2, HW2, HNB2, HLB2⟩ := hrel
    clear HB HO HC1 HN1 HLT1
    have HB := HB2
    have HO := HO2
    have HW := HW2
    have HNB := HNB2
    have HLB := HLB2
    clear HB2 HO2 HW2 HNB2 HLB2
    by_cases hlt : i < m
    · have c4b0 : decide ((i : Int) < (m : Int)) = true := decide_eq_true (by omega)
      have c5b0 : decide (i < m) = true := decide_eq_true hlt
      obtain ⟨gm, rfl⟩ : ∃ gm, gk = gm + 1 := ⟨gk - 1, by have := HG.out; omega⟩
      have h0 := HW.out i hlt
      have hcall := HP.out wr (97 + (i : Int)) (by omega) (by omega) HB.out
      have HN := Aside0.mk (show M.lettP p (97 + (i : Int)) (gm + 1) = if p (97 + (i : Int)) = true then (97 + (i : Int)) :: M.lettP p (97 + (i : Int) + 1) gm else M.lettP p (97 + (i : Int) + 1) gm from rfl)
      have hx0 : (0 : Int) ≤ 97 + (i : Int) := by omega
      have hx1 : 97 + (i : Int) < 128 := by omega
      cases hq : p (97 + (i : Int)) with
      | true =>
        rw [hq] at hcall
        have HQ := Aside0.mk hq
        clear hq
        go_wp2_with (first | (go_at_fn g; refine hcall.mono ?_; rintro e w1 ⟨rfl, hb1⟩; have HO1 := Aside0.mk (Kd.R_below HO.out hb1); have HBx := Aside0.mk (HB.out.trans (hb1.mono HB.out.size)); have HWx := Aside0.mk (fun (j : Nat) (hj : j < m) => (hb1.cell (p := ⟨B1, j, none⟩) HLB.out).trans (HW.out j hj)); have HLx := Aside0.mk (Nat.lt_of_lt_of_le HLB.out hb1.size); clear HO HB HW HLB; have HO := HO1; have HB := HBx; have HW := HWx; have HLB := HLx; clear HO1 HBx HWx HLx hb1) | ((with_reducible refine gate_builtin (b := .append) (xs := #[.tmp 20, .tmp 22]) rfl ?_); at_builtin; refine Kd.R_append (Kd.int .u8) (w0 := w) w.heap.size rfl (.tmp 20) (.tmp 22) 36 5 (.int .u8 0) 1 rfl Try.underlying36 info5 rfl (by decide) (by omega) u5 xs (97 + (i : Int)) [.int .u8 (97 + (i : Int))] (fun _ => True) (fun _ => False) rfl rfl ?aP (fun _ hk => hk.elim) ?aF ?aO ?aB ?aS ?aL ?_; (case aP => exact rfl); (case aB => exact (by repeat (first | (with_reducible first | exact HB.out | apply below_alloc | apply pw_below_drewN | apply below_drew1) | exact HB.out))); (case aF => exact (fun _ _ => trivial)); (case aO => exact (by (with_reducible repeat (first | apply Kd.R_alloc | apply Kd.R_drewN | apply Kd.R_drew)); exact HO.out)); (case aS => exact (below_size (by repeat (first | (with_reducible first | exact HB.out | apply below_alloc | apply pw_below_drewN | apply below_drew1) | exact HB.out)))); (case aL => have := HLen.out; omega); intro v361 w25 ho hb hg hat; have n0_ := Aside0.mk (hb); have n1_ := Aside0.mk (ho); have HWx := Aside0.mk (fun (j : Nat) (hj : j < m) => (cell_grown hg HLB.out (fun e => HNB.out e.symm) j).trans (HW.out j hj)); have HLx := Aside0.mk (Nat.lt_of_lt_of_le HLB.out hg.size); have HNx := Aside0.mk (own_ne_append hat HNB.out HLB.out); clear HB HO HW HLB HNB; have HB := n0_; have HO := n1_; have HW := HWx; have HLB := HLx; have HNB := HNx; clear n0_ n1_ HWx HLx HNx; clear ho hat hb hg))
        go_roundg gm
        case measure => omega
        case rel => exact ⟨i + 1, xs ++ [97 + (i : Int)], by first | rfl | (simp; done) | (simp [*]; done), ⟨by have := HG.out; omega⟩, ⟨by rw [HX.out, HN.out, if_pos HQ.out, List.append_assoc, show (97 : Int) + ((i + 1 : Nat) : Int) = 97 + (i : Int) + 1 by omega]; rfl⟩, ⟨by have := HLen.out; simp; omega⟩, HO, HB, HW, HNB, HLB⟩
      | false =>
        rw [hq] at hcall
        have HQ := Aside0.mk hq
        clear hq
        go_wp2_with (first | (go_at_fn g; refine hcall.mono ?_; rintro e w1 ⟨rfl, hb1⟩; have HO1 := Aside0.mk (Kd.R_below HO.out hb1); have HBx := Aside0.mk (HB.out.trans (hb1.mono HB.out.size)); have HWx := Aside0.mk (fun (j : Nat) (hj : j < m) => (hb1.cell (p := ⟨B1, j, none⟩) HLB.out).trans (HW.out j hj)); have HLx := Aside0.mk (Nat.lt_of_lt_of_le HLB.out hb1.size); clear HO HB HW HLB; have HO := HO1; have HB := HBx; have HW := HWx; have HLB := HLx; clear HO1 HBx HWx HLx hb1))
        go_roundg gm
        case measure => omega
        case rel => exact ⟨i + 1, xs, by first | rfl | (simp; done) | (simp [*]; done), ⟨by have := HG.out; omega⟩, ⟨by rw [HX.out, HN.out, if_neg (by rw [HQ.out]; simp), show (97 : Int) + ((i + 1 : Nat) : Int) = 97 + (i : Int) + 1 by omega]⟩, ⟨by have := HLen.out; omega⟩, HO, HB, HW, HNB, HLB⟩
    · have c4b0 : decide ((i : Int) < (m : Int)) = false := decide_eq_false (by omega)
      have c5b0 : decide (i < m) = false := decide_eq_false hlt
      have HE := Aside0.mk (show M.lettP p 97 m = xs from by
        have h0 : gk = 0 := by have := HG.out; omega
        rw [HX.out, h0]
        simp [M.lettP])
      have hcv := own_string (P := Try.prog) Try.underlying36 Try.underlying5 Try.underlying9 (Kd.own_of_R HO.out)
      clear HX HG HLen
      go_wp2
      go_ret
      exact ⟨by rw [HE.out]; rfl, HB.out⟩
end Go.Proofs.Ytgdpeabbmbclbaa.Pr

/-
  DERIVED: THE SHELF's CONTRACTS AT THIS DUMP, IN PLAIN WORDS (tools/lay-plain.mjs out of 'YtgdpeabbmbclbaaStrLay.lean', which tools/lay-shelf.mjs wrote): THE SAME DECLARATIONS UNDER THE SAME NAMES: 'import', 'namespace', 'open', 'def', 'theorem' AND NOTHING ELSE: no command of the shelf's: FOR A HAND-IN. Each laying: the table of numbers ('.._ren') and one theorem, a field a fact of the dump's own or the kernel's comparison; each contract: ONE APPLICATION.
-/
namespace Go.Proofs
open Go.Shelf
def Try.l137_ren : Go.Shelf.Ren := ⟨fun | 137 => 31 | 217 => 37 | 266 => 42 | n => n, fun | 9 => 9 | 5 => 5 | 3 => 3 | n => n, fun | n => n⟩
theorem Try.l137 : Go.Proofs.Lays.n137 Try.prog Try.l137_ren := {
  mixed := by kernel_rfl
  f137 := Try.func31.trans (congrArg some (by kernel_rfl))
  f217 := Try.func37.trans (congrArg some (by kernel_rfl))
  f266 := Try.func42.trans (congrArg some (by kernel_rfl))
  t3 := Try.underlying3
  a3 := Try.isAgg3
  z3 := Try.sizeOf3
  v3 := Try.zeroValue3
  t5 := Try.underlying5
  a5 := Try.isAgg5
  z5 := Try.sizeOf5
  v5 := Try.zeroValue5
  t9 := Try.underlying9
  a9 := Try.isAgg9
  z9 := Try.sizeOf9
  v9 := Try.zeroValue9 }
def Try.l149_ren : Go.Shelf.Ren := ⟨fun | 149 => 32 | 222 => 38 | n => n, fun | 9 => 9 | 5 => 5 | 3 => 3 | 4 => 4 | n => n, fun | n => n⟩
theorem Try.l149 : Go.Proofs.Lays.n149 Try.prog Try.l149_ren := {
  mixed := by kernel_rfl
  f149 := Try.func32.trans (congrArg some (by kernel_rfl))
  f222 := Try.func38.trans (congrArg some (by kernel_rfl))
  t3 := Try.underlying3
  a3 := Try.isAgg3
  z3 := Try.sizeOf3
  v3 := Try.zeroValue3
  t4 := Try.underlying4
  a4 := Try.isAgg4
  z4 := Try.sizeOf4
  v4 := Try.zeroValue4
  t5 := Try.underlying5
  a5 := Try.isAgg5
  z5 := Try.sizeOf5
  v5 := Try.zeroValue5
  t9 := Try.underlying9
  a9 := Try.isAgg9
  z9 := Try.sizeOf9
  v9 := Try.zeroValue9 }
def Try.l138_ren : Go.Shelf.Ren := ⟨fun | 138 => 33 | 195 => 39 | 218 => 40 | 143 => 41 | 219 => 43 | 217 => 37 | 225 => 44 | 224 => 45 | 267 => 46 | 266 => 42 | 314 => 47 | n => n, fun | 9 => 9 | 3 => 3 | 4 => 4 | 5 => 5 | 0 => 0 | 46 => 50 | 146 => 52 | 51 => 51 | n => n, fun | 1 => 0 | n => n⟩
theorem Try.l138 : Go.Proofs.Lays.n138 Try.prog Try.l138_ren := {
  mixed := by kernel_rfl
  f138 := Try.func33.trans (congrArg some (by kernel_rfl))
  f143 := Try.func41.trans (congrArg some (by kernel_rfl))
  f195 := Try.func39.trans (congrArg some (by kernel_rfl))
  f217 := Try.func37.trans (congrArg some (by kernel_rfl))
  f218 := Try.func40.trans (congrArg some (by kernel_rfl))
  f219 := Try.func43.trans (congrArg some (by kernel_rfl))
  f224 := Try.func45.trans (congrArg some (by kernel_rfl))
  f225 := Try.func44.trans (congrArg some (by kernel_rfl))
  f266 := Try.func42.trans (congrArg some (by kernel_rfl))
  f267 := Try.func46.trans (congrArg some (by kernel_rfl))
  f314 := Try.func47.trans (congrArg some (by kernel_rfl))
  t0 := Try.underlying0
  a0 := Try.isAgg0
  z0 := Try.sizeOf0
  v0 := Try.zeroValue0
  t3 := Try.underlying3
  a3 := Try.isAgg3
  z3 := Try.sizeOf3
  v3 := Try.zeroValue3
  t4 := Try.underlying4
  a4 := Try.isAgg4
  z4 := Try.sizeOf4
  v4 := Try.zeroValue4
  t5 := Try.underlying5
  a5 := Try.isAgg5
  z5 := Try.sizeOf5
  v5 := Try.zeroValue5
  t9 := Try.underlying9
  a9 := Try.isAgg9
  z9 := Try.sizeOf9
  v9 := Try.zeroValue9
  t46 := Try.underlying50
  a46 := Try.isAgg50
  z46 := Try.sizeOf50
  v46 := Try.zeroValue50
  t51 := Try.underlying51
  a51 := Try.isAgg51
  z51 := Try.sizeOf51
  v51 := Try.zeroValue51
  t146 := Try.underlying52
  a146 := Try.isAgg52
  z146 := Try.sizeOf52
  v146 := Try.zeroValue52
  g1 := by kernel_rfl }
def Try.l144_ren : Go.Shelf.Ren := ⟨fun | 144 => 35 | 143 => 41 | 219 => 43 | 217 => 37 | 225 => 44 | 224 => 45 | 267 => 46 | 266 => 42 | 314 => 47 | n => n, fun | 9 => 9 | 4 => 4 | 3 => 3 | 5 => 5 | 46 => 50 | 146 => 52 | 51 => 51 | n => n, fun | 1 => 0 | n => n⟩
theorem Try.l144 : Go.Proofs.Lays.n144 Try.prog Try.l144_ren := {
  mixed := by kernel_rfl
  f143 := Try.func41.trans (congrArg some (by kernel_rfl))
  f144 := Try.func35.trans (congrArg some (by kernel_rfl))
  f217 := Try.func37.trans (congrArg some (by kernel_rfl))
  f219 := Try.func43.trans (congrArg some (by kernel_rfl))
  f224 := Try.func45.trans (congrArg some (by kernel_rfl))
  f225 := Try.func44.trans (congrArg some (by kernel_rfl))
  f266 := Try.func42.trans (congrArg some (by kernel_rfl))
  f267 := Try.func46.trans (congrArg some (by kernel_rfl))
  f314 := Try.func47.trans (congrArg some (by kernel_rfl))
  t3 := Try.underlying3
  a3 := Try.isAgg3
  z3 := Try.sizeOf3
  v3 := Try.zeroValue3
  t4 := Try.underlying4
  a4 := Try.isAgg4
  z4 := Try.sizeOf4
  v4 := Try.zeroValue4
  t5 := Try.underlying5
  a5 := Try.isAgg5
  z5 := Try.sizeOf5
  v5 := Try.zeroValue5
  t9 := Try.underlying9
  a9 := Try.isAgg9
  z9 := Try.sizeOf9
  v9 := Try.zeroValue9
  t46 := Try.underlying50
  a46 := Try.isAgg50
  z46 := Try.sizeOf50
  v46 := Try.zeroValue50
  t51 := Try.underlying51
  a51 := Try.isAgg51
  z51 := Try.sizeOf51
  v51 := Try.zeroValue51
  t146 := Try.underlying52
  a146 := Try.isAgg52
  z146 := Try.sizeOf52
  v146 := Try.zeroValue52
  g1 := by kernel_rfl }
end Go.Proofs

/- What the library's string functions compute: a byte's first and last place, its number, and a cut at both ends. -/
namespace Go.Proofs.Ytgdpeabbmbclbaa.Pr
open Go.RowKit Go.Proofs.YtgdpeabbmbclbaaW.PrintWords Go.Proofs.YtgdpeabbmbclbaaW.PrintLast Go.Proofs.YtgdpeabbmbclbaaW.PrintMore
set_option linter.unusedVariables false
set_option linter.unusedSimpArgs false

def strings_IndexByte.f (a0 : ByteArray) (a1 : Int) : Option (Int) := some (Lib.indexByte a0.data.toList a1.toNat.toUInt8)
theorem strings_IndexByte.calls (a0 : ByteArray) (a1 : Int) (r : Int) (w : World) (h : strings_IndexByte.f a0 a1 = some r) :
    Calls Try.prog 31 #[.string a0, .int .u8 a1] w fun e w' => e = .returned (.int .i64 r) ∧ Drawn0 w w' := by
  obtain rfl := Option.some.inj h
  exact (Any.strings_IndexByte Try.l137 a0 a1 w).mono fun e w' ⟨he, hw⟩ => ⟨he, hw ▸ Drawn0.refl _⟩
def strings_LastIndexByte.f (a0 : ByteArray) (a1 : Int) : Option (Int) := if a0.size ≤ 1048576 then some (Lib.lastIndexByte a0 a1) else none
theorem strings_LastIndexByte.calls (a0 : ByteArray) (a1 : Int) (r : Int) (w : World) (h : strings_LastIndexByte.f a0 a1 = some r) :
    Calls Try.prog 32 #[.string a0, .int .u8 a1] w fun e w' => e = .returned (.int .i64 r) ∧ Drawn0 w w' := by
  unfold strings_LastIndexByte.f at h
  by_cases hs : a0.size ≤ 1048576
  · rw [if_pos hs] at h
    obtain rfl := Option.some.inj h
    exact (Any.strings_LastIndexByte Try.l149 a0 a1 (by omega) w).mono fun e w' ⟨he, hw⟩ => ⟨he, hw ▸ Drawn0.refl _⟩
  · rw [if_neg hs] at h; cases h
/-- A text of one byte. -/
theorem one_byte {s : ByteArray} (h : s.data.toList.length = 1) : s = ⟨#[s.data.toList.headD 0]⟩ := by
  obtain ⟨⟨l⟩⟩ := s
  match l, h with
  | [c], _ => rfl
def strings_Count.f (a0 : ByteArray) (a1 : ByteArray) : Option (Int) := if a1.data.toList.length = 1 then some ((a0.data.toList.count (a1.data.toList.headD 0) : Nat) : Int) else none
theorem strings_Count.calls (a0 : ByteArray) (a1 : ByteArray) (r : Int) (w : World) (h : strings_Count.f a0 a1 = some r) :
    Calls Try.prog 33 #[.string a0, .string a1] w fun e w' => e = .returned (.int .i64 r) ∧ Drawn0 w w' := by
  unfold strings_Count.f at h
  by_cases hs : a1.data.toList.length = 1
  · rw [if_pos hs] at h
    obtain rfl := Option.some.inj h
    have e := one_byte hs
    generalize a1.data.toList.headD 0 = c at e ⊢
    subst e
    exact (Any.strings_Count_one Try.l138 a0 c w).mono fun e w' ⟨he, hw⟩ => ⟨he, hw ▸ Drawn0.refl _⟩
  · rw [if_neg hs] at h; cases h
def strings_Contains.f (a0 : ByteArray) (a1 : ByteArray) : Option (Bool) := if a1.data.toList.length = 1 then some (decide (0 ≤ Lib.indexByte a0.data.toList (a1.data.toList.headD 0))) else none
theorem strings_Contains.calls (a0 : ByteArray) (a1 : ByteArray) (r : Bool) (w : World) (h : strings_Contains.f a0 a1 = some r) :
    Calls Try.prog 35 #[.string a0, .string a1] w fun e w' => e = .returned (.bool r) ∧ Drawn0 w w' := by
  unfold strings_Contains.f at h
  by_cases hs : a1.data.toList.length = 1
  · rw [if_pos hs] at h
    obtain rfl := Option.some.inj h
    have e := one_byte hs
    generalize a1.data.toList.headD 0 = c at e ⊢
    subst e
    exact (Any.strings_Contains_one Try.l144 a0 c w).mono fun e w' ⟨he, hw⟩ => ⟨he, hw ▸ Drawn0.refl _⟩
  · rw [if_neg hs] at h; cases h
end Go.Proofs.Ytgdpeabbmbclbaa.Pr

/- How often a text stands in a short one: a small number. -/
namespace Go.Proofs.Ytgdpeabbmbclbaa.Pr
open Go.RowKit Go.Proofs.YtgdpeabbmbclbaaW.PrintWords Go.Proofs.YtgdpeabbmbclbaaW.PrintLast Go.Proofs.YtgdpeabbmbclbaaW.PrintMore
set_option linter.unusedVariables false
set_option linter.unusedSimpArgs false

theorem encode_small {c : Int} (h0 : 0 ≤ c) (h1 : c < 128) : Utf8.encode c = ⟨#[c.toNat.toUInt8]⟩ := by
  have h : ∀ n : Fin 128, Utf8.encode (n.val : Int) = ⟨#[n.val.toUInt8]⟩ := by decide +kernel
  obtain ⟨n, rfl⟩ := Int.eq_ofNat_of_zero_le h0
  exact h ⟨n, by omega⟩
theorem count_small (w : ByteArray) (c : Int) (h0 : 0 ≤ c) (h1 : c < 128) (W : World) :
    Calls Try.prog 33 #[.string w, .string (Utf8.encode c)] W fun e w' => e = .returned (.int .i64 ((w.data.toList.count c.toNat.toUInt8 : Nat) : Int)) ∧ Drawn0 W w' := by
  rw [encode_small h0 h1]
  exact strings_Count.calls w _ _ W rfl

end Go.Proofs.Ytgdpeabbmbclbaa.Pr

/- What the program's onward computes . -/
namespace Go.Proofs.Ytgdpeabbmbclbaa.Pr
open Go.RowKit Go.Proofs.YtgdpeabbmbclbaaW.PrintWords Go.Proofs.YtgdpeabbmbclbaaW.PrintLast Go.Proofs.YtgdpeabbmbclbaaW.PrintMore
set_option linter.unusedVariables false
set_option linter.unusedSimpArgs false

/-- Whether a letter's first place is one. -/
def hasB (b : ByteArray) (u : Nat) : Bool := decide (0 ≤ Lib.indexByte b.data.toList ((97 + u : Nat).toUInt8))
/-- How many letters have come, from u on. -/
def usedF (b : ByteArray) : Nat → Nat → Nat
  | 0, u => u
  | d + 1, u => if hasB b u = true then usedF b d (u + 1) else u
theorem usedF_ge (b : ByteArray) : ∀ (d u : Nat), u ≤ usedF b d u ∧ usedF b d u ≤ u + d
  | 0, u => by simp [usedF]
  | d + 1, u => by
    unfold usedF
    have := usedF_ge b d (u + 1)
    split <;> omega
theorem letter_at : ∀ u : Fin 8, (⟨#[97, 98, 99, 100, 101, 102, 103, 104]⟩ : ByteArray).extract u.val (u.val + 1) = ⟨#[(97 + u.val : Nat).toUInt8]⟩ := by decide +kernel
theorem has_at (b : ByteArray) (u : Nat) (hu : u < 8) (W : World) : Calls Try.prog 35 #[.string b, .string ((⟨#[97, 98, 99, 100, 101, 102, 103, 104]⟩ : ByteArray).extract u (u + 1))] W fun e w' => e = .returned (.bool (hasB b u)) ∧ Drawn0 W w' := by
  rw [letter_at ⟨u, hu⟩]
  exact strings_Contains.calls b _ _ W rfl
/-- The letters that have come once, with what each counts. -/
def onwL (k : Nat) (b : ByteArray) (x y : Int) : Nat → Nat → List Int → List Int → Option (List Int × List Int)
  | 0, _, ls, cs => some (ls, cs)
  | d + 1, i, ls, cs => if b.data.toList.count ((97 + i : Nat).toUInt8) = 1 then (impl_countOn.f k x y).bind fun v => onwL k b x y d (i + 1) (ls ++ [97 + (i : Int)]) (cs ++ [v]) else onwL k b x y d (i + 1) ls cs
def onwF (k : Nat) (n : Nat) (b : ByteArray) : Option (List Int × List Int) :=
  let u := usedF b n 0
  let o : Int := 2 * (u : Int) - (b.size : Int)
  (onwL k b (o - 1) ((n : Int) - (u : Int)) u 0 [] []).bind fun p => if u < n then (impl_countOn.f k (o + 1) ((n : Int) - (u : Int) - 1)).bind fun v => some (p.1 ++ [97 + (u : Int)], p.2 ++ [v]) else some p

theorem info_int : (Try.prog.info? 3).map (fun i => (i.zero, i.size, i.bytes)) = some (some (.int .i64 0), 1, 8) := by kernel_rfl
theorem und_ints : Try.prog.underlying 41 = some (.slice 3) := by kernel_rfl
set_option maxHeartbeats 1000000 in
set_option maxRecDepth 100000 in
theorem onward_calls (k : Nat) (n : Nat) (hn : n ≤ 8) (b : ByteArray) (hb : b.size ≤ 16) (ls cs : List Int) (w : World) (h : onwF k n b = some (ls, cs)) :
    Calls Try.prog 27 #[.int .i64 n, .string b] w fun e w' => ∃ v1 v2, e = .returned (.tuple #[v1, v2]) ∧ Kd.R (Kd.int .u8) 5 w' w.heap.size (fun _ => True) v1 ls ∧ Kd.R (Kd.int .i64) 3 w' w.heap.size (fun _ => True) v2 cs ∧ Below w.heap.size w w' := by
  have HU := Aside0.mk (show usedF b (n - 0) 0 = usedF b n 0 from rfl)
  obtain ⟨u, hu⟩ : ∃ u, u = usedF b n 0 := ⟨_, rfl⟩
  have hu8 : u ≤ n := by have := usedF_ge b n 0; omega
  unfold onwF at h
  rw [← hu] at h HU
  have HH := Aside0.mk h
  have HB := Aside0.mk (Below.refl w.heap.size w)
  clear h hu
  go_enter Try.func27, Try.ntmps27
  go_wp2_with fail
  go_loopg [6] n (fun gg v6 w' => ∃ (i : Nat), v6 = .int .i64 i ∧ Aside0 (i + gg = n) ∧ Aside0 (usedF b (n - i) i = u) ∧ Aside0 (Below w.heap.size w w'))
  case atStart => exact ⟨0, rfl, ⟨by omega⟩, HU, HB⟩
  case round =>
    obtain ⟨i, rfl, HG, HU1, HB1⟩ := hrel
    clear HU HB
    by_cases hcont : i < n ∧ hasB b i = true
    · obtain ⟨hp, hh⟩ := hcont
      have c4 : decide ((i : Int) < (n : Int)) = true := decide_eq_true (by omega)
      have c5 : decide (i < n) = true := decide_eq_true hp
      have c6 : IntKind.i64.wrap ((i : Int) + 1) = (i : Int) + 1 := IntWalk.i64_in _ (by omega)
      have c7 : ((i : Int) + 1 ≤ 8) = True := eq_true (by omega)
      have c8 : (0 ≤ (i : Int)) = True := eq_true (by omega)
      have c9 : ((i : Int) ≤ (i : Int) + 1) = True := eq_true (by omega)
      have c10 : ((i : Int) + 1).toNat = i + 1 := by omega
      obtain ⟨gm, rfl⟩ : ∃ gm, gk = gm + 1 := ⟨gk - 1, by have := HG.out; omega⟩
      have HC := Aside0.mk (fun (W : World) => has_at b i (by omega) W)
      rw [hh] at HC
      have hU2 := HU1.out
      rw [show n - i = (n - (i + 1)) + 1 by omega, usedF, if_pos hh] at hU2
      have HU3 := Aside0.mk hU2
      clear hU2 HU1
      go_wp2_with (go_at_call 35; refine (HC.out _).mono ?_; rintro e w1 ⟨rfl, ⟨nd, rfl⟩⟩)
      go_roundg gm
      case measure => omega
      case rel => exact ⟨i + 1, by first | rfl | (simp; done), ⟨by have := HG.out; omega⟩, HU3, ⟨pw_below_drewN HB1.out nd⟩⟩
    · obtain rfl : i = u := by
        have h5 := HU1.out
        by_cases hp : i < n
        · rw [show n - i = (n - (i + 1)) + 1 by omega, usedF, if_neg (fun e => hcont ⟨hp, e⟩)] at h5
          exact h5
        · rw [show n - i = 0 by omega] at h5
          exact h5
      clear HU1
      have HB := HB1
      clear HB1
      have c6 : IntKind.i64.wrap ((i : Int) + 1) = (i : Int) + 1 := IntWalk.i64_in _ (by omega)
      have c8 : (0 ≤ (i : Int)) = True := eq_true (by omega)
      have c9 : ((i : Int) ≤ (i : Int) + 1) = True := eq_true (by omega)
      have c10 : ((i : Int) + 1).toNat = i + 1 := by omega
      have d1 : IntKind.i64.wrap (2 * (i : Int)) = 2 * (i : Int) := IntWalk.i64_in _ (by omega)
      have d2 : IntKind.i64.wrap (2 * (i : Int) - (b.size : Int)) = 2 * (i : Int) - (b.size : Int) := IntWalk.i64_in _ (by omega)
      have d3 : ((i : Int) ≤ 8) = True := eq_true (by omega)
      by_cases hp : i < n
      · have hh : hasB b i = false := by
          cases e : hasB b i with
          | true => exact absurd ⟨hp, e⟩ hcont
          | false => rfl
        have c4 : decide ((i : Int) < (n : Int)) = true := decide_eq_true (by omega)
        have c5 : decide (i < n) = true := decide_eq_true hp
        have c7 : ((i : Int) + 1 ≤ 8) = True := eq_true (by omega)
        have HC := Aside0.mk (fun (W : World) => has_at b i (by omega) W)
        rw [hh] at HC
        go_wp2_with (first | (go_at_call 35; refine (HC.out _).mono ?_; rintro e w1 ⟨rfl, ⟨nd, rfl⟩⟩; have n1_ := Aside0.mk (pw_below_drewN HB.out nd); clear HB; have HB := n1_; clear n1_) | ((with_reducible refine gate_dst (N := 30) rfl ?_); refine Kd.R_lit (Kd.int .u8) _ 5 ?hg (N := 30) ?hd (xs := ([] : List Int)) (inner := []) (ok := fun _ => True) (okp := fun _ => True) ?hr ?hp (fun _ hk => hk) trivial (Below.refl _ _) (Nat.le_refl _) (by simp) ?_; (case hd => rfl); (case hg => rfl); (case hr => first | (go_simp; done) | (go_simp; rfl)); (case hp => exact (Reps.none _ _)); intro v30 w30 ho7 hb7 hg_ hnew_; clear hg_ hnew_; have n0_ := Aside0.mk (Kd.R_lower ho7 (below_size (by repeat (first | (with_reducible first | exact HB.out | apply below_alloc | apply pw_below_drewN | apply below_drew1) | exact HB.out)))); have n1_ := Aside0.mk (below_step (by repeat (first | (with_reducible first | exact HB.out | apply below_alloc | apply pw_below_drewN | apply below_drew1) | exact HB.out)) hb7); clear HB; have HO := n0_; have HB := n1_; clear n0_ n1_ hb7 ho7) | ((with_reducible refine gate_dst (N := 31) rfl ?_); refine Kd.R_lit (Kd.int .i64) _ 3 ?hg (N := 31) ?hd (xs := ([] : List Int)) (inner := []) (ok := fun _ => True) (okp := fun _ => True) ?hr ?hp (fun _ hk => hk) trivial (Below.refl _ _) (Nat.le_refl _) (by simp) ?_; (case hd => rfl); (case hg => rfl); (case hr => first | (go_simp; done) | (go_simp; rfl)); (case hp => exact (Reps.none _ _)); intro v31 w31 ho7 hb7 hg_ hnew_; clear hg_ hnew_; have o_HO := Aside0.mk (Kd.R_below (by (with_reducible repeat (first | apply Kd.R_alloc | apply Kd.R_drewN | apply Kd.R_drew)); exact HO.out) hb7); clear HO; have HO := o_HO; clear o_HO; have n0_ := Aside0.mk (Kd.R_lower ho7 (below_size (by repeat (first | (with_reducible first | exact HB.out | apply below_alloc | apply pw_below_drewN | apply below_drew1) | exact HB.out)))); have n1_ := Aside0.mk (below_step (by repeat (first | (with_reducible first | exact HB.out | apply below_alloc | apply pw_below_drewN | apply below_drew1) | exact HB.out)) hb7); clear HB; have HK := n0_; have HB := n1_; clear n0_ n1_ hb7 ho7))
        rw [print_bytes 9 36 5 Try.underlying9 Try.underlying36 Try.underlying5]
        simp only [Result.andThen]
        rw [Oper.upon_value]
        obtain ⟨hbl, hls⟩ : bytesOf (lettS i) = M.abcL i ∧ (lettS i).size = i := lettS_facts ⟨i, by omega⟩
        rw [show (⟨#[97, 98, 99, 100, 101, 102, 103, 104]⟩ : ByteArray).extract 0 i = lettS i from rfl]
        rw [hls]
        have hc0 := bytes_C w31 5 (lettS i) (by omega)
        rw [hbl, M.abc_length] at hc0
        have HB2 := Aside0.mk (bytes_below HB.out (HB.out.size) 5 (lettS i))
        have HO2 := Aside0.mk (Kd.R_below HO.out (bytes_below (Below.refl _ _) (Nat.le_refl _) 5 (lettS i)))
        have HK2 := Aside0.mk (Kd.R_below HK.out (bytes_below (Below.refl _ _) (Nat.le_refl _) 5 (lettS i)))
        have hn0 : v30.ownBlock ≠ some w31.heap.size := fun e => by
          obtain ⟨inner, ho, _⟩ := HO.out.2
          exact absurd (own_lt ho _ e) (by omega)
        have hn1 : v31.ownBlock ≠ some w31.heap.size := fun e => by
          obtain ⟨inner, ho, _⟩ := HK.out.2
          exact absurd (own_lt ho _ e) (by omega)
        have hlt0 : w31.heap.size < (Lib.bytesWorld w31 5 (lettS i)).heap.size := by
          rw [Lib.bytesWorld_size]
          omega
        clear HO HK HB
        generalize grownCap w31 i 0 5 = cp
        generalize Lib.bytesWorld w31 5 (lettS i) = W1 at hc0 HB2 HO2 HK2 hlt0 ⊢
        generalize w31.heap.size = B1 at hc0 hn0 hn1 hlt0 ⊢
        have HC1 := Aside0.mk (show ∀ j : Nat, j < i → W1.cell? ⟨B1, j, none⟩ = some (.int .u8 (97 + (j : Int))) from fun j hlt => by
          obtain ⟨ad, e1, hc⟩ := hc0.2.2 (by omega)
          injection e1 with e1
          subst e1
          obtain ⟨cs_, h1, h2, h3⟩ := hc j (97 + (j : Int)) (abc_get i j hlt)
          have h4 := h3 0 (.int .u8 (97 + (j : Int))) (by rw [show cs_ = [Value.int .u8 (97 + (j : Int))] from h2]; rfl)
          have ha : (⟨B1, 0, none⟩ : Addr).add (j * (Kd.int .u8).sz + 0) = ⟨B1, j, none⟩ := by
            rw [add_plain]
            show (⟨B1, j * 1 + 0, none⟩ : Addr) = _
            rw [show j * 1 + 0 = j by omega]
          rwa [ha] at h4)
        have HN := Aside0.mk (And.intro hn0 (And.intro hn1 hlt0))
        clear hc0 hn0 hn1 hlt0 hbl hls
        obtain ⟨p, hp1, hp2⟩ := Option.bind_eq_some_iff.mp HH.out
        have HP1 := Aside0.mk (show onwL k b (2 * (i : Int) - (b.size : Int) - 1) ((n : Int) - (i : Int)) (i - 0) 0 [] [] = some p from hp1)
        have HP2 := Aside0.mk hp2
        clear hp1 hp2 HH
        go_wp2_with fail
        clear HC
        have HC := HC1
        clear HC1
        go_loopg [8, 9, 11, 36] i (fun gg v8 v9 v11 v36 w' => ∃ (j : Nat) (ls0 cs0 : List Int), v36 = .int .i64 j ∧ Aside0 (j + gg = i) ∧ Aside0 (onwL k b (2 * (i : Int) - (b.size : Int) - 1) ((n : Int) - (i : Int)) (i - j) j ls0 cs0 = some p) ∧ Aside0 (ls0.length ≤ j ∧ cs0.length ≤ j) ∧ Aside0 (Kd.R (Kd.int .u8) 5 w' w.heap.size (fun _ => True) v8 ls0) ∧ Aside0 (Kd.R (Kd.int .i64) 3 w' w.heap.size (fun _ => True) v9 cs0) ∧ Aside0 (Below w.heap.size w w') ∧ Aside0 (∀ q : Nat, q < i → w'.cell? ⟨B1, q, none⟩ = some (.int .u8 (97 + (q : Int)))) ∧ Aside0 (v8.ownBlock ≠ some B1 ∧ v9.ownBlock ≠ some B1 ∧ B1 < w'.heap.size))
        case atStart => exact ⟨0, [], [], by first | rfl | (simp; done), ⟨by omega⟩, HP1, ⟨by simp⟩, HO2, HK2, HB2, HC, HN⟩
        case round =>
          obtain ⟨j, ls0, cs0, rfl, HG1, HP3, HLen, HO3, HK3, HB3, HW3, HN3⟩ := hrel
          clear HO2 HK2 HB2 HC HN HP1
          have HO := HO3
          have HK := HK3
          have HB := HB3
          have HW := HW3
          have HN := HN3
          clear HO3 HK3 HB3 HW3 HN3
          by_cases hj : j < i
          · have e4 : decide ((j : Int) < (i : Int)) = true := decide_eq_true (by omega)
            have e5 : decide (j < i) = true := decide_eq_true hj
            obtain ⟨gm, rfl⟩ : ∃ gm, gk = gm + 1 := ⟨gk - 1, by have := HG1.out; omega⟩
            have h0 := HW.out j hj
            have hx0 : (0 : Int) ≤ 97 + (j : Int) := by omega
            have hx1 : 97 + (j : Int) < 128 := by omega
            have HCt := Aside0.mk (fun (W : World) => count_small b (97 + (j : Int)) hx0 hx1 W)
            rw [show (97 + (j : Int)).toNat = 97 + j by omega] at HCt
            have hP := HP3.out
            rw [show i - j = (i - (j + 1)) + 1 by omega, onwL] at hP
            by_cases hct : b.data.toList.count ((97 + j : Nat).toUInt8) = 1
            · rw [if_pos hct] at hP
              rw [hct] at HCt
              obtain ⟨vv, hv1, hv2⟩ := Option.bind_eq_some_iff.mp hP
              have HV1 := Aside0.mk (fun (W : World) => impl_countOn.calls k _ _ vv W hv1)
              have HV2 := Aside0.mk hv2
              clear hP hv1 hv2 HP3
              have d4 : IntKind.i64.wrap (2 * (i : Int) - (b.size : Int) - 1) = 2 * (i : Int) - (b.size : Int) - 1 := IntWalk.i64_in _ (by omega)
              have d5 : IntKind.i64.wrap ((n : Int) - (i : Int)) = (n : Int) - (i : Int) := IntWalk.i64_in _ (by omega)
              clear h0
              have h0 : wr.cell? ⟨B1, j, none⟩ = some (.int .u8 (97 + (j : Int))) := HW.out j hj
              go_wp2_with (first | (go_at_call 33; refine (HCt.out _).mono ?_; rintro e w1 ⟨rfl, ⟨nd1, rfl⟩⟩; have n0_ := Aside0.mk (pw_below_drewN HB.out nd1); have n1_ := Aside0.mk (Kd.R_drewN HO.out nd1); have n2_ := Aside0.mk (Kd.R_drewN HK.out nd1); have n3_ := Aside0.mk (show ∀ q : Nat, q < i → (World.drewN _ nd1).cell? ⟨B1, q, none⟩ = some (.int .u8 (97 + (q : Int))) from HW.out); have n4_ := Aside0.mk (show _ ∧ _ ∧ B1 < (World.drewN _ nd1).heap.size from HN.out); clear HB HO HK HW HN; have HB := n0_; have HO := n1_; have HK := n2_; have HW := n3_; have HN := n4_; clear n0_ n1_ n2_ n3_ n4_) | (go_at_call 17; refine (HV1.out _).mono ?_; rintro e w1 ⟨rfl, ⟨nd2, rfl⟩⟩; have n0_ := Aside0.mk (pw_below_drewN HB.out nd2); have n1_ := Aside0.mk (Kd.R_drewN HO.out nd2); have n2_ := Aside0.mk (Kd.R_drewN HK.out nd2); have n3_ := Aside0.mk (show ∀ q : Nat, q < i → (World.drewN _ nd2).cell? ⟨B1, q, none⟩ = some (.int .u8 (97 + (q : Int))) from HW.out); have n4_ := Aside0.mk (show _ ∧ _ ∧ B1 < (World.drewN _ nd2).heap.size from HN.out); clear HB HO HK HW HN; have HB := n0_; have HO := n1_; have HK := n2_; have HW := n3_; have HN := n4_; clear n0_ n1_ n2_ n3_ n4_) | ((with_reducible refine gate_builtin (b := .append) (xs := #[.tmp 46, .tmp 48]) rfl ?_); at_builtin; refine Kd.R_append (Kd.int .u8) (w0 := w) w.heap.size rfl (.tmp 46) (.tmp 48) 36 5 (.int .u8 0) 1 rfl Try.underlying36 info5 rfl (by decide) (by omega) u8 ls0 (97 + (j : Int)) [.int .u8 (97 + (j : Int))] (fun _ => True) (fun _ => False) rfl rfl ?aP (fun _ hk => hk.elim) ?aF ?aO ?aB ?aS ?aL ?_; (case aP => exact rfl); (case aB => exact (by repeat (first | (with_reducible first | exact HB.out | apply below_alloc | apply pw_below_drewN | apply below_drew1) | exact HB.out))); (case aF => exact (fun _ _ => trivial)); (case aO => exact (by (with_reducible repeat (first | apply Kd.R_alloc | apply Kd.R_drewN | apply Kd.R_drew)); exact HO.out)); (case aS => exact (below_size (by repeat (first | (with_reducible first | exact HB.out | apply below_alloc | apply pw_below_drewN | apply below_drew1) | exact HB.out)))); (case aL => have := HLen.out; omega); intro v46 w46 ho hb hg hat; have n0_ := Aside0.mk hb; have n1_ := Aside0.mk ho; have n2_ := Aside0.mk (Kd.R_over (by (with_reducible repeat (first | apply Kd.R_alloc | apply Kd.R_drewN | apply Kd.R_drew)); exact HK.out) (by (with_reducible repeat (first | apply Kd.R_alloc | apply Kd.R_drewN | apply Kd.R_drew)); exact HO.out) (by decide) hg); have n3_ := Aside0.mk (fun (q : Nat) (hq : q < i) => (cell_grown hg HN.out.2.2 (fun e => HN.out.1 e.symm) q).trans (HW.out q hq)); have n4_ := Aside0.mk (show v46.ownBlock ≠ some B1 ∧ u9.ownBlock ≠ some B1 ∧ B1 < w46.heap.size from ⟨own_ne_append hat HN.out.1 HN.out.2.2, HN.out.2.1, Nat.lt_of_lt_of_le HN.out.2.2 hg.size⟩); clear HB HO HK HW HN; have HB := n0_; have HO := n1_; have HK := n2_; have HW := n3_; have HN := n4_; clear n0_ n1_ n2_ n3_ n4_ ho hb hg hat) | ((with_reducible refine gate_builtin (b := .append) (xs := #[.tmp 50, .tmp 57]) rfl ?_); at_builtin; refine Kd.R_append (Kd.int .i64) (w0 := w) w.heap.size rfl (.tmp 50) (.tmp 57) 41 3 (.int .i64 0) 8 rfl und_ints info_int rfl (by decide) (by omega) u9 cs0 vv [.int .i64 vv] (fun _ => True) (fun _ => False) rfl rfl ?aP (fun _ hk => hk.elim) ?aF ?aO ?aB ?aS ?aL ?_; (case aP => exact rfl); (case aB => exact (by repeat (first | (with_reducible first | exact HB.out | apply below_alloc | apply pw_below_drewN | apply below_drew1) | exact HB.out))); (case aF => exact (fun _ _ => trivial)); (case aO => exact (by (with_reducible repeat (first | apply Kd.R_alloc | apply Kd.R_drewN | apply Kd.R_drew)); exact HK.out)); (case aS => exact (below_size (by repeat (first | (with_reducible first | exact HB.out | apply below_alloc | apply pw_below_drewN | apply below_drew1) | exact HB.out)))); (case aL => have := HLen.out; omega); intro v50 w50 ho hb hg hat; have n0_ := Aside0.mk hb; have n1_ := Aside0.mk ho; have n2_ := Aside0.mk (Kd.R_over (by (with_reducible repeat (first | apply Kd.R_alloc | apply Kd.R_drewN | apply Kd.R_drew)); exact HO.out) (by (with_reducible repeat (first | apply Kd.R_alloc | apply Kd.R_drewN | apply Kd.R_drew)); exact HK.out) (by decide) hg); have n3_ := Aside0.mk (fun (q : Nat) (hq : q < i) => (cell_grown hg HN.out.2.2 (fun e => HN.out.2.1 e.symm) q).trans (HW.out q hq)); have n4_ := Aside0.mk (show v46.ownBlock ≠ some B1 ∧ v50.ownBlock ≠ some B1 ∧ B1 < w50.heap.size from ⟨HN.out.1, own_ne_append hat HN.out.2.1 HN.out.2.2, Nat.lt_of_lt_of_le HN.out.2.2 hg.size⟩); clear HB HK HO HW HN; have HB := n0_; have HK := n1_; have HO := n2_; have HW := n3_; have HN := n4_; clear n0_ n1_ n2_ n3_ n4_ ho hb hg hat))
              go_roundg gm
              case measure => omega
              case rel => exact ⟨j + 1, ls0 ++ [97 + (j : Int)], cs0 ++ [vv], by first | rfl | (simp; done), ⟨by have := HG1.out; omega⟩, HV2, ⟨by have := HLen.out; simp; omega⟩, HO, HK, HB, HW, HN⟩
            · rw [if_neg hct] at hP
              have HP4 := Aside0.mk hP
              have hq1 : (((b.data.toList.count ((97 + j : Nat).toUInt8) : Nat) : Int) == 1) = false := beq_eq_false_iff_ne.2 (by omega)
              generalize ((b.data.toList.count ((97 + j : Nat).toUInt8) : Nat) : Int) = qq at HCt hq1
              clear hP HP3
              go_wp2_with (go_at_call 33; refine (HCt.out _).mono ?_; rintro e w1 ⟨rfl, ⟨nd, rfl⟩⟩)
              go_roundg gm
              case measure => omega
              case rel => exact ⟨j + 1, ls0, cs0, by first | rfl | (simp; done), ⟨by have := HG1.out; omega⟩, HP4, ⟨by have := HLen.out; omega⟩, ⟨Kd.R_drewN HO.out nd⟩, ⟨Kd.R_drewN HK.out nd⟩, ⟨pw_below_drewN HB.out nd⟩, ⟨HW.out⟩, ⟨HN.out⟩⟩
          · have hji : j ≤ i := by have := HG1.out; omega
            have e4 : decide ((j : Int) < (i : Int)) = false := decide_eq_false (by omega)
            have e5 : decide (j < i) = false := decide_eq_false hj
            obtain rfl : p = (ls0, cs0) := by
              have h5 := HP3.out
              rw [show i - j = 0 by omega] at h5
              exact (Option.some.inj h5).symm
            have hP := HP2.out
            rw [if_pos hp] at hP
            obtain ⟨vv, hv1, hv2⟩ := Option.bind_eq_some_iff.mp hP
            obtain ⟨rfl, rfl⟩ := Prod.mk.inj (Option.some.inj hv2)
            have HV1 := Aside0.mk (fun (W : World) => impl_countOn.calls k _ _ vv W hv1)
            clear hP hv1 hv2 HP3 HP2 HW HN
            have d4 : IntKind.i64.wrap (2 * (i : Int) - (b.size : Int) + 1) = 2 * (i : Int) - (b.size : Int) + 1 := IntWalk.i64_in _ (by omega)
            have d5 : IntKind.i64.wrap ((n : Int) - (i : Int)) = (n : Int) - (i : Int) := IntWalk.i64_in _ (by omega)
            have d6 : IntKind.i64.wrap ((n : Int) - (i : Int) - 1) = (n : Int) - (i : Int) - 1 := IntWalk.i64_in _ (by omega)
            go_wp2_with (first | (go_at_call 17; refine (HV1.out _).mono ?_; rintro e w1 ⟨rfl, ⟨nd2, rfl⟩⟩; have n0_ := Aside0.mk (pw_below_drewN HB.out nd2); have n1_ := Aside0.mk (Kd.R_drewN HO.out nd2); have n2_ := Aside0.mk (Kd.R_drewN HK.out nd2); clear HB HO HK; have HB := n0_; have HO := n1_; have HK := n2_; clear n0_ n1_ n2_) | ((with_reducible refine gate_builtin (b := .append) (xs := #[.tmp 63, .tmp 67]) rfl ?_); at_builtin; refine Kd.R_append (Kd.int .u8) (w0 := w) w.heap.size rfl (.tmp 63) (.tmp 67) 36 5 (.int .u8 0) 1 rfl Try.underlying36 info5 rfl (by decide) (by omega) u8 ls0 (97 + (i : Int)) [.int .u8 (97 + (i : Int))] (fun _ => True) (fun _ => False) rfl rfl ?aP (fun _ hk => hk.elim) ?aF ?aO ?aB ?aS ?aL ?_; (case aP => exact rfl); (case aB => exact (by repeat (first | (with_reducible first | exact HB.out | apply below_alloc | apply pw_below_drewN | apply below_drew1) | exact HB.out))); (case aF => exact (fun _ _ => trivial)); (case aO => exact (by (with_reducible repeat (first | apply Kd.R_alloc | apply Kd.R_drewN | apply Kd.R_drew)); exact HO.out)); (case aS => exact (below_size (by repeat (first | (with_reducible first | exact HB.out | apply below_alloc | apply pw_below_drewN | apply below_drew1) | exact HB.out)))); (case aL => have := HLen.out; omega); intro v63 w63 ho hb hg hat; have n0_ := Aside0.mk hb; have n1_ := Aside0.mk ho; have n2_ := Aside0.mk (Kd.R_over (by (with_reducible repeat (first | apply Kd.R_alloc | apply Kd.R_drewN | apply Kd.R_drew)); exact HK.out) (by (with_reducible repeat (first | apply Kd.R_alloc | apply Kd.R_drewN | apply Kd.R_drew)); exact HO.out) (by decide) hg); clear HB HO HK; have HB := n0_; have HO := n1_; have HK := n2_; clear n0_ n1_ n2_ ho hb hg hat) | ((with_reducible refine gate_builtin (b := .append) (xs := #[.tmp 69, .tmp 77]) rfl ?_); at_builtin; refine Kd.R_append (Kd.int .i64) (w0 := w) w.heap.size rfl (.tmp 69) (.tmp 77) 41 3 (.int .i64 0) 8 rfl und_ints info_int rfl (by decide) (by omega) u9 cs0 vv [.int .i64 vv] (fun _ => True) (fun _ => False) rfl rfl ?aP (fun _ hk => hk.elim) ?aF ?aO ?aB ?aS ?aL ?_; (case aP => exact rfl); (case aB => exact (by repeat (first | (with_reducible first | exact HB.out | apply below_alloc | apply pw_below_drewN | apply below_drew1) | exact HB.out))); (case aF => exact (fun _ _ => trivial)); (case aO => exact (by (with_reducible repeat (first | apply Kd.R_alloc | apply Kd.R_drewN | apply Kd.R_drew)); exact HK.out)); (case aS => exact (below_size (by repeat (first | (with_reducible first | exact HB.out | apply below_alloc | apply pw_below_drewN | apply below_drew1) | exact HB.out)))); (case aL => have := HLen.out; omega); intro v69 w69 ho hb hg hat; have n0_ := Aside0.mk hb; have n1_ := Aside0.mk ho; have n2_ := Aside0.mk (Kd.R_over (by (with_reducible repeat (first | apply Kd.R_alloc | apply Kd.R_drewN | apply Kd.R_drew)); exact HO.out) (by (with_reducible repeat (first | apply Kd.R_alloc | apply Kd.R_drewN | apply Kd.R_drew)); exact HK.out) (by decide) hg); clear HB HK HO; have HB := n0_; have HK := n1_; have HO := n2_; clear n0_ n1_ n2_ ho hb hg hat))
            go_ret2
            exact ⟨_, _, rfl, HO.out, HK.out, HB.out⟩
      · have c4 : decide ((i : Int) < (n : Int)) = false := decide_eq_false (by omega)
        have c5 : decide (i < n) = false := decide_eq_false hp
        go_wp2_with (first | ((with_reducible refine gate_dst (N := 30) rfl ?_); refine Kd.R_lit (Kd.int .u8) _ 5 ?hg (N := 30) ?hd (xs := ([] : List Int)) (inner := []) (ok := fun _ => True) (okp := fun _ => True) ?hr ?hp (fun _ hk => hk) trivial (Below.refl _ _) (Nat.le_refl _) (by simp) ?_; (case hd => rfl); (case hg => rfl); (case hr => first | (go_simp; done) | (go_simp; rfl)); (case hp => exact (Reps.none _ _)); intro v30 w30 ho7 hb7 hg_ hnew_; clear hg_ hnew_; have n0_ := Aside0.mk (Kd.R_lower ho7 (below_size (by repeat (first | (with_reducible first | exact HB.out | apply below_alloc | apply pw_below_drewN | apply below_drew1) | exact HB.out)))); have n1_ := Aside0.mk (below_step (by repeat (first | (with_reducible first | exact HB.out | apply below_alloc | apply pw_below_drewN | apply below_drew1) | exact HB.out)) hb7); clear HB; have HO := n0_; have HB := n1_; clear n0_ n1_ hb7 ho7) | ((with_reducible refine gate_dst (N := 31) rfl ?_); refine Kd.R_lit (Kd.int .i64) _ 3 ?hg (N := 31) ?hd (xs := ([] : List Int)) (inner := []) (ok := fun _ => True) (okp := fun _ => True) ?hr ?hp (fun _ hk => hk) trivial (Below.refl _ _) (Nat.le_refl _) (by simp) ?_; (case hd => rfl); (case hg => rfl); (case hr => first | (go_simp; done) | (go_simp; rfl)); (case hp => exact (Reps.none _ _)); intro v31 w31 ho7 hb7 hg_ hnew_; clear hg_ hnew_; have o_HO := Aside0.mk (Kd.R_below (by (with_reducible repeat (first | apply Kd.R_alloc | apply Kd.R_drewN | apply Kd.R_drew)); exact HO.out) hb7); clear HO; have HO := o_HO; clear o_HO; have n0_ := Aside0.mk (Kd.R_lower ho7 (below_size (by repeat (first | (with_reducible first | exact HB.out | apply below_alloc | apply pw_below_drewN | apply below_drew1) | exact HB.out)))); have n1_ := Aside0.mk (below_step (by repeat (first | (with_reducible first | exact HB.out | apply below_alloc | apply pw_below_drewN | apply below_drew1) | exact HB.out)) hb7); clear HB; have HK := n0_; have HB := n1_; clear n0_ n1_ hb7 ho7))
        rw [print_bytes 9 36 5 Try.underlying9 Try.underlying36 Try.underlying5]
        simp only [Result.andThen]
        rw [Oper.upon_value]
        obtain ⟨hbl, hls⟩ : bytesOf (lettS i) = M.abcL i ∧ (lettS i).size = i := lettS_facts ⟨i, by omega⟩
        rw [show (⟨#[97, 98, 99, 100, 101, 102, 103, 104]⟩ : ByteArray).extract 0 i = lettS i from rfl]
        rw [hls]
        have hc0 := bytes_C w31 5 (lettS i) (by omega)
        rw [hbl, M.abc_length] at hc0
        have HB2 := Aside0.mk (bytes_below HB.out (HB.out.size) 5 (lettS i))
        have HO2 := Aside0.mk (Kd.R_below HO.out (bytes_below (Below.refl _ _) (Nat.le_refl _) 5 (lettS i)))
        have HK2 := Aside0.mk (Kd.R_below HK.out (bytes_below (Below.refl _ _) (Nat.le_refl _) 5 (lettS i)))
        have hn0 : v30.ownBlock ≠ some w31.heap.size := fun e => by
          obtain ⟨inner, ho, _⟩ := HO.out.2
          exact absurd (own_lt ho _ e) (by omega)
        have hn1 : v31.ownBlock ≠ some w31.heap.size := fun e => by
          obtain ⟨inner, ho, _⟩ := HK.out.2
          exact absurd (own_lt ho _ e) (by omega)
        have hlt0 : w31.heap.size < (Lib.bytesWorld w31 5 (lettS i)).heap.size := by
          rw [Lib.bytesWorld_size]
          omega
        clear HO HK HB
        generalize grownCap w31 i 0 5 = cp
        generalize Lib.bytesWorld w31 5 (lettS i) = W1 at hc0 HB2 HO2 HK2 hlt0 ⊢
        generalize w31.heap.size = B1 at hc0 hn0 hn1 hlt0 ⊢
        have HC1 := Aside0.mk (show ∀ j : Nat, j < i → W1.cell? ⟨B1, j, none⟩ = some (.int .u8 (97 + (j : Int))) from fun j hlt => by
          obtain ⟨ad, e1, hc⟩ := hc0.2.2 (by omega)
          injection e1 with e1
          subst e1
          obtain ⟨cs_, h1, h2, h3⟩ := hc j (97 + (j : Int)) (abc_get i j hlt)
          have h4 := h3 0 (.int .u8 (97 + (j : Int))) (by rw [show cs_ = [Value.int .u8 (97 + (j : Int))] from h2]; rfl)
          have ha : (⟨B1, 0, none⟩ : Addr).add (j * (Kd.int .u8).sz + 0) = ⟨B1, j, none⟩ := by
            rw [add_plain]
            show (⟨B1, j * 1 + 0, none⟩ : Addr) = _
            rw [show j * 1 + 0 = j by omega]
          rwa [ha] at h4)
        have HN := Aside0.mk (And.intro hn0 (And.intro hn1 hlt0))
        clear hc0 hn0 hn1 hlt0 hbl hls
        obtain ⟨p, hp1, hp2⟩ := Option.bind_eq_some_iff.mp HH.out
        have HP1 := Aside0.mk (show onwL k b (2 * (i : Int) - (b.size : Int) - 1) ((n : Int) - (i : Int)) (i - 0) 0 [] [] = some p from hp1)
        have HP2 := Aside0.mk hp2
        clear hp1 hp2 HH
        go_wp2_with fail
        have HC := HC1
        clear HC1
        go_loopg [8, 9, 11, 36] i (fun gg v8 v9 v11 v36 w' => ∃ (j : Nat) (ls0 cs0 : List Int), v36 = .int .i64 j ∧ Aside0 (j + gg = i) ∧ Aside0 (onwL k b (2 * (i : Int) - (b.size : Int) - 1) ((n : Int) - (i : Int)) (i - j) j ls0 cs0 = some p) ∧ Aside0 (ls0.length ≤ j ∧ cs0.length ≤ j) ∧ Aside0 (Kd.R (Kd.int .u8) 5 w' w.heap.size (fun _ => True) v8 ls0) ∧ Aside0 (Kd.R (Kd.int .i64) 3 w' w.heap.size (fun _ => True) v9 cs0) ∧ Aside0 (Below w.heap.size w w') ∧ Aside0 (∀ q : Nat, q < i → w'.cell? ⟨B1, q, none⟩ = some (.int .u8 (97 + (q : Int)))) ∧ Aside0 (v8.ownBlock ≠ some B1 ∧ v9.ownBlock ≠ some B1 ∧ B1 < w'.heap.size))
        case atStart => exact ⟨0, [], [], by first | rfl | (simp; done), ⟨by omega⟩, HP1, ⟨by simp⟩, HO2, HK2, HB2, HC, HN⟩
        case round =>
          obtain ⟨j, ls0, cs0, rfl, HG1, HP3, HLen, HO3, HK3, HB3, HW3, HN3⟩ := hrel
          clear HO2 HK2 HB2 HC HN HP1
          have HO := HO3
          have HK := HK3
          have HB := HB3
          have HW := HW3
          have HN := HN3
          clear HO3 HK3 HB3 HW3 HN3
          by_cases hj : j < i
          · have e4 : decide ((j : Int) < (i : Int)) = true := decide_eq_true (by omega)
            have e5 : decide (j < i) = true := decide_eq_true hj
            obtain ⟨gm, rfl⟩ : ∃ gm, gk = gm + 1 := ⟨gk - 1, by have := HG1.out; omega⟩
            have h0 := HW.out j hj
            have hx0 : (0 : Int) ≤ 97 + (j : Int) := by omega
            have hx1 : 97 + (j : Int) < 128 := by omega
            have HCt := Aside0.mk (fun (W : World) => count_small b (97 + (j : Int)) hx0 hx1 W)
            rw [show (97 + (j : Int)).toNat = 97 + j by omega] at HCt
            have hP := HP3.out
            rw [show i - j = (i - (j + 1)) + 1 by omega, onwL] at hP
            by_cases hct : b.data.toList.count ((97 + j : Nat).toUInt8) = 1
            · rw [if_pos hct] at hP
              rw [hct] at HCt
              obtain ⟨vv, hv1, hv2⟩ := Option.bind_eq_some_iff.mp hP
              have HV1 := Aside0.mk (fun (W : World) => impl_countOn.calls k _ _ vv W hv1)
              have HV2 := Aside0.mk hv2
              clear hP hv1 hv2 HP3
              have d4 : IntKind.i64.wrap (2 * (i : Int) - (b.size : Int) - 1) = 2 * (i : Int) - (b.size : Int) - 1 := IntWalk.i64_in _ (by omega)
              have d5 : IntKind.i64.wrap ((n : Int) - (i : Int)) = (n : Int) - (i : Int) := IntWalk.i64_in _ (by omega)
              clear h0
              have h0 : wr.cell? ⟨B1, j, none⟩ = some (.int .u8 (97 + (j : Int))) := HW.out j hj
              go_wp2_with (first | (go_at_call 33; refine (HCt.out _).mono ?_; rintro e w1 ⟨rfl, ⟨nd1, rfl⟩⟩; have n0_ := Aside0.mk (pw_below_drewN HB.out nd1); have n1_ := Aside0.mk (Kd.R_drewN HO.out nd1); have n2_ := Aside0.mk (Kd.R_drewN HK.out nd1); have n3_ := Aside0.mk (show ∀ q : Nat, q < i → (World.drewN _ nd1).cell? ⟨B1, q, none⟩ = some (.int .u8 (97 + (q : Int))) from HW.out); have n4_ := Aside0.mk (show _ ∧ _ ∧ B1 < (World.drewN _ nd1).heap.size from HN.out); clear HB HO HK HW HN; have HB := n0_; have HO := n1_; have HK := n2_; have HW := n3_; have HN := n4_; clear n0_ n1_ n2_ n3_ n4_) | (go_at_call 17; refine (HV1.out _).mono ?_; rintro e w1 ⟨rfl, ⟨nd2, rfl⟩⟩; have n0_ := Aside0.mk (pw_below_drewN HB.out nd2); have n1_ := Aside0.mk (Kd.R_drewN HO.out nd2); have n2_ := Aside0.mk (Kd.R_drewN HK.out nd2); have n3_ := Aside0.mk (show ∀ q : Nat, q < i → (World.drewN _ nd2).cell? ⟨B1, q, none⟩ = some (.int .u8 (97 + (q : Int))) from HW.out); have n4_ := Aside0.mk (show _ ∧ _ ∧ B1 < (World.drewN _ nd2).heap.size from HN.out); clear HB HO HK HW HN; have HB := n0_; have HO := n1_; have HK := n2_; have HW := n3_; have HN := n4_; clear n0_ n1_ n2_ n3_ n4_) | ((with_reducible refine gate_builtin (b := .append) (xs := #[.tmp 46, .tmp 48]) rfl ?_); at_builtin; refine Kd.R_append (Kd.int .u8) (w0 := w) w.heap.size rfl (.tmp 46) (.tmp 48) 36 5 (.int .u8 0) 1 rfl Try.underlying36 info5 rfl (by decide) (by omega) u8 ls0 (97 + (j : Int)) [.int .u8 (97 + (j : Int))] (fun _ => True) (fun _ => False) rfl rfl ?aP (fun _ hk => hk.elim) ?aF ?aO ?aB ?aS ?aL ?_; (case aP => exact rfl); (case aB => exact (by repeat (first | (with_reducible first | exact HB.out | apply below_alloc | apply pw_below_drewN | apply below_drew1) | exact HB.out))); (case aF => exact (fun _ _ => trivial)); (case aO => exact (by (with_reducible repeat (first | apply Kd.R_alloc | apply Kd.R_drewN | apply Kd.R_drew)); exact HO.out)); (case aS => exact (below_size (by repeat (first | (with_reducible first | exact HB.out | apply below_alloc | apply pw_below_drewN | apply below_drew1) | exact HB.out)))); (case aL => have := HLen.out; omega); intro v46 w46 ho hb hg hat; have n0_ := Aside0.mk hb; have n1_ := Aside0.mk ho; have n2_ := Aside0.mk (Kd.R_over (by (with_reducible repeat (first | apply Kd.R_alloc | apply Kd.R_drewN | apply Kd.R_drew)); exact HK.out) (by (with_reducible repeat (first | apply Kd.R_alloc | apply Kd.R_drewN | apply Kd.R_drew)); exact HO.out) (by decide) hg); have n3_ := Aside0.mk (fun (q : Nat) (hq : q < i) => (cell_grown hg HN.out.2.2 (fun e => HN.out.1 e.symm) q).trans (HW.out q hq)); have n4_ := Aside0.mk (show v46.ownBlock ≠ some B1 ∧ u9.ownBlock ≠ some B1 ∧ B1 < w46.heap.size from ⟨own_ne_append hat HN.out.1 HN.out.2.2, HN.out.2.1, Nat.lt_of_lt_of_le HN.out.2.2 hg.size⟩); clear HB HO HK HW HN; have HB := n0_; have HO := n1_; have HK := n2_; have HW := n3_; have HN := n4_; clear n0_ n1_ n2_ n3_ n4_ ho hb hg hat) | ((with_reducible refine gate_builtin (b := .append) (xs := #[.tmp 50, .tmp 57]) rfl ?_); at_builtin; refine Kd.R_append (Kd.int .i64) (w0 := w) w.heap.size rfl (.tmp 50) (.tmp 57) 41 3 (.int .i64 0) 8 rfl und_ints info_int rfl (by decide) (by omega) u9 cs0 vv [.int .i64 vv] (fun _ => True) (fun _ => False) rfl rfl ?aP (fun _ hk => hk.elim) ?aF ?aO ?aB ?aS ?aL ?_; (case aP => exact rfl); (case aB => exact (by repeat (first | (with_reducible first | exact HB.out | apply below_alloc | apply pw_below_drewN | apply below_drew1) | exact HB.out))); (case aF => exact (fun _ _ => trivial)); (case aO => exact (by (with_reducible repeat (first | apply Kd.R_alloc | apply Kd.R_drewN | apply Kd.R_drew)); exact HK.out)); (case aS => exact (below_size (by repeat (first | (with_reducible first | exact HB.out | apply below_alloc | apply pw_below_drewN | apply below_drew1) | exact HB.out)))); (case aL => have := HLen.out; omega); intro v50 w50 ho hb hg hat; have n0_ := Aside0.mk hb; have n1_ := Aside0.mk ho; have n2_ := Aside0.mk (Kd.R_over (by (with_reducible repeat (first | apply Kd.R_alloc | apply Kd.R_drewN | apply Kd.R_drew)); exact HO.out) (by (with_reducible repeat (first | apply Kd.R_alloc | apply Kd.R_drewN | apply Kd.R_drew)); exact HK.out) (by decide) hg); have n3_ := Aside0.mk (fun (q : Nat) (hq : q < i) => (cell_grown hg HN.out.2.2 (fun e => HN.out.2.1 e.symm) q).trans (HW.out q hq)); have n4_ := Aside0.mk (show v46.ownBlock ≠ some B1 ∧ v50.ownBlock ≠ some B1 ∧ B1 < w50.heap.size from ⟨HN.out.1, own_ne_append hat HN.out.2.1 HN.out.2.2, Nat.lt_of_lt_of_le HN.out.2.2 hg.size⟩); clear HB HK HO HW HN; have HB := n0_; have HK := n1_; have HO := n2_; have HW := n3_; have HN := n4_; clear n0_ n1_ n2_ n3_ n4_ ho hb hg hat))
              go_roundg gm
              case measure => omega
              case rel => exact ⟨j + 1, ls0 ++ [97 + (j : Int)], cs0 ++ [vv], by first | rfl | (simp; done), ⟨by have := HG1.out; omega⟩, HV2, ⟨by have := HLen.out; simp; omega⟩, HO, HK, HB, HW, HN⟩
            · rw [if_neg hct] at hP
              have HP4 := Aside0.mk hP
              have hq1 : (((b.data.toList.count ((97 + j : Nat).toUInt8) : Nat) : Int) == 1) = false := beq_eq_false_iff_ne.2 (by omega)
              generalize ((b.data.toList.count ((97 + j : Nat).toUInt8) : Nat) : Int) = qq at HCt hq1
              clear hP HP3
              go_wp2_with (go_at_call 33; refine (HCt.out _).mono ?_; rintro e w1 ⟨rfl, ⟨nd, rfl⟩⟩)
              go_roundg gm
              case measure => omega
              case rel => exact ⟨j + 1, ls0, cs0, by first | rfl | (simp; done), ⟨by have := HG1.out; omega⟩, HP4, ⟨by have := HLen.out; omega⟩, ⟨Kd.R_drewN HO.out nd⟩, ⟨Kd.R_drewN HK.out nd⟩, ⟨pw_below_drewN HB.out nd⟩, ⟨HW.out⟩, ⟨HN.out⟩⟩
          · have hji : j ≤ i := by have := HG1.out; omega
            have e4 : decide ((j : Int) < (i : Int)) = false := decide_eq_false (by omega)
            have e5 : decide (j < i) = false := decide_eq_false hj
            obtain rfl : p = (ls0, cs0) := by
              have h5 := HP3.out
              rw [show i - j = 0 by omega] at h5
              exact (Option.some.inj h5).symm
            have hP := HP2.out
            rw [if_neg hp] at hP
            obtain ⟨rfl, rfl⟩ := Prod.mk.inj (Option.some.inj hP)
            clear hP HP3 HP2 HW HN
            go_wp2_with fail
            go_ret2
            exact ⟨_, _, rfl, HO.out, HK.out, HB.out⟩
end Go.Proofs.Ytgdpeabbmbclbaa.Pr

/- What the program's onward computes, as the printed texts call it. -/
namespace Go.Proofs.Ytgdpeabbmbclbaa.Pr
open Go.RowKit Go.Proofs.YtgdpeabbmbclbaaW.PrintWords Go.Proofs.YtgdpeabbmbclbaaW.PrintLast Go.Proofs.YtgdpeabbmbclbaaW.PrintMore
set_option linter.unusedVariables false
set_option linter.unusedSimpArgs false

def impl_onward.f (k : Nat) (a0 : Int) (a1 : ByteArray) : Option (List Int × List Int) := if 0 ≤ a0 ∧ a0 ≤ 8 ∧ a1.size ≤ 16 then onwF k a0.toNat a1 else none
theorem onwL_mono (b : ByteArray) (x y : Int) : ∀ (d i : Nat) (ls cs : List Int) (k : Nat), LeO (onwL k b x y d i ls cs) (onwL (k + 1) b x y d i ls cs)
  | 0, _, _, _, _ => LeO.refl _
  | d + 1, i, ls, cs, k => by
    rw [onwL, onwL]
    exact LeO.ite (LeO.bind (impl_countOn.mono _ _ _) (fun _ => onwL_mono b x y d _ _ _ k)) (onwL_mono b x y d _ _ _ k)
theorem impl_onward.mono : ∀ a0 a1 k, LeO (impl_onward.f k a0 a1) (impl_onward.f (k + 1) a0 a1) := by
  intro a0 a1 k
  unfold impl_onward.f
  refine LeO.ite ?_ (LeO.refl _)
  unfold onwF
  exact LeO.bind (onwL_mono _ _ _ _ _ _ _ _) (fun _ => LeO.ite (LeO.bind (impl_countOn.mono _ _ _) (fun _ => LeO.refl _)) (LeO.refl _))
theorem impl_onward.calls (k : Nat) (a0 : Int) (a1 : ByteArray) (r1 : List Int) (r2 : List Int) (w : World) (h : impl_onward.f k a0 a1 = some (r1, r2)) :
    Calls Try.prog 27 #[.int .i64 a0, .string a1] w fun e w' => ∃ v0_ v1_ : Value, e = .returned (.tuple #[v0_, v1_]) ∧ Kd.R (Kd.int .u8) 5 w' w.heap.size (fun _ => True) v0_ r1 ∧ Kd.R (Kd.int .i64) 3 w' w.heap.size (fun _ => True) v1_ r2 ∧ Below w.heap.size w w' := by
  unfold impl_onward.f at h
  by_cases hs : 0 ≤ a0 ∧ a0 ≤ 8 ∧ a1.size ≤ 16
  · rw [if_pos hs] at h
    have e := onward_calls k a0.toNat (by omega) a1 hs.2.2 r1 r2 w h
    rw [Int.toNat_of_nonneg hs.1] at e
    exact e
  · rw [if_neg hs] at h; cases h
end Go.Proofs.Ytgdpeabbmbclbaa.Pr
