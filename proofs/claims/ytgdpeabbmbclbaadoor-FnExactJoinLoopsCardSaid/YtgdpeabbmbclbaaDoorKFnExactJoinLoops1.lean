/- The program's JoinLoops returns what the reference's returns, for all arguments. Condition: none. -/
import Derived.Test.YtgdpeabbmbclbaaDoorProg
import Derived.Below
import Derived.Deep.Draws
import Derived.Deep.AppendLies
import Derived.Maps.AppendAt
import Derived.OwnWalk
import Derived.Laws.BytesArg
import Derived.Laws.MakeOwn
import Derived.Laws.OwnMore
import Derived.Deep.OwnRows
import Derived.Tactics
import Derived.Lib.ConvBytes
import Derived.Laws.Slices
import Derived.WalkKit
import Derived.KernelRfl
import Derived.RowKit3
import Derived.Deep.LoopGhost
import Derived.Deep.QuietTactic
import Derived.BigQuiet
import Derived.WideLaws
import Derived.Deep.DeepCutAuto
import Derived.Deep.CutBlock
import Derived.Deep.RegionHeld3
import Derived.Laws.Rows
import Derived.Lib.AppendStr
import Derived.ArgAppend
import Derived.Laws.IdiomCopy
import Derived.OrdersHeld
import Derived.Laws.BitsLemmas
import Derived.RowKit
import Derived.Shelf.Abstract
import Derived.Shelf.Small.Strs
import Derived.Ground.NamesProg
import Derived.Shelf.Strings.LastIndex
import Derived.Shelf.Strings.Count
import Derived.Shelf.Strings.Search3
import Derived.Shelf.Strings.SlTrimAscii
import Derived.Laws.Strings
import Derived.Deep.RegionWith
import Derived.Lib.Bytealg
import Derived.IntWalk
import Derived.Deep.Slices
import Derived.Deep.Fields
import Derived.ChangeSame
import Derived.ChangeShapes
import Derived.Carry
import Derived.Lib.SmallJoins
import Derived.OpenShut
import Derived.Test.YtgdpeabbmbclbaaDoorCards
import Derived.Test.YtgdpeabbmbclbaaDoorTie
import Derived.LaidMore
import Derived.Lay
import Derived.Stop.Joined
import Derived.Handed
import Derived.SevenTiedAt
import Derived.Test.YtgdpeabbmbclbaaDoorRows
import Derived.ProofKit
import Derived.ShutString
import Derived.ChangeOld
import Derived.SizedLaws
import Derived.ChangeSlices
import Derived.Test.YtgdpeabbmbclbaaDoorKFnExactJoinLoops0
-- Written by a program for this claim.
namespace Go.Proofs.YtgdpeabbmbclbaaDoor.Pr
open Go.RowKit Go.Proofs.YtgdpeabbmbclbaaDoorW.PrintWords Go.Proofs.YtgdpeabbmbclbaaDoorW.PrintLast Go.Proofs.YtgdpeabbmbclbaaDoorW.PrintMore
attribute [local go_sem] max2_int min2_int max_two min_two max_three min_three max_four min_four   -- for this text's walks alone
set_option linter.unusedVariables false
set_option linter.unusedSimpArgs false



def errW : Option Int → Value
  | none => .nilIface
  | some c => .iface 0 (.int .i64 c)
theorem errW_none : errW none = .nilIface := rfl
theorem errW_some (c : Int) : errW (some c) = .iface 0 (.int .i64 c) := rfl

theorem info5 : (Tryd.prog.info? 5).map (fun i => (i.zero, i.size, i.bytes)) = some (some (.int .u8 0), 1, 1) := by kernel_rfl
theorem info9 : (Tryd.prog.info? 9).map (fun i => (i.zero, i.size, i.bytes)) = some (some (.string ⟨#[]⟩), 1, 16) := by kernel_rfl
-- the values' own types

end Go.Proofs.YtgdpeabbmbclbaaDoor.Pr

-- Written by a program for this claim.
namespace Go.Proofs.YtgdpeabbmbclbaaDoor.Pr
open Go.RowKit Go.Proofs.YtgdpeabbmbclbaaDoorW.PrintWords Go.Proofs.YtgdpeabbmbclbaaDoorW.PrintLast Go.Proofs.YtgdpeabbmbclbaaDoorW.PrintMore
attribute [local go_sem] max2_int min2_int max_two min_two max_three min_three max_four min_four   -- for this text's walks alone
set_option linter.unusedVariables false
set_option linter.unusedSimpArgs false

/-! ### spec_loAnew: function 41 -/
mutual
def spec_loAnew.l0 : Nat → ByteArray → ByteArray → ByteArray → Int → Option (ByteArray)
  | 0, _, _, _, _ => none
  | k + 1, x0, x3, x4, x5 => if x5 < (x0.size : Int) then (spec_loAnew.l1 k x0 x3 x4 x5 (-1) 0) else (some x4)
def spec_loAnew.l1 : Nat → ByteArray → ByteArray → ByteArray → Int → Int → Int → Option (ByteArray)
  | 0, _, _, _, _, _, _ => none
  | k + 1, x0, x3, x4, x5, x6, x7 => if x7 < (x3.size : Int) then (if 0 ≤ x7 then (if 0 ≤ x5 then (if x5 < (x0.size : Int) then (if (bt x3 x7) = (bt x0 x5) then (spec_loAnew.l1 k x0 x3 x4 x5 x7 (wrap64 (x7 + 1))) else (spec_loAnew.l1 k x0 x3 x4 x5 x6 (wrap64 (x7 + 1)))) else (none)) else (none)) else (none)) else (if x6 < 0 then (if 0 ≤ x5 then (if x5 ≤ (wrap64 (x5 + 1)) then (if (wrap64 (x5 + 1)) ≤ (x0.size : Int) then (if x3.size + (x0.extract (x5 : Int).toNat ((wrap64 (x5 + 1)) : Int).toNat).size ≤ 9223372036854775807 then (if 0 ≤ (x3.size : Int) then (if (x3.size : Int) ≤ (wrap64 ((x3.size : Int) + 1)) then (if (wrap64 ((x3.size : Int) + 1)) ≤ 16 then (if x4.size + ((⟨#[97, 98, 99, 100, 101, 102, 103, 104, 105, 106, 107, 108, 109, 110, 111, 112]⟩ : ByteArray).extract ((x3.size : Int) : Int).toNat ((wrap64 ((x3.size : Int) + 1)) : Int).toNat).size ≤ 9223372036854775807 then (spec_loAnew.l0 k x0 (x3 ++ (x0.extract (x5 : Int).toNat ((wrap64 (x5 + 1)) : Int).toNat)) (x4 ++ ((⟨#[97, 98, 99, 100, 101, 102, 103, 104, 105, 106, 107, 108, 109, 110, 111, 112]⟩ : ByteArray).extract ((x3.size : Int) : Int).toNat ((wrap64 ((x3.size : Int) + 1)) : Int).toNat)) (wrap64 (x5 + 1))) else (none)) else (none)) else (none)) else (none)) else (none)) else (none)) else (none)) else (none)) else (if 0 ≤ x6 then (if x6 ≤ (wrap64 (x6 + 1)) then (if (wrap64 (x6 + 1)) ≤ 16 then (if x4.size + ((⟨#[97, 98, 99, 100, 101, 102, 103, 104, 105, 106, 107, 108, 109, 110, 111, 112]⟩ : ByteArray).extract (x6 : Int).toNat ((wrap64 (x6 + 1)) : Int).toNat).size ≤ 9223372036854775807 then (spec_loAnew.l0 k x0 x3 (x4 ++ ((⟨#[97, 98, 99, 100, 101, 102, 103, 104, 105, 106, 107, 108, 109, 110, 111, 112]⟩ : ByteArray).extract (x6 : Int).toNat ((wrap64 (x6 + 1)) : Int).toNat)) (wrap64 (x5 + 1))) else (none)) else (none)) else (none)) else (none)))
end
def spec_loAnew.f (k : Nat) (a0 : ByteArray) : Option (ByteArray) := spec_loAnew.l0 k a0 (⟨#[]⟩ : ByteArray) (⟨#[]⟩ : ByteArray) 0
theorem spec_loAnew.mono_l : ∀ k, (∀ y0 y1 y2 y3, LeO (spec_loAnew.l0 k y0 y1 y2 y3) (spec_loAnew.l0 (k + 1) y0 y1 y2 y3)) ∧ (∀ y0 y1 y2 y3 y4 y5, LeO (spec_loAnew.l1 k y0 y1 y2 y3 y4 y5) (spec_loAnew.l1 (k + 1) y0 y1 y2 y3 y4 y5))
  | 0 => ⟨fun _ _ _ _ r h => by simp [spec_loAnew.l0] at h, fun _ _ _ _ _ _ r h => by simp [spec_loAnew.l1] at h⟩
  | k + 1 => by
    obtain ⟨ih0, ih1⟩ := spec_loAnew.mono_l k
    refine ⟨?_, ?_⟩
    · intro y0 y1 y2 y3
      unfold spec_loAnew.l0
      repeat' first
      | (with_reducible exact ih0 _ _ _ _)
      | (with_reducible exact ih1 _ _ _ _ _ _)
      | (with_reducible exact LeO.refl _)
      | (with_reducible exact LeO.none _)
      | (with_reducible refine LeO.ite ?_ ?_)
      | (with_reducible refine LeO.bind ?_ (fun _ => ?_))
      | exact ih0 _ _ _ _
      | exact ih1 _ _ _ _ _ _
      | exact LeO.none _
      | refine LeO.ite ?_ ?_
      | refine LeO.bind ?_ (fun _ => ?_)
    · intro y0 y1 y2 y3 y4 y5
      unfold spec_loAnew.l1
      repeat' first
      | (with_reducible exact ih0 _ _ _ _)
      | (with_reducible exact ih1 _ _ _ _ _ _)
      | (with_reducible exact LeO.refl _)
      | (with_reducible exact LeO.none _)
      | (with_reducible refine LeO.ite ?_ ?_)
      | (with_reducible refine LeO.bind ?_ (fun _ => ?_))
      | exact ih0 _ _ _ _
      | exact ih1 _ _ _ _ _ _
      | exact LeO.none _
      | refine LeO.ite ?_ ?_
      | refine LeO.bind ?_ (fun _ => ?_)
theorem spec_loAnew.mono : ∀ a0 k, LeO (spec_loAnew.f k a0) (spec_loAnew.f (k + 1) a0) := by
  intro a0 k
  obtain ⟨ih0, ih1⟩ := spec_loAnew.mono_l k
  unfold spec_loAnew.f
  repeat' first
      | (with_reducible exact ih0 _ _ _ _)
      | (with_reducible exact ih1 _ _ _ _ _ _)
      | (with_reducible exact LeO.refl _)
      | (with_reducible exact LeO.none _)
      | (with_reducible refine LeO.ite ?_ ?_)
      | (with_reducible refine LeO.bind ?_ (fun _ => ?_))
      | exact ih0 _ _ _ _
      | exact ih1 _ _ _ _ _ _
      | exact LeO.none _
      | refine LeO.ite ?_ ?_
      | refine LeO.bind ?_ (fun _ => ?_)
set_option maxHeartbeats 8000000 in
set_option maxRecDepth 100000 in
theorem spec_loAnew.calls (k : Nat) (a0 : ByteArray) (r : ByteArray) (w : World) (h : spec_loAnew.f k a0 = some r) :
    Calls Tryd.prog 41 #[.string a0] w fun e w' => e = .returned (.string r) ∧ Drawn0 w w' := by
  have H : (spec_loAnew.l0 k a0 (⟨#[]⟩ : ByteArray) (⟨#[]⟩ : ByteArray) 0) = some r := h
  clear h
  have H' := Aside0.mk H
  clear H
  go_enter Tryd.func41, Tryd.ntmps41
  go_wp2
  repeat (go_quiet (fail); try go_wp2)
  go_loopg [3, 4, 5] k (fun kq v3 v4 v5 w' => ∃ (x3_1 : ByteArray) (x4_1 : ByteArray) (x5_1 : Int), v3 = .string x3_1 ∧ v4 = .string x4_1 ∧ v5 = .int .i64 x5_1 ∧ Aside0 (spec_loAnew.l0 kq a0 x3_1 x4_1 x5_1 = some r) ∧ Aside0 (kq ≤ k) ∧ Drawn0 w w')
  case atStart => exact ⟨((⟨#[]⟩ : ByteArray)), ((⟨#[]⟩ : ByteArray)), (0), (by first | rfl | (simp; done) | (simp [*]; done)), (by first | rfl | (simp; done) | (simp [*]; done)), (by first | rfl | (simp; done) | (simp [*]; done)), H', ⟨Nat.le_refl _⟩, by repeat (first | exact Drawn0.refl _ | apply Drawn0.step)⟩
  case round =>
    clear H'
    obtain ⟨x3_1, x4_1, x5_1, rfl, rfl, rfl, HA, HK1, ⟨m1, rfl⟩⟩ := hrel
    cases gk with
    | zero => exact absurd HA.out (by simp [spec_loAnew.l0])
    | succ k1 =>
      have H := HA.out
      clear HA
      simp only [spec_loAnew.l0] at H
      by_cases c2 : x5_1 < (a0.size : Int)
      · rw [if_pos c2] at H
        have c2b0 : decide (x5_1 < (a0.size : Int)) = true := decide_eq_true c2
        clear c2
        have H' := Aside0.mk H
        clear H
        go_wp2
        repeat (go_quiet (fail); try go_wp2)
        go_loopg [6, 7] k1 (fun kq v6 v7 w' => ∃ (x6_2 : Int) (x7_2 : Int), v6 = .int .i64 x6_2 ∧ v7 = .int .i64 x7_2 ∧ Aside0 (spec_loAnew.l1 kq a0 x3_1 x4_1 x5_1 x6_2 x7_2 = some r) ∧ Aside0 (kq ≤ k1) ∧ Drawn0 w w')
        case atStart => exact ⟨((-1)), (0), (by first | rfl | (simp; done) | (simp [*]; done)), (by first | rfl | (simp; done) | (simp [*]; done)), H', ⟨Nat.le_refl _⟩, by repeat (first | exact Drawn0.refl _ | apply Drawn0.step)⟩
        case round =>
          clear H'
          try clear c2
          try clear c2b0
          try clear p2
          obtain ⟨x6_2, x7_2, rfl, rfl, HA, HK2, ⟨m2, rfl⟩⟩ := hrel
          cases gk with
          | zero => exact absurd HA.out (by simp [spec_loAnew.l1])
          | succ k2 =>
            have H := HA.out
            clear HA
            simp only [spec_loAnew.l1] at H
            by_cases c3 : x7_2 < (x3_1.size : Int)
            · rw [if_pos c3] at H
              have c3b0 : decide (x7_2 < (x3_1.size : Int)) = true := decide_eq_true c3
              clear c3
              by_cases c4 : 0 ≤ x7_2
              · rw [if_pos c4] at H
                have c4b0 : decide (0 ≤ x7_2) = true := decide_eq_true c4
                clear c4
                by_cases c6 : 0 ≤ x5_1
                · rw [if_pos c6] at H
                  have c6b0 : decide (0 ≤ x5_1) = true := decide_eq_true c6
                  clear c6
                  by_cases c7 : x5_1 < (a0.size : Int)
                  · rw [if_pos c7] at H
                    have c7b0 : decide (x5_1 < (a0.size : Int)) = true := decide_eq_true c7
                    clear c7
                    by_cases c9 : (bt x3_1 x7_2) = (bt a0 x5_1)
                    · rw [if_pos c9] at H
                      have c9b0 : ((bt x3_1 x7_2) == (bt a0 x5_1)) = true := beq_iff_eq.mpr c9
                      have c9b1 : ((bt x3_1 x7_2) != (bt a0 x5_1)) = false := bne_eq_false_iff_eq.mpr c9
                      clear c9
                      have H' := Aside0.mk H
                      clear H
                      have p5 : 0 ≤ (x7_2 : Int) := of_decide_eq_true (by first | (with_reducible assumption) | assumption)
                      have q5 : x7_2 < (x3_1.size : Int) := of_decide_eq_true (by first | (with_reducible assumption) | assumption)
                      have hx5 := bt_at x3_1 x7_2
                      replace p5 := eq_true p5
                      replace q5 := eq_true q5
                      have p8 : 0 ≤ (x5_1 : Int) := of_decide_eq_true (by first | (with_reducible assumption) | assumption)
                      have q8 : x5_1 < (a0.size : Int) := of_decide_eq_true (by first | (with_reducible assumption) | assumption)
                      have hx8 := bt_at a0 x5_1
                      replace p8 := eq_true p8
                      replace q8 := eq_true q8
                      go_wp2
                      repeat (go_quiet (fail); try go_wp2)
                      go_roundg k2
                      case measure => have := HK1.out; have := HK2.out; omega
                      case rel => exact ⟨(x7_2), (wrap64 (x7_2 + 1)), (by first | rfl | (simp; done) | (simp [*]; done)), (by first | rfl | (simp; done) | (simp [*]; done)), H', ⟨by have := HK1.out; have := HK2.out; omega⟩, by repeat (first | exact Drawn0.refl _ | apply Drawn0.step)⟩
                    · rw [if_neg c9] at H
                      have c9b0 : ((bt x3_1 x7_2) == (bt a0 x5_1)) = false := beq_eq_false_iff_ne.mpr c9
                      have c9b1 : ((bt x3_1 x7_2) != (bt a0 x5_1)) = true := bne_iff_ne.mpr c9
                      have H' := Aside0.mk H
                      clear H
                      have p5 : 0 ≤ (x7_2 : Int) := of_decide_eq_true (by first | (with_reducible assumption) | assumption)
                      have q5 : x7_2 < (x3_1.size : Int) := of_decide_eq_true (by first | (with_reducible assumption) | assumption)
                      have hx5 := bt_at x3_1 x7_2
                      replace p5 := eq_true p5
                      replace q5 := eq_true q5
                      have p8 : 0 ≤ (x5_1 : Int) := of_decide_eq_true (by first | (with_reducible assumption) | assumption)
                      have q8 : x5_1 < (a0.size : Int) := of_decide_eq_true (by first | (with_reducible assumption) | assumption)
                      have hx8 := bt_at a0 x5_1
                      replace p8 := eq_true p8
                      replace q8 := eq_true q8
                      go_wp2
                      repeat (go_quiet (fail); try go_wp2)
                      go_roundg k2
                      case measure => have := HK1.out; have := HK2.out; omega
                      case rel => exact ⟨(x6_2), (wrap64 (x7_2 + 1)), (by first | rfl | (simp; done) | (simp [*]; done)), (by first | rfl | (simp; done) | (simp [*]; done)), H', ⟨by have := HK1.out; have := HK2.out; omega⟩, by repeat (first | exact Drawn0.refl _ | apply Drawn0.step)⟩
                  · rw [if_neg c7] at H
                    exact absurd H (by simp)
                · rw [if_neg c6] at H
                  exact absurd H (by simp)
              · rw [if_neg c4] at H
                exact absurd H (by simp)
            · rw [if_neg c3] at H
              have c3b0 : decide (x7_2 < (x3_1.size : Int)) = false := decide_eq_false c3
              clear c3
              by_cases c10 : x6_2 < 0
              · rw [if_pos c10] at H
                have c10b0 : decide (x6_2 < 0) = true := decide_eq_true c10
                clear c10
                by_cases c11 : 0 ≤ x5_1
                · rw [if_pos c11] at H
                  have c11b0 := eq_true c11
                  have c11b1 : decide (0 ≤ x5_1) = true := decide_eq_true c11
                  clear c11
                  by_cases c12 : x5_1 ≤ (wrap64 (x5_1 + 1))
                  · rw [if_pos c12] at H
                    have c12b0 := eq_true c12
                    have c12b1 : decide (x5_1 ≤ (wrap64 (x5_1 + 1))) = true := decide_eq_true c12
                    by_cases c13 : (wrap64 (x5_1 + 1)) ≤ (a0.size : Int)
                    · rw [if_pos c13] at H
                      have c13b0 := eq_true c13
                      have c13b1 : decide ((wrap64 (x5_1 + 1)) ≤ (a0.size : Int)) = true := decide_eq_true c13
                      by_cases c14 : x3_1.size + (a0.extract (x5_1 : Int).toNat ((wrap64 (x5_1 + 1)) : Int).toNat).size ≤ 9223372036854775807
                      · rw [if_pos c14] at H
                        have c14b0 := eq_true c14
                        have c14b1 : decide (x3_1.size + (a0.extract (x5_1 : Int).toNat ((wrap64 (x5_1 + 1)) : Int).toNat).size ≤ 9223372036854775807) = true := decide_eq_true c14
                        try have c14b2 : (9223372036854775807 < x3_1.size + (a0.extract (x5_1 : Int).toNat ((wrap64 (x5_1 + 1)) : Int).toNat).size) = False := eq_false (Nat.not_lt.2 c14)
                        by_cases c15 : 0 ≤ (x3_1.size : Int)
                        · rw [if_pos c15] at H
                          have c15b0 := eq_true c15
                          have c15b1 : decide (0 ≤ (x3_1.size : Int)) = true := decide_eq_true c15
                          clear c15
                          by_cases c16 : (x3_1.size : Int) ≤ (wrap64 ((x3_1.size : Int) + 1))
                          · rw [if_pos c16] at H
                            have c16b0 := eq_true c16
                            have c16b1 : decide ((x3_1.size : Int) ≤ (wrap64 ((x3_1.size : Int) + 1))) = true := decide_eq_true c16
                            have hwc16_ : wrap64 ((x3_1.size : Int) + 1) = (x3_1.size : Int) + 1 := by clear H; unfold wrap64 at c16 ⊢; omega
                            by_cases c17 : (wrap64 ((x3_1.size : Int) + 1)) ≤ 16
                            · rw [if_pos c17] at H
                              have c17b0 := eq_true c17
                              have c17b1 : decide ((wrap64 ((x3_1.size : Int) + 1)) ≤ 16) = true := decide_eq_true c17
                              by_cases c18 : x4_1.size + ((⟨#[97, 98, 99, 100, 101, 102, 103, 104, 105, 106, 107, 108, 109, 110, 111, 112]⟩ : ByteArray).extract ((x3_1.size : Int) : Int).toNat ((wrap64 ((x3_1.size : Int) + 1)) : Int).toNat).size ≤ 9223372036854775807
                              · rw [if_pos c18] at H
                                have c18b0 := eq_true c18
                                have c18b1 : decide (x4_1.size + ((⟨#[97, 98, 99, 100, 101, 102, 103, 104, 105, 106, 107, 108, 109, 110, 111, 112]⟩ : ByteArray).extract ((x3_1.size : Int) : Int).toNat ((wrap64 ((x3_1.size : Int) + 1)) : Int).toNat).size ≤ 9223372036854775807) = true := decide_eq_true c18
                                try have c18b2 : (9223372036854775807 < x4_1.size + ((⟨#[97, 98, 99, 100, 101, 102, 103, 104, 105, 106, 107, 108, 109, 110, 111, 112]⟩ : ByteArray).extract ((x3_1.size : Int) : Int).toNat ((wrap64 ((x3_1.size : Int) + 1)) : Int).toNat).size) = False := eq_false (Nat.not_lt.2 c18)
                                try have c18b3 : (9223372036854775807 < x4_1.size + (min (x3_1.size + 1) 16 - x3_1.size)) = False := eq_false (by have h1_ := c18; simp only [hwc16_, Int.toNat_natCast, Int.toNat_natCast_add_one, ByteArray.size_extract] at h1_; exact Nat.not_lt.2 h1_)
                                try simp only [hwc16_, Int.toNat_natCast, Int.toNat_natCast_add_one] at c16b0
                                try simp only [hwc16_, Int.toNat_natCast, Int.toNat_natCast_add_one] at c16b1
                                try simp only [hwc16_, Int.toNat_natCast, Int.toNat_natCast_add_one] at c17b0
                                try simp only [hwc16_, Int.toNat_natCast, Int.toNat_natCast_add_one] at c17b1
                                try simp only [hwc16_, Int.toNat_natCast, Int.toNat_natCast_add_one] at c18b0
                                try simp only [hwc16_, Int.toNat_natCast, Int.toNat_natCast_add_one] at c18b1
                                try simp only [hwc16_, Int.toNat_natCast, Int.toNat_natCast_add_one] at c18b2
                                have H' := Aside0.mk H
                                clear H
                                go_wp2
                                repeat (go_quiet (fail); try go_wp2)
                                go_roundg k2
                                case measure => have := HK1.out; have := HK2.out; omega
                                case rel => exact ⟨(x3_1 ++ (a0.extract (x5_1 : Int).toNat ((wrap64 (x5_1 + 1)) : Int).toNat)), (x4_1 ++ ((⟨#[97, 98, 99, 100, 101, 102, 103, 104, 105, 106, 107, 108, 109, 110, 111, 112]⟩ : ByteArray).extract ((x3_1.size : Int) : Int).toNat ((wrap64 ((x3_1.size : Int) + 1)) : Int).toNat)), (wrap64 (x5_1 + 1)), (by first | rfl | (simp; done) | (simp [*]; done)), (by first | rfl | (simp; done) | (simp [*]; done)), (by first | rfl | (simp; done) | (simp [*]; done)), H', ⟨by have := HK1.out; have := HK2.out; omega⟩, by repeat (first | exact Drawn0.refl _ | apply Drawn0.step)⟩
                              · rw [if_neg c18] at H
                                exact absurd H (by simp)
                            · rw [if_neg c17] at H
                              exact absurd H (by simp)
                          · rw [if_neg c16] at H
                            exact absurd H (by simp)
                        · rw [if_neg c15] at H
                          exact absurd H (by simp)
                      · rw [if_neg c14] at H
                        exact absurd H (by simp)
                    · rw [if_neg c13] at H
                      exact absurd H (by simp)
                  · rw [if_neg c12] at H
                    exact absurd H (by simp)
                · rw [if_neg c11] at H
                  exact absurd H (by simp)
              · rw [if_neg c10] at H
                have c10b0 : decide (x6_2 < 0) = false := decide_eq_false c10
                clear c10
                by_cases c19 : 0 ≤ x6_2
                · rw [if_pos c19] at H
                  have c19b0 := eq_true c19
                  have c19b1 : decide (0 ≤ x6_2) = true := decide_eq_true c19
                  clear c19
                  by_cases c20 : x6_2 ≤ (wrap64 (x6_2 + 1))
                  · rw [if_pos c20] at H
                    have c20b0 := eq_true c20
                    have c20b1 : decide (x6_2 ≤ (wrap64 (x6_2 + 1))) = true := decide_eq_true c20
                    by_cases c21 : (wrap64 (x6_2 + 1)) ≤ 16
                    · rw [if_pos c21] at H
                      have c21b0 := eq_true c21
                      have c21b1 : decide ((wrap64 (x6_2 + 1)) ≤ 16) = true := decide_eq_true c21
                      by_cases c22 : x4_1.size + ((⟨#[97, 98, 99, 100, 101, 102, 103, 104, 105, 106, 107, 108, 109, 110, 111, 112]⟩ : ByteArray).extract (x6_2 : Int).toNat ((wrap64 (x6_2 + 1)) : Int).toNat).size ≤ 9223372036854775807
                      · rw [if_pos c22] at H
                        have c22b0 := eq_true c22
                        have c22b1 : decide (x4_1.size + ((⟨#[97, 98, 99, 100, 101, 102, 103, 104, 105, 106, 107, 108, 109, 110, 111, 112]⟩ : ByteArray).extract (x6_2 : Int).toNat ((wrap64 (x6_2 + 1)) : Int).toNat).size ≤ 9223372036854775807) = true := decide_eq_true c22
                        try have c22b2 : (9223372036854775807 < x4_1.size + ((⟨#[97, 98, 99, 100, 101, 102, 103, 104, 105, 106, 107, 108, 109, 110, 111, 112]⟩ : ByteArray).extract (x6_2 : Int).toNat ((wrap64 (x6_2 + 1)) : Int).toNat).size) = False := eq_false (Nat.not_lt.2 c22)
                        have H' := Aside0.mk H
                        clear H
                        go_wp2
                        repeat (go_quiet (fail); try go_wp2)
                        go_roundg k2
                        case measure => have := HK1.out; have := HK2.out; omega
                        case rel => exact ⟨(x3_1), (x4_1 ++ ((⟨#[97, 98, 99, 100, 101, 102, 103, 104, 105, 106, 107, 108, 109, 110, 111, 112]⟩ : ByteArray).extract (x6_2 : Int).toNat ((wrap64 (x6_2 + 1)) : Int).toNat)), (wrap64 (x5_1 + 1)), (by first | rfl | (simp; done) | (simp [*]; done)), (by first | rfl | (simp; done) | (simp [*]; done)), (by first | rfl | (simp; done) | (simp [*]; done)), H', ⟨by have := HK1.out; have := HK2.out; omega⟩, by repeat (first | exact Drawn0.refl _ | apply Drawn0.step)⟩
                      · rw [if_neg c22] at H
                        exact absurd H (by simp)
                    · rw [if_neg c21] at H
                      exact absurd H (by simp)
                  · rw [if_neg c20] at H
                    exact absurd H (by simp)
                · rw [if_neg c19] at H
                  exact absurd H (by simp)
      · rw [if_neg c2] at H
        have c2b0 : decide (x5_1 < (a0.size : Int)) = false := decide_eq_false c2
        clear c2
        obtain rfl := Option.some.inj H
        go_wp2
        repeat (go_quiet (fail); try go_wp2)
        go_ret
        exact ⟨by first | rfl | (simp; done) | (simp [*]; done), by repeat (first | exact Drawn0.refl _ | apply Drawn0.step)⟩

end Go.Proofs.YtgdpeabbmbclbaaDoor.Pr

-- Written by a program for this claim.
namespace Go.Proofs.YtgdpeabbmbclbaaDoor.Pr
open Go.RowKit Go.Proofs.YtgdpeabbmbclbaaDoorW.PrintWords Go.Proofs.YtgdpeabbmbclbaaDoorW.PrintLast Go.Proofs.YtgdpeabbmbclbaaDoorW.PrintMore
attribute [local go_sem] max2_int min2_int max_two min_two max_three min_three max_four min_four   -- for this text's walks alone
set_option linter.unusedVariables false
set_option linter.unusedSimpArgs false

/-! ### spec_loGood: function 33 -/
mutual
def spec_loGood.j0 : Nat → ByteArray → Bool → Option (Bool)
  | 0, _, _ => none
  | k + 1, x0, x14 => if x14 = true then (some false) else (spec_loGood.l0 k x0 0)
def spec_loGood.l0 : Nat → ByteArray → Int → Option (Bool)
  | 0, _, _ => none
  | k + 1, x0, x3 => if x3 < (x0.size : Int) then (spec_loGood.l1 k x0 x3 0 0) else ((spec_loAnew.f k x0).bind fun t114 => (some (t114.toList == x0.toList)))
def spec_loGood.l1 : Nat → ByteArray → Int → Int → Int → Option (Bool)
  | 0, _, _, _, _ => none
  | k + 1, x0, x3, x4, x5 => if x5 < (x0.size : Int) then (if 0 ≤ x5 then (if 0 ≤ x3 then (if x3 < (x0.size : Int) then (if (bt x0 x5) = (bt x0 x3) then (spec_loGood.l1 k x0 x3 (wrap64 (x4 + 1)) (wrap64 (x5 + 1))) else (spec_loGood.l1 k x0 x3 x4 (wrap64 (x5 + 1)))) else (none)) else (none)) else (none)) else (if x4 = 2 then (spec_loGood.l0 k x0 (wrap64 (x3 + 1))) else (some false))
end
def spec_loGood.f (k : Nat) (a0 : ByteArray) : Option (Bool) := if (a0.size : Int) > 16 then (spec_loGood.j0 k a0 true) else (spec_loGood.j0 k a0 (((a0.size : Int) % 2) != 0))
theorem spec_loGood.mono_l : ∀ k, (∀ y0 y1, LeO (spec_loGood.j0 k y0 y1) (spec_loGood.j0 (k + 1) y0 y1)) ∧ (∀ y0 y1, LeO (spec_loGood.l0 k y0 y1) (spec_loGood.l0 (k + 1) y0 y1)) ∧ (∀ y0 y1 y2 y3, LeO (spec_loGood.l1 k y0 y1 y2 y3) (spec_loGood.l1 (k + 1) y0 y1 y2 y3))
  | 0 => ⟨fun _ _ r h => by simp [spec_loGood.j0] at h, fun _ _ r h => by simp [spec_loGood.l0] at h, fun _ _ _ _ r h => by simp [spec_loGood.l1] at h⟩
  | k + 1 => by
    obtain ⟨ih0, ih1, ih2⟩ := spec_loGood.mono_l k
    refine ⟨?_, ?_, ?_⟩
    · intro y0 y1
      unfold spec_loGood.j0
      repeat' first
      | (with_reducible exact ih0 _ _)
      | (with_reducible exact ih1 _ _)
      | (with_reducible exact ih2 _ _ _ _)
      | (with_reducible exact spec_loAnew.mono _ _)
      | (with_reducible exact LeO.refl _)
      | (with_reducible exact LeO.none _)
      | (with_reducible refine LeO.ite ?_ ?_)
      | (with_reducible refine LeO.bind ?_ (fun _ => ?_))
      | exact ih0 _ _
      | exact ih1 _ _
      | exact ih2 _ _ _ _
      | exact spec_loAnew.mono _ _
      | exact LeO.none _
      | refine LeO.ite ?_ ?_
      | refine LeO.bind ?_ (fun _ => ?_)
    · intro y0 y1
      unfold spec_loGood.l0
      repeat' first
      | (with_reducible exact ih0 _ _)
      | (with_reducible exact ih1 _ _)
      | (with_reducible exact ih2 _ _ _ _)
      | (with_reducible exact spec_loAnew.mono _ _)
      | (with_reducible exact LeO.refl _)
      | (with_reducible exact LeO.none _)
      | (with_reducible refine LeO.ite ?_ ?_)
      | (with_reducible refine LeO.bind ?_ (fun _ => ?_))
      | exact ih0 _ _
      | exact ih1 _ _
      | exact ih2 _ _ _ _
      | exact spec_loAnew.mono _ _
      | exact LeO.none _
      | refine LeO.ite ?_ ?_
      | refine LeO.bind ?_ (fun _ => ?_)
    · intro y0 y1 y2 y3
      unfold spec_loGood.l1
      repeat' first
      | (with_reducible exact ih0 _ _)
      | (with_reducible exact ih1 _ _)
      | (with_reducible exact ih2 _ _ _ _)
      | (with_reducible exact spec_loAnew.mono _ _)
      | (with_reducible exact LeO.refl _)
      | (with_reducible exact LeO.none _)
      | (with_reducible refine LeO.ite ?_ ?_)
      | (with_reducible refine LeO.bind ?_ (fun _ => ?_))
      | exact ih0 _ _
      | exact ih1 _ _
      | exact ih2 _ _ _ _
      | exact spec_loAnew.mono _ _
      | exact LeO.none _
      | refine LeO.ite ?_ ?_
      | refine LeO.bind ?_ (fun _ => ?_)
theorem spec_loGood.mono : ∀ a0 k, LeO (spec_loGood.f k a0) (spec_loGood.f (k + 1) a0) := by
  intro a0 k
  obtain ⟨ih0, ih1, ih2⟩ := spec_loGood.mono_l k
  unfold spec_loGood.f
  repeat' first
      | (with_reducible exact ih0 _ _)
      | (with_reducible exact ih1 _ _)
      | (with_reducible exact ih2 _ _ _ _)
      | (with_reducible exact spec_loAnew.mono _ _)
      | (with_reducible exact LeO.refl _)
      | (with_reducible exact LeO.none _)
      | (with_reducible refine LeO.ite ?_ ?_)
      | (with_reducible refine LeO.bind ?_ (fun _ => ?_))
      | exact ih0 _ _
      | exact ih1 _ _
      | exact ih2 _ _ _ _
      | exact spec_loAnew.mono _ _
      | exact LeO.none _
      | refine LeO.ite ?_ ?_
      | refine LeO.bind ?_ (fun _ => ?_)
set_option maxHeartbeats 8000000 in
set_option maxRecDepth 100000 in
theorem spec_loGood.calls (k : Nat) (a0 : ByteArray) (r : Bool) (w : World) (h : spec_loGood.f k a0 = some r) :
    Calls Tryd.prog 33 #[.string a0] w fun e w' => e = .returned (.bool r) ∧ Drawn0 w w' := by
  have H : (if (a0.size : Int) > 16 then (spec_loGood.j0 k a0 true) else (spec_loGood.j0 k a0 (((a0.size : Int) % 2) != 0))) = some r := h
  clear h
  have HC2 := Aside0.mk H
  clear H
  go_enter Tryd.func33, Tryd.ntmps33
  go_upto_region 1 with (fail)
  repeat (go_quiet (fail); go_upto_region 1 with (fail))
  go_cut [14] (fun v14 wc => ∃ (kq : Nat) (x14_1 : Bool), v14 = .bool x14_1 ∧ Aside0 (spec_loGood.j0 kq a0 x14_1 = some r) ∧ Aside0 (kq ≤ k) ∧ Drawn0 w wc)
  case first =>
    have H := HC2.out
    clear HC2
    by_cases c3 : (a0.size : Int) > 16
    · rw [if_pos c3] at H
      have c3b0 : decide (16 < (a0.size : Int)) = true := decide_eq_true c3
      have c3b1 : decide (16 < a0.size) = true := decide_eq_true (by omega)
      clear c3
      (first | rw [c3b0] | (simp only [i64_w, i32_w]; rw [c3b0]) | skip)
      have H' := Aside0.mk H
      clear H
      go_wp2
      repeat (go_quiet (fail); try go_wp2)
      go_meet
      case rel => exact ⟨_, (true), (by first | rfl | (simp; done) | (simp [*]; done)), H', ⟨by first | omega | exact Nat.le_refl _⟩, by repeat (first | exact Drawn0.refl _ | apply Drawn0.step)⟩
    · rw [if_neg c3] at H
      have c3b0 : decide (16 < (a0.size : Int)) = false := decide_eq_false c3
      have c3b1 : decide (16 < a0.size) = false := decide_eq_false (by omega)
      clear c3
      (first | rw [c3b0] | (simp only [i64_w, i32_w]; rw [c3b0]) | skip)
      have H' := Aside0.mk H
      clear H
      go_wp2
      repeat (go_quiet (fail); try go_wp2)
      go_meet
      case rel => exact ⟨_, ((((a0.size : Int) % 2) != 0)), (by first | rfl | (simp; done) | (simp [*]; done)), H', ⟨by first | omega | exact Nat.le_refl _⟩, by repeat (first | exact Drawn0.refl _ | apply Drawn0.step)⟩
  case rest =>
    clear HC2
    try clear p2
    try clear c3
    try clear c3b0
    try clear c3b1
    obtain ⟨kq, x14_1, rfl, HA, HJ1, ⟨mc1, rfl⟩⟩ := hcut
    cases kq with
    | zero => exact absurd HA.out (by simp [spec_loGood.j0])
    | succ kj1 =>
      have H := HA.out
      clear HA
      simp only [spec_loGood.j0] at H
      by_cases c4 : x14_1 = true
      · subst c4
        have H1 : (some false) = some r := by rw [if_pos rfl] at H; exact H
        clear H
        have H := H1
        clear H1
        obtain rfl := Option.some.inj H
        go_wp2
        repeat (go_quiet (fail); try go_wp2)
        go_ret
        exact ⟨by first | rfl | (simp; done) | (simp [*]; done), by repeat (first | exact Drawn0.refl _ | apply Drawn0.step)⟩
      · replace c4 := Bool.eq_false_iff.mpr c4
        subst c4
        have H1 : (spec_loGood.l0 kj1 a0 0) = some r := by rw [if_neg (show ¬ (false = true) by decide)] at H; exact H
        clear H
        have H := H1
        clear H1
        have H' := Aside0.mk H
        clear H
        go_wp2
        repeat (go_quiet (fail); try go_wp2)
        go_loopg [3] kj1 (fun kq v3 w' => ∃ (x3_2 : Int), v3 = .int .i64 x3_2 ∧ Aside0 (spec_loGood.l0 kq a0 x3_2 = some r) ∧ Aside0 (kq ≤ kj1) ∧ Drawn0 w w')
        case atStart => exact ⟨(0), (by first | rfl | (simp; done) | (simp [*]; done)), H', ⟨Nat.le_refl _⟩, by repeat (first | exact Drawn0.refl _ | apply Drawn0.step)⟩
        case round =>
          clear H'
          try clear c1
          try clear p2
          try clear c3
          try clear c3b0
          try clear c3b1
          try clear c4
          try clear p2
          obtain ⟨x3_2, rfl, HA, HK2, ⟨m2, rfl⟩⟩ := hrel
          cases gk with
          | zero => exact absurd HA.out (by simp [spec_loGood.l0])
          | succ k2 =>
            have H := HA.out
            clear HA
            simp only [spec_loGood.l0] at H
            by_cases c5 : x3_2 < (a0.size : Int)
            · rw [if_pos c5] at H
              have c5b0 : decide (x3_2 < (a0.size : Int)) = true := decide_eq_true c5
              clear c5
              have H' := Aside0.mk H
              clear H
              go_wp2
              repeat (go_quiet (fail); try go_wp2)
              go_loopg [4, 5] k2 (fun kq v4 v5 w' => ∃ (x4_3 : Int) (x5_3 : Int), v4 = .int .i64 x4_3 ∧ v5 = .int .i64 x5_3 ∧ Aside0 (spec_loGood.l1 kq a0 x3_2 x4_3 x5_3 = some r) ∧ Aside0 (kq ≤ k2) ∧ Drawn0 w w')
              case atStart => exact ⟨(0), (0), (by first | rfl | (simp; done) | (simp [*]; done)), (by first | rfl | (simp; done) | (simp [*]; done)), H', ⟨Nat.le_refl _⟩, by repeat (first | exact Drawn0.refl _ | apply Drawn0.step)⟩
              case round =>
                clear H'
                try clear c1
                try clear p2
                try clear c3
                try clear c3b0
                try clear c3b1
                try clear c4
                try clear c5
                try clear c5b0
                try clear p2
                obtain ⟨x4_3, x5_3, rfl, rfl, HA, HK3, ⟨m3, rfl⟩⟩ := hrel
                cases gk with
                | zero => exact absurd HA.out (by simp [spec_loGood.l1])
                | succ k3 =>
                  have H := HA.out
                  clear HA
                  simp only [spec_loGood.l1] at H
                  by_cases c6 : x5_3 < (a0.size : Int)
                  · rw [if_pos c6] at H
                    have c6b0 : decide (x5_3 < (a0.size : Int)) = true := decide_eq_true c6
                    clear c6
                    by_cases c7 : 0 ≤ x5_3
                    · rw [if_pos c7] at H
                      have c7b0 : decide (0 ≤ x5_3) = true := decide_eq_true c7
                      clear c7
                      by_cases c9 : 0 ≤ x3_2
                      · rw [if_pos c9] at H
                        have c9b0 : decide (0 ≤ x3_2) = true := decide_eq_true c9
                        clear c9
                        by_cases c10 : x3_2 < (a0.size : Int)
                        · rw [if_pos c10] at H
                          have c10b0 : decide (x3_2 < (a0.size : Int)) = true := decide_eq_true c10
                          clear c10
                          by_cases c12 : (bt a0 x5_3) = (bt a0 x3_2)
                          · rw [if_pos c12] at H
                            have c12b0 : ((bt a0 x5_3) == (bt a0 x3_2)) = true := beq_iff_eq.mpr c12
                            have c12b1 : ((bt a0 x5_3) != (bt a0 x3_2)) = false := bne_eq_false_iff_eq.mpr c12
                            clear c12
                            have H' := Aside0.mk H
                            clear H
                            have p8 : 0 ≤ (x5_3 : Int) := of_decide_eq_true (by first | (with_reducible assumption) | assumption)
                            have q8 : x5_3 < (a0.size : Int) := of_decide_eq_true (by first | (with_reducible assumption) | assumption)
                            have hx8 := bt_at a0 x5_3
                            replace p8 := eq_true p8
                            replace q8 := eq_true q8
                            have p11 : 0 ≤ (x3_2 : Int) := of_decide_eq_true (by first | (with_reducible assumption) | assumption)
                            have q11 : x3_2 < (a0.size : Int) := of_decide_eq_true (by first | (with_reducible assumption) | assumption)
                            have hx11 := bt_at a0 x3_2
                            replace p11 := eq_true p11
                            replace q11 := eq_true q11
                            go_wp2
                            repeat (go_quiet (fail); try go_wp2)
                            go_roundg k3
                            case measure => have := HJ1.out; have := HK2.out; have := HK3.out; omega
                            case rel => exact ⟨(wrap64 (x4_3 + 1)), (wrap64 (x5_3 + 1)), (by first | rfl | (simp; done) | (simp [*]; done)), (by first | rfl | (simp; done) | (simp [*]; done)), H', ⟨by have := HJ1.out; have := HK2.out; have := HK3.out; omega⟩, by repeat (first | exact Drawn0.refl _ | apply Drawn0.step)⟩
                          · rw [if_neg c12] at H
                            have c12b0 : ((bt a0 x5_3) == (bt a0 x3_2)) = false := beq_eq_false_iff_ne.mpr c12
                            have c12b1 : ((bt a0 x5_3) != (bt a0 x3_2)) = true := bne_iff_ne.mpr c12
                            have H' := Aside0.mk H
                            clear H
                            have p8 : 0 ≤ (x5_3 : Int) := of_decide_eq_true (by first | (with_reducible assumption) | assumption)
                            have q8 : x5_3 < (a0.size : Int) := of_decide_eq_true (by first | (with_reducible assumption) | assumption)
                            have hx8 := bt_at a0 x5_3
                            replace p8 := eq_true p8
                            replace q8 := eq_true q8
                            have p11 : 0 ≤ (x3_2 : Int) := of_decide_eq_true (by first | (with_reducible assumption) | assumption)
                            have q11 : x3_2 < (a0.size : Int) := of_decide_eq_true (by first | (with_reducible assumption) | assumption)
                            have hx11 := bt_at a0 x3_2
                            replace p11 := eq_true p11
                            replace q11 := eq_true q11
                            go_wp2
                            repeat (go_quiet (fail); try go_wp2)
                            go_roundg k3
                            case measure => have := HJ1.out; have := HK2.out; have := HK3.out; omega
                            case rel => exact ⟨(x4_3), (wrap64 (x5_3 + 1)), (by first | rfl | (simp; done) | (simp [*]; done)), (by first | rfl | (simp; done) | (simp [*]; done)), H', ⟨by have := HJ1.out; have := HK2.out; have := HK3.out; omega⟩, by repeat (first | exact Drawn0.refl _ | apply Drawn0.step)⟩
                        · rw [if_neg c10] at H
                          exact absurd H (by simp)
                      · rw [if_neg c9] at H
                        exact absurd H (by simp)
                    · rw [if_neg c7] at H
                      exact absurd H (by simp)
                  · rw [if_neg c6] at H
                    have c6b0 : decide (x5_3 < (a0.size : Int)) = false := decide_eq_false c6
                    clear c6
                    by_cases c13 : x4_3 = 2
                    · rw [if_pos c13] at H
                      have c13b0 : (x4_3 == 2) = true := beq_iff_eq.mpr c13
                      have c13b1 : (x4_3 != 2) = false := bne_eq_false_iff_eq.mpr c13
                      clear c13
                      have H' := Aside0.mk H
                      clear H
                      go_wp2
                      repeat (go_quiet (fail); try go_wp2)
                      go_roundg k3
                      case measure => have := HJ1.out; have := HK2.out; have := HK3.out; omega
                      case rel => exact ⟨(wrap64 (x3_2 + 1)), (by first | rfl | (simp; done) | (simp [*]; done)), H', ⟨by have := HJ1.out; have := HK2.out; have := HK3.out; omega⟩, by repeat (first | exact Drawn0.refl _ | apply Drawn0.step)⟩
                    · rw [if_neg c13] at H
                      have c13b0 : (x4_3 == 2) = false := beq_eq_false_iff_ne.mpr c13
                      have c13b1 : (x4_3 != 2) = true := bne_iff_ne.mpr c13
                      obtain rfl := Option.some.inj H
                      go_wp2
                      repeat (go_quiet (fail); try go_wp2)
                      go_ret
                      exact ⟨by first | rfl | (simp; done) | (simp [*]; done), by repeat (first | exact Drawn0.refl _ | apply Drawn0.step)⟩
            · rw [if_neg c5] at H
              have c5b0 : decide (x3_2 < (a0.size : Int)) = false := decide_eq_false c5
              clear c5
              replace H := Option.bind_eq_some_iff.mp H
              obtain ⟨t114, A140, H⟩ := H
              replace H : (some (t114.toList == a0.toList)) = some r := H
              have A14 := Aside0.mk A140
              clear A140
              obtain rfl := Option.some.inj H
              go_wp2_with (first | (go_at_call 41; (with_reducible refine (spec_loAnew.calls k2 a0 t114 _ A14.out).mono ?_); rintro e w' ⟨rfl, ⟨nd, rfl⟩⟩; (try first | exact ⟨rfl, _, World.drewN_drewN _ _ _⟩ | exact ⟨rfl, _, Eq.trans (World.drewN_drewN _ _ _) (congrArg (World.drewN _) (Nat.add_assoc _ _ _))⟩)))
              repeat (go_quiet (first | (go_at_call 41; (with_reducible refine (spec_loAnew.calls k2 a0 t114 _ A14.out).mono ?_); rintro e w' ⟨rfl, ⟨nd, rfl⟩⟩; (try first | exact ⟨rfl, _, World.drewN_drewN _ _ _⟩ | exact ⟨rfl, _, Eq.trans (World.drewN_drewN _ _ _) (congrArg (World.drewN _) (Nat.add_assoc _ _ _))⟩))); try go_wp2_with (first | (go_at_call 41; (with_reducible refine (spec_loAnew.calls k2 a0 t114 _ A14.out).mono ?_); rintro e w' ⟨rfl, ⟨nd, rfl⟩⟩; (try first | exact ⟨rfl, _, World.drewN_drewN _ _ _⟩ | exact ⟨rfl, _, Eq.trans (World.drewN_drewN _ _ _) (congrArg (World.drewN _) (Nat.add_assoc _ _ _))⟩))))
              go_ret
              exact ⟨by first | rfl | (simp; done) | (simp [*]; done), by repeat (first | exact Drawn0.refl _ | apply Drawn0.step)⟩

end Go.Proofs.YtgdpeabbmbclbaaDoor.Pr

-- Written by a program for this claim.
namespace Go.Proofs.YtgdpeabbmbclbaaDoor.Pr
open Go.RowKit Go.Proofs.YtgdpeabbmbclbaaDoorW.PrintWords Go.Proofs.YtgdpeabbmbclbaaDoorW.PrintLast Go.Proofs.YtgdpeabbmbclbaaDoorW.PrintMore
attribute [local go_sem] max2_int min2_int max_two min_two max_three min_three max_four min_four   -- for this text's walks alone
set_option linter.unusedVariables false
set_option linter.unusedSimpArgs false

/-! ### spec_JoinLoops: function 19 -/
mutual
def spec_JoinLoops.j0 : Nat → ByteArray → ByteArray → Bool → Option (ByteArray × Bool)
  | 0, _, _, _ => none
  | k + 1, x0, x1, x24 => if x24 = true then (some ((⟨#[]⟩ : ByteArray), false)) else (spec_JoinLoops.l0 k x0 x1 x0 0)
def spec_JoinLoops.l0 : Nat → ByteArray → ByteArray → ByteArray → Int → Option (ByteArray × Bool)
  | 0, _, _, _, _ => none
  | k + 1, x0, x1, x6, x7 => if x7 < (x1.size : Int) then (if 0 ≤ x7 then (if 0 ≤ (wrap64 ((((bt x1 x7) - 97) % 256) + (wrap64 ((x0.size : Int) / 2)))) then (if (wrap64 ((((bt x1 x7) - 97) % 256) + (wrap64 ((x0.size : Int) / 2)))) ≤ (wrap64 ((wrap64 ((((bt x1 x7) - 97) % 256) + (wrap64 ((x0.size : Int) / 2)))) + 1)) then (if (wrap64 ((wrap64 ((((bt x1 x7) - 97) % 256) + (wrap64 ((x0.size : Int) / 2)))) + 1)) ≤ 16 then (if x6.size + ((⟨#[97, 98, 99, 100, 101, 102, 103, 104, 105, 106, 107, 108, 109, 110, 111, 112]⟩ : ByteArray).extract ((wrap64 ((((bt x1 x7) - 97) % 256) + (wrap64 ((x0.size : Int) / 2)))) : Int).toNat ((wrap64 ((wrap64 ((((bt x1 x7) - 97) % 256) + (wrap64 ((x0.size : Int) / 2)))) + 1)) : Int).toNat).size ≤ 9223372036854775807 then (spec_JoinLoops.l0 k x0 x1 (x6 ++ ((⟨#[97, 98, 99, 100, 101, 102, 103, 104, 105, 106, 107, 108, 109, 110, 111, 112]⟩ : ByteArray).extract ((wrap64 ((((bt x1 x7) - 97) % 256) + (wrap64 ((x0.size : Int) / 2)))) : Int).toNat ((wrap64 ((wrap64 ((((bt x1 x7) - 97) % 256) + (wrap64 ((x0.size : Int) / 2)))) + 1)) : Int).toNat)) (wrap64 (x7 + 1))) else (none)) else (none)) else (none)) else (none)) else (none)) else (some (x6, true))
end
def spec_JoinLoops.f (k : Nat) (a0 : ByteArray) (a1 : ByteArray) : Option (ByteArray × Bool) := (spec_loGood.f k a0).bind fun t137 => (if t137 = true then ((spec_loGood.f k a1).bind fun t138 => (if t138 = true then (spec_JoinLoops.j0 k a0 a1 (decide ((wrap64 ((a0.size : Int) + (a1.size : Int))) > 16))) else (spec_JoinLoops.j0 k a0 a1 true))) else (spec_JoinLoops.j0 k a0 a1 true))
theorem spec_JoinLoops.mono_l : ∀ k, (∀ y0 y1 y2, LeO (spec_JoinLoops.j0 k y0 y1 y2) (spec_JoinLoops.j0 (k + 1) y0 y1 y2)) ∧ (∀ y0 y1 y2 y3, LeO (spec_JoinLoops.l0 k y0 y1 y2 y3) (spec_JoinLoops.l0 (k + 1) y0 y1 y2 y3))
  | 0 => ⟨fun _ _ _ r h => by simp [spec_JoinLoops.j0] at h, fun _ _ _ _ r h => by simp [spec_JoinLoops.l0] at h⟩
  | k + 1 => by
    obtain ⟨ih0, ih1⟩ := spec_JoinLoops.mono_l k
    refine ⟨?_, ?_⟩
    · intro y0 y1 y2
      unfold spec_JoinLoops.j0
      repeat' first
      | (with_reducible exact ih0 _ _ _)
      | (with_reducible exact ih1 _ _ _ _)
      | (with_reducible exact spec_loGood.mono _ _)
      | (with_reducible exact LeO.refl _)
      | (with_reducible exact LeO.none _)
      | (with_reducible refine LeO.ite ?_ ?_)
      | (with_reducible refine LeO.bind ?_ (fun _ => ?_))
      | exact ih0 _ _ _
      | exact ih1 _ _ _ _
      | exact spec_loGood.mono _ _
      | exact LeO.none _
      | refine LeO.ite ?_ ?_
      | refine LeO.bind ?_ (fun _ => ?_)
    · intro y0 y1 y2 y3
      unfold spec_JoinLoops.l0
      repeat' first
      | (with_reducible exact ih0 _ _ _)
      | (with_reducible exact ih1 _ _ _ _)
      | (with_reducible exact spec_loGood.mono _ _)
      | (with_reducible exact LeO.refl _)
      | (with_reducible exact LeO.none _)
      | (with_reducible refine LeO.ite ?_ ?_)
      | (with_reducible refine LeO.bind ?_ (fun _ => ?_))
      | exact ih0 _ _ _
      | exact ih1 _ _ _ _
      | exact spec_loGood.mono _ _
      | exact LeO.none _
      | refine LeO.ite ?_ ?_
      | refine LeO.bind ?_ (fun _ => ?_)
theorem spec_JoinLoops.mono : ∀ a0 a1 k, LeO (spec_JoinLoops.f k a0 a1) (spec_JoinLoops.f (k + 1) a0 a1) := by
  intro a0 a1 k
  obtain ⟨ih0, ih1⟩ := spec_JoinLoops.mono_l k
  unfold spec_JoinLoops.f
  repeat' first
      | (with_reducible exact ih0 _ _ _)
      | (with_reducible exact ih1 _ _ _ _)
      | (with_reducible exact spec_loGood.mono _ _)
      | (with_reducible exact LeO.refl _)
      | (with_reducible exact LeO.none _)
      | (with_reducible refine LeO.ite ?_ ?_)
      | (with_reducible refine LeO.bind ?_ (fun _ => ?_))
      | exact ih0 _ _ _
      | exact ih1 _ _ _ _
      | exact spec_loGood.mono _ _
      | exact LeO.none _
      | refine LeO.ite ?_ ?_
      | refine LeO.bind ?_ (fun _ => ?_)
set_option maxHeartbeats 8000000 in
set_option maxRecDepth 100000 in
theorem spec_JoinLoops.calls (k : Nat) (a0 : ByteArray) (a1 : ByteArray) (r1 : ByteArray) (r2 : Bool) (w : World) (h : spec_JoinLoops.f k a0 a1 = some (r1, r2)) :
    Calls Tryd.prog 19 #[.string a0, .string a1] w fun e w' => e = .returned (.tuple #[.string r1, .bool r2]) ∧ Drawn0 w w' := by
  have H : ((spec_loGood.f k a0).bind fun t137 => (if t137 = true then ((spec_loGood.f k a1).bind fun t138 => (if t138 = true then (spec_JoinLoops.j0 k a0 a1 (decide ((wrap64 ((a0.size : Int) + (a1.size : Int))) > 16))) else (spec_JoinLoops.j0 k a0 a1 true))) else (spec_JoinLoops.j0 k a0 a1 true))) = some (r1, r2) := h
  clear h
  have HC3 := Aside0.mk H
  clear H
  go_enter Tryd.func19, Tryd.ntmps19
  go_upto_region 1 with (fail)
  go_cut [24] (fun v24 wc => ∃ (kq : Nat) (x24_2 : Bool), v24 = .bool x24_2 ∧ Aside0 (spec_JoinLoops.j0 kq a0 a1 x24_2 = some (r1, r2)) ∧ Aside0 (kq ≤ k) ∧ Drawn0 w wc)
  case first =>
    have H := HC3.out
    clear HC3
    replace H := Option.bind_eq_some_iff.mp H
    obtain ⟨t137, A40, H⟩ := H
    replace H : (if t137 = true then ((spec_loGood.f k a1).bind fun t138 => (if t138 = true then (spec_JoinLoops.j0 k a0 a1 (decide ((wrap64 ((a0.size : Int) + (a1.size : Int))) > 16))) else (spec_JoinLoops.j0 k a0 a1 true))) else (spec_JoinLoops.j0 k a0 a1 true)) = some (r1, r2) := H
    have A4 := Aside0.mk A40
    clear A40
    by_cases c5 : t137 = true
    · subst c5
      have H1 : ((spec_loGood.f k a1).bind fun t138 => (if t138 = true then (spec_JoinLoops.j0 k a0 a1 (decide ((wrap64 ((a0.size : Int) + (a1.size : Int))) > 16))) else (spec_JoinLoops.j0 k a0 a1 true))) = some (r1, r2) := by rw [if_pos rfl] at H; exact H
      clear H
      have H := H1
      clear H1
      replace H := Option.bind_eq_some_iff.mp H
      obtain ⟨t138, A60, H⟩ := H
      replace H : (if t138 = true then (spec_JoinLoops.j0 k a0 a1 (decide ((wrap64 ((a0.size : Int) + (a1.size : Int))) > 16))) else (spec_JoinLoops.j0 k a0 a1 true)) = some (r1, r2) := H
      have A6 := Aside0.mk A60
      clear A60
      by_cases c7 : t138 = true
      · subst c7
        have H1 : (spec_JoinLoops.j0 k a0 a1 (decide ((wrap64 ((a0.size : Int) + (a1.size : Int))) > 16))) = some (r1, r2) := by rw [if_pos rfl] at H; exact H
        clear H
        have H := H1
        clear H1
        have H' := Aside0.mk H
        clear H
        go_wp2_with (first | ((with_reducible refine gate_callee (f := 33) rfl ?_); refine goesL_ (some 10) rfl rfl Tryd.func33 (by kernel_rfl) rfl #[.string a0] rfl (by (try simp only [List.map_toArray, List.map_cons, List.map_nil]); first | done | rfl | (simp only [List.length_drop, List.length_take]; rfl)) ?_; (with_reducible refine (spec_loGood.calls k a0 true _ A4.out).mono ?_); rintro e w' ⟨rfl, ⟨nd, rfl⟩⟩; refine ⟨_, rfl, ?_⟩) | (go_at_call 33; (with_reducible refine (spec_loGood.calls k a1 true _ A6.out).mono ?_); rintro e w' ⟨rfl, ⟨nd, rfl⟩⟩))
        go_meet
        case rel => exact ⟨_, (decide ((wrap64 ((a0.size : Int) + (a1.size : Int))) > 16)), (by first | rfl | (simp; done) | (simp [*]; done)), H', ⟨by first | omega | exact Nat.le_refl _⟩, by repeat (first | exact Drawn0.refl _ | apply Drawn0.step)⟩
      · replace c7 := Bool.eq_false_iff.mpr c7
        subst c7
        have H1 : (spec_JoinLoops.j0 k a0 a1 true) = some (r1, r2) := by rw [if_neg (show ¬ (false = true) by decide)] at H; exact H
        clear H
        have H := H1
        clear H1
        have H' := Aside0.mk H
        clear H
        go_wp2_with (first | ((with_reducible refine gate_callee (f := 33) rfl ?_); refine goesL_ (some 10) rfl rfl Tryd.func33 (by kernel_rfl) rfl #[.string a0] rfl (by (try simp only [List.map_toArray, List.map_cons, List.map_nil]); first | done | rfl | (simp only [List.length_drop, List.length_take]; rfl)) ?_; (with_reducible refine (spec_loGood.calls k a0 true _ A4.out).mono ?_); rintro e w' ⟨rfl, ⟨nd, rfl⟩⟩; refine ⟨_, rfl, ?_⟩) | (go_at_call 33; (with_reducible refine (spec_loGood.calls k a1 false _ A6.out).mono ?_); rintro e w' ⟨rfl, ⟨nd, rfl⟩⟩))
        go_meet
        case rel => exact ⟨_, (true), (by first | rfl | (simp; done) | (simp [*]; done)), H', ⟨by first | omega | exact Nat.le_refl _⟩, by repeat (first | exact Drawn0.refl _ | apply Drawn0.step)⟩
    · replace c5 := Bool.eq_false_iff.mpr c5
      subst c5
      have H1 : (spec_JoinLoops.j0 k a0 a1 true) = some (r1, r2) := by rw [if_neg (show ¬ (false = true) by decide)] at H; exact H
      clear H
      have H := H1
      clear H1
      have H' := Aside0.mk H
      clear H
      go_wp2_with (first | ((with_reducible refine gate_callee (f := 33) rfl ?_); refine goesL_ (some 10) rfl rfl Tryd.func33 (by kernel_rfl) rfl #[.string a0] rfl (by (try simp only [List.map_toArray, List.map_cons, List.map_nil]); first | done | rfl | (simp only [List.length_drop, List.length_take]; rfl)) ?_; (with_reducible refine (spec_loGood.calls k a0 false _ A4.out).mono ?_); rintro e w' ⟨rfl, ⟨nd, rfl⟩⟩; refine ⟨_, rfl, ?_⟩))
      go_meet
      case rel => exact ⟨_, (true), (by first | rfl | (simp; done) | (simp [*]; done)), H', ⟨by first | omega | exact Nat.le_refl _⟩, by repeat (first | exact Drawn0.refl _ | apply Drawn0.step)⟩
  case rest =>
    clear HC3
    try clear c1
    try clear p2
    try clear c3
    try clear c5
    try clear p6
    try clear c7
    obtain ⟨kq, x24_2, rfl, HA, HJ2, ⟨mc2, rfl⟩⟩ := hcut
    cases kq with
    | zero => exact absurd HA.out (by simp [spec_JoinLoops.j0])
    | succ kj2 =>
      have H := HA.out
      clear HA
      simp only [spec_JoinLoops.j0] at H
      by_cases c8 : x24_2 = true
      · subst c8
        have H1 : (some ((⟨#[]⟩ : ByteArray), false)) = some (r1, r2) := by rw [if_pos rfl] at H; exact H
        clear H
        have H := H1
        clear H1
        simp only [Option.some.injEq, Prod.mk.injEq] at H
        obtain ⟨rfl, rfl⟩ := H
        go_wp2
        go_ret2
        exact ⟨by first | rfl | (simp; done) | (simp [*]; done), by repeat (first | exact Drawn0.refl _ | apply Drawn0.step)⟩
      · replace c8 := Bool.eq_false_iff.mpr c8
        subst c8
        have H1 : (spec_JoinLoops.l0 kj2 a0 a1 a0 0) = some (r1, r2) := by rw [if_neg (show ¬ (false = true) by decide)] at H; exact H
        clear H
        have H := H1
        clear H1
        have H' := Aside0.mk H
        clear H
        go_wp2
        go_loopg [6, 7] kj2 (fun kq v6 v7 w' => ∃ (x6_2 : ByteArray) (x7_2 : Int), v6 = .string x6_2 ∧ v7 = .int .i64 x7_2 ∧ Aside0 (spec_JoinLoops.l0 kq a0 a1 x6_2 x7_2 = some (r1, r2)) ∧ Aside0 (kq ≤ kj2) ∧ Drawn0 w w')
        case atStart => exact ⟨(a0), (0), (by first | rfl | (simp; done) | (simp [*]; done)), (by first | rfl | (simp; done) | (simp [*]; done)), H', ⟨Nat.le_refl _⟩, by repeat (first | exact Drawn0.refl _ | apply Drawn0.step)⟩
        case round =>
          clear H'
          try clear c1
          try clear c2
          try clear p2
          try clear c3
          try clear c5
          try clear p6
          try clear c7
          try clear c8
          try clear p2
          try clear p6
          obtain ⟨x6_2, x7_2, rfl, rfl, HA, HK2, ⟨m2, rfl⟩⟩ := hrel
          cases gk with
          | zero => exact absurd HA.out (by simp [spec_JoinLoops.l0])
          | succ k2 =>
            have H := HA.out
            clear HA
            simp only [spec_JoinLoops.l0] at H
            by_cases c9 : x7_2 < (a1.size : Int)
            · rw [if_pos c9] at H
              have c9b0 : decide (x7_2 < (a1.size : Int)) = true := decide_eq_true c9
              clear c9
              by_cases c10 : 0 ≤ x7_2
              · rw [if_pos c10] at H
                have c10b0 : decide (0 ≤ x7_2) = true := decide_eq_true c10
                clear c10
                obtain ⟨ji12, hji12⟩ : ∃ j_ : Int, (wrap64 ((((bt a1 x7_2) - 97) % 256) + (wrap64 ((a0.size : Int) / 2)))) = j_ := ⟨_, rfl⟩
                replace H : (if 0 ≤ (ji12) then (if (ji12) ≤ (wrap64 ((ji12) + 1)) then (if (wrap64 ((ji12) + 1)) ≤ 16 then (if x6_2.size + ((⟨#[97, 98, 99, 100, 101, 102, 103, 104, 105, 106, 107, 108, 109, 110, 111, 112]⟩ : ByteArray).extract ((ji12) : Int).toNat ((wrap64 ((ji12) + 1)) : Int).toNat).size ≤ 9223372036854775807 then (spec_JoinLoops.l0 k2 a0 a1 (x6_2 ++ ((⟨#[97, 98, 99, 100, 101, 102, 103, 104, 105, 106, 107, 108, 109, 110, 111, 112]⟩ : ByteArray).extract ((ji12) : Int).toNat ((wrap64 ((ji12) + 1)) : Int).toNat)) (wrap64 (x7_2 + 1))) else (none)) else (none)) else (none)) else (none)) = some (r1, r2) := by first | (rw [hji12] at H; exact H) | (simp only [hji12] at H ⊢; exact H)
                have hji12w : (IntKind.i64.wrap ((((bt a1 x7_2) - 97) % 256) + (wrap64 ((a0.size : Int) / 2)))) = ji12 := (i64_w _).trans hji12
                by_cases c13 : 0 ≤ (ji12)
                · rw [if_pos c13] at H
                  have c13b0 := eq_true c13
                  have c13b1 : decide (0 ≤ (ji12)) = true := decide_eq_true c13
                  clear c13
                  by_cases c14 : (ji12) ≤ (wrap64 ((ji12) + 1))
                  · rw [if_pos c14] at H
                    have c14b0 := eq_true c14
                    have c14b1 : decide ((ji12) ≤ (wrap64 ((ji12) + 1))) = true := decide_eq_true c14
                    by_cases c15 : (wrap64 ((ji12) + 1)) ≤ 16
                    · rw [if_pos c15] at H
                      have c15b0 := eq_true c15
                      have c15b1 : decide ((wrap64 ((ji12) + 1)) ≤ 16) = true := decide_eq_true c15
                      by_cases c16 : x6_2.size + ((⟨#[97, 98, 99, 100, 101, 102, 103, 104, 105, 106, 107, 108, 109, 110, 111, 112]⟩ : ByteArray).extract ((ji12) : Int).toNat ((wrap64 ((ji12) + 1)) : Int).toNat).size ≤ 9223372036854775807
                      · rw [if_pos c16] at H
                        have c16b0 := eq_true c16
                        have c16b1 : decide (x6_2.size + ((⟨#[97, 98, 99, 100, 101, 102, 103, 104, 105, 106, 107, 108, 109, 110, 111, 112]⟩ : ByteArray).extract ((ji12) : Int).toNat ((wrap64 ((ji12) + 1)) : Int).toNat).size ≤ 9223372036854775807) = true := decide_eq_true c16
                        try have c16b2 : (9223372036854775807 < x6_2.size + ((⟨#[97, 98, 99, 100, 101, 102, 103, 104, 105, 106, 107, 108, 109, 110, 111, 112]⟩ : ByteArray).extract ((ji12) : Int).toNat ((wrap64 ((ji12) + 1)) : Int).toNat).size) = False := eq_false (Nat.not_lt.2 c16)
                        have H' := Aside0.mk H
                        clear H
                        have p11 : 0 ≤ (x7_2 : Int) := of_decide_eq_true (by first | (with_reducible assumption) | assumption)
                        have q11 : x7_2 < (a1.size : Int) := of_decide_eq_true (by first | (with_reducible assumption) | assumption)
                        have hx11 := bt_at a1 x7_2
                        replace p11 := eq_true p11
                        replace q11 := eq_true q11
                        go_wp2
                        go_roundg k2
                        case measure => have := HJ2.out; have := HK2.out; omega
                        case rel => exact ⟨(x6_2 ++ ((⟨#[97, 98, 99, 100, 101, 102, 103, 104, 105, 106, 107, 108, 109, 110, 111, 112]⟩ : ByteArray).extract ((ji12) : Int).toNat ((wrap64 ((ji12) + 1)) : Int).toNat)), (wrap64 (x7_2 + 1)), (by first | rfl | (simp; done) | (simp only [← hji12] <;> (first | rfl | simp)) | (simp [*]; done)), (by first | rfl | (simp; done) | (simp [*]; done)), H', ⟨by have := HJ2.out; have := HK2.out; omega⟩, by repeat (first | exact Drawn0.refl _ | apply Drawn0.step)⟩
                      · rw [if_neg c16] at H
                        exact absurd H (by simp)
                    · rw [if_neg c15] at H
                      exact absurd H (by simp)
                  · rw [if_neg c14] at H
                    exact absurd H (by simp)
                · rw [if_neg c13] at H
                  exact absurd H (by simp)
              · rw [if_neg c10] at H
                exact absurd H (by simp)
            · rw [if_neg c9] at H
              have c9b0 : decide (x7_2 < (a1.size : Int)) = false := decide_eq_false c9
              clear c9
              simp only [Option.some.injEq, Prod.mk.injEq] at H
              obtain ⟨rfl, rfl⟩ := H
              go_wp2
              go_ret2
              exact ⟨by first | rfl | (simp; done) | (simp [*]; done), by repeat (first | exact Drawn0.refl _ | apply Drawn0.step)⟩

end Go.Proofs.YtgdpeabbmbclbaaDoor.Pr

/- What is asked of a predicate that is handed to the library, and the place of the first element for which it holds. -/
namespace Go.Proofs.YtgdpeabbmbclbaaDoor.Pr
open Go.RowKit Go.Proofs.YtgdpeabbmbclbaaDoorW.PrintWords Go.Proofs.YtgdpeabbmbclbaaDoorW.PrintLast Go.Proofs.YtgdpeabbmbclbaaDoorW.PrintMore
set_option linter.unusedVariables false
set_option linter.unusedSimpArgs false

/-- A function value that tells p of the elements of a list, in any world in which what was there is as it was. -/
def PredB {α : Type} (g : Nat) (lb : Array Value) (enc : α → Value) (p : α → Bool) (zs : List α) (w : World) : Prop :=
  ∀ (W : World) (x : α), x ∈ zs → Below w.heap.size w W → Calls Tryd.prog g (#[enc x] ++ lb) W fun e w' => e = .returned (.bool (p x)) ∧ Below W.heap.size W w'
/-- The place of the first element for which p holds, or -1. -/
def idxP {α : Type} (p : α → Bool) : List α → Int
  | [] => -1
  | x :: r => if p x = true then 0 else if idxP p r < 0 then -1 else idxP p r + 1
theorem idxP_ge {α : Type} (p : α → Bool) : ∀ l : List α, -1 ≤ idxP p l
  | [] => by simp [idxP]
  | x :: r => by
    have := idxP_ge p r
    unfold idxP
    split
    · omega
    · split <;> omega
theorem idxP_nonneg {α : Type} (p : α → Bool) : ∀ l : List α, decide (idxP p l ≥ 0) = l.any p
  | [] => by simp [idxP]
  | x :: r => by
    have ih := idxP_nonneg p r
    unfold idxP
    rw [List.any_cons, ← ih]
    cases hx : p x with
    | true => simp
    | false =>
      simp only [Bool.false_eq_true, if_false, Bool.false_or]
      split
      · rename_i h; simp; omega
      · rename_i h; simp; omega
theorem idxP_none {α : Type} (p : α → Bool) : ∀ l : List α, (∀ x ∈ l, p x = false) → idxP p l = -1
  | [], _ => rfl
  | x :: r, h => by
    unfold idxP
    rw [if_neg (by rw [h x (List.mem_cons_self ..)]; simp), idxP_none p r (fun y hy => h y (List.mem_cons_of_mem _ hy))]
    simp
theorem idxP_at {α : Type} (p : α → Bool) : ∀ (l : List α) (i : Nat) (h : i < l.length), p l[i] = true → (∀ j (hj : j < i), p (l[j]'(by omega)) = false) → idxP p l = i
  | [], i, h, _, _ => by simp at h
  | x :: r, 0, h, hp, _ => by
    unfold idxP
    rw [if_pos (by simpa using hp)]
    rfl
  | x :: r, i + 1, h, hp, hn => by
    have h0 := hn 0 (by omega)
    have ih := idxP_at p r i (by simpa using h) (by simpa using hp) (fun j hj => by simpa using hn (j + 1) (by omega))
    unfold idxP
    rw [if_neg (by simp at h0; rw [h0]; simp), ih, if_neg (by omega)]
    omega

end Go.Proofs.YtgdpeabbmbclbaaDoor.Pr

/- What slices.IndexFunc and slices.ContainsFunc compute on bytes, for any predicate that leaves old memory as it was. -/
namespace Go.Proofs.YtgdpeabbmbclbaaDoor.Pr
open Go.RowKit Go.Proofs.YtgdpeabbmbclbaaDoorW.PrintWords Go.Proofs.YtgdpeabbmbclbaaDoorW.PrintLast Go.Proofs.YtgdpeabbmbclbaaDoorW.PrintMore
set_option linter.unusedVariables false
set_option linter.unusedSimpArgs false

def encB (x : Int) : Value := .int .u8 x
theorem rdB (l : List Int) (i : Nat) (h : i < l.length) : rd l (i : Int) = l[i] := by
  unfold rd
  simp [List.getD_eq_getElem?_getD, List.getElem?_eq_getElem h]

set_option maxHeartbeats 2000000 in
set_option maxRecDepth 100000 in
theorem indexFunc_byte (A : Option Addr) (c : Nat) (zs : List Int) (p : Int → Bool) (g : Nat) (lb : Array Value) (eg : ∀ args w, (callFunc g args).run Tryd.prog w = .ok (.enter g args) w) (w : World)
    (hr : Kd.C (Kd.int .u8) w A zs.length zs) (hc : zs.length ≤ c) (hp : PredB g lb encB p zs w) :
    Calls Tryd.prog 64 #[.slice A zs.length c, .func (.func g) #[] lb] w fun e w' => e = .returned (.int .i64 (idxP p zs)) ∧ Below w.heap.size w w' := by
  have hbig : zs.length ≤ 9223372036854775807 := hr.2.1
  have HR := Aside0.mk hr
  have HP := Aside0.mk hp
  clear hr hp hc
  go_enter Tryd.func64, Tryd.ntmps64
  go_wp2
  go_loopg [5, 8] zs.length (fun gg _ s8 wr => ∃ i : Nat, s8 = .int .i64 i ∧ Aside0 (i ≤ zs.length) ∧ Aside0 (zs.length - i ≤ gg) ∧ Aside0 (Below w.heap.size w wr) ∧ Aside0 (∀ j (hj : j < zs.length), j < i → p zs[j] = false))
  case atStart => exact ⟨0, rfl, ⟨Nat.zero_le _⟩, ⟨by omega⟩, ⟨Below.refl _ w⟩, ⟨fun j _ hj => absurd hj (Nat.not_lt_zero _)⟩⟩
  case round =>
    obtain ⟨i, rfl, HI, HG, HB, HA⟩ := hrel
    by_cases hlt : i < zs.length
    · have c4b0 : decide ((i : Int) < (zs.length : Int)) = true := decide_eq_true (by omega)
      have c5b0 : decide (i < zs.length) = true := decide_eq_true hlt
      obtain ⟨ad, e, h0⟩ := Kd.at_int HR.out (i : Int) (by omega) (by omega)
      cases e
      rw [rdB zs i hlt, Int.toNat_natCast] at h0
      replace h0 := (HB.out.cell (World.block_lt_of_cell? w _ h0)).trans h0
      have hcall := HP.out wr zs[i] (List.getElem_mem hlt) HB.out
      have hn := HA.out
      obtain ⟨y, hy⟩ : ∃ y, zs[i] = y := ⟨_, rfl⟩
      have HY := Aside0.mk hy
      rw [hy] at h0 hcall
      have HN := Aside0.mk hn
      clear hn hy
      cases hq : p y with
      | true =>
        rw [hq] at hcall
        have HQ := Aside0.mk hq
        clear hq
        go_wp2_with (go_at_fn g; refine hcall.mono ?_; rintro e w' ⟨rfl, hb1⟩)
        have hb' := HB.out.trans (hb1.mono HB.out.size)
        go_ret
        exact ⟨congrArg (fun z => Ending.returned (Value.int .i64 z)) (idxP_at p zs i hlt (by rw [HY.out]; exact HQ.out) (fun j hj => HN.out j (by omega) hj)).symm, hb'⟩
      | false =>
        rw [hq] at hcall
        have HQ := Aside0.mk hq
        clear hq
        go_wp2_with (go_at_fn g; refine hcall.mono ?_; rintro e w' ⟨rfl, hb1⟩)
        have hb' := HB.out.trans (hb1.mono HB.out.size)
        go_roundg (zs.length - (i + 1))
        case measure => have := HG.out; omega
        case rel =>
          refine ⟨i + 1, by go_num, ⟨by omega⟩, ⟨by omega⟩, ⟨hb'⟩, ⟨fun j hj hji => ?_⟩⟩
          by_cases e : j = i
          · subst e
            rw [HY.out]; exact HQ.out
          · exact HN.out j hj (by omega)
    · have c4b0 : decide ((i : Int) < (zs.length : Int)) = false := decide_eq_false (by omega)
      have c5b0 : decide (i < zs.length) = false := decide_eq_false hlt
      have hall := Aside0.mk (idxP_none p zs (fun x hx => by
        obtain ⟨j, hj, rfl⟩ := List.getElem_of_mem hx
        exact HA.out j hj (by omega)))
      have HB2 := HB
      clear HA HP HR
      go_wp2
      go_ret
      exact ⟨congrArg (fun z => Ending.returned (Value.int .i64 z)) hall.out.symm, HB2.out⟩

set_option maxHeartbeats 2000000 in
theorem containsFunc_byte (A : Option Addr) (c : Nat) (zs : List Int) (p : Int → Bool) (g : Nat) (lb : Array Value) (eg : ∀ args w, (callFunc g args).run Tryd.prog w = .ok (.enter g args) w) (w : World)
    (hr : Kd.C (Kd.int .u8) w A zs.length zs) (hc : zs.length ≤ c) (hp : PredB g lb encB p zs w) :
    Calls Tryd.prog 36 #[.slice A zs.length c, .func (.func g) #[] lb] w fun e w' => e = .returned (.bool (zs.any p)) ∧ Below w.heap.size w w' := by
  rw [← idxP_nonneg p zs]
  have hcon := indexFunc_byte A c zs p g lb eg w hr hc hp
  clear hr hp
  generalize idxP p zs = r at hcon ⊢
  go_enter Tryd.func36, Tryd.ntmps36
  go_wp2_with (go_at_call 64; refine hcon.mono ?_; rintro e w' ⟨rfl, hb'⟩)
  go_ret
  exact ⟨by simp, hb'⟩
end Go.Proofs.YtgdpeabbmbclbaaDoor.Pr

/-
  DERIVED: THE SHELF's CONTRACTS AT THIS DUMP, IN PLAIN WORDS (tools/lay-plain.mjs out of 'YtgdpeabbmbclbaaDoorStrLay.lean', which tools/lay-shelf.mjs wrote): THE SAME DECLARATIONS UNDER THE SAME NAMES: 'import', 'namespace', 'open', 'def', 'theorem' AND NOTHING ELSE: no command of the shelf's: FOR A HAND-IN. Each laying: the table of numbers ('.._ren') and one theorem, a field a fact of the dump's own or the kernel's comparison; each contract: ONE APPLICATION.
-/
namespace Go.Proofs
open Go.Shelf
def Tryd.l137_ren : Go.Shelf.Ren := ⟨fun | 137 => 53 | 217 => 71 | 266 => 79 | n => n, fun | 9 => 9 | 5 => 5 | 3 => 3 | n => n, fun | n => n⟩
theorem Tryd.l137 : Go.Proofs.Lays.n137 Tryd.prog Tryd.l137_ren := {
  mixed := by kernel_rfl
  f137 := Tryd.func53.trans (congrArg some (by kernel_rfl))
  f217 := Tryd.func71.trans (congrArg some (by kernel_rfl))
  f266 := Tryd.func79.trans (congrArg some (by kernel_rfl))
  t3 := Tryd.underlying3
  a3 := Tryd.isAgg3
  z3 := Tryd.sizeOf3
  v3 := Tryd.zeroValue3
  t5 := Tryd.underlying5
  a5 := Tryd.isAgg5
  z5 := Tryd.sizeOf5
  v5 := Tryd.zeroValue5
  t9 := Tryd.underlying9
  a9 := Tryd.isAgg9
  z9 := Tryd.sizeOf9
  v9 := Tryd.zeroValue9 }
def Tryd.l149_ren : Go.Shelf.Ren := ⟨fun | 149 => 52 | 222 => 70 | n => n, fun | 9 => 9 | 5 => 5 | 3 => 3 | 4 => 4 | n => n, fun | n => n⟩
theorem Tryd.l149 : Go.Proofs.Lays.n149 Tryd.prog Tryd.l149_ren := {
  mixed := by kernel_rfl
  f149 := Tryd.func52.trans (congrArg some (by kernel_rfl))
  f222 := Tryd.func70.trans (congrArg some (by kernel_rfl))
  t3 := Tryd.underlying3
  a3 := Tryd.isAgg3
  z3 := Tryd.sizeOf3
  v3 := Tryd.zeroValue3
  t4 := Tryd.underlying4
  a4 := Tryd.isAgg4
  z4 := Tryd.sizeOf4
  v4 := Tryd.zeroValue4
  t5 := Tryd.underlying5
  a5 := Tryd.isAgg5
  z5 := Tryd.sizeOf5
  v5 := Tryd.zeroValue5
  t9 := Tryd.underlying9
  a9 := Tryd.isAgg9
  z9 := Tryd.sizeOf9
  v9 := Tryd.zeroValue9 }
def Tryd.l160_ren : Go.Shelf.Ren := ⟨fun | 160 => 34 | 232 => 58 | 231 => 57 | 227 => 59 | 234 => 61 | 233 => 60 | 236 => 63 | 235 => 62 | 228 => 74 | 271 => 77 | 151 => 76 | 197 => 75 | 120 => 85 | 152 => 84 | 260 => 83 | 137 => 53 | 119 => 91 | 224 => 87 | 225 => 86 | 217 => 71 | 266 => 79 | n => n, fun | 9 => 9 | 4 => 4 | 3 => 3 | 5 => 5 | 117 => 50 | 116 => 49 | 0 => 0 | 124 => 53 | 21 => 21 | 105 => 59 | 46 => 73 | 119 => 75 | 139 => 78 | 138 => 77 | n => n, fun | 3 => 1 | 4 => 2 | n => n⟩
theorem Tryd.l160 : Go.Proofs.Lays.n160 Tryd.prog Tryd.l160_ren := {
  mixed := by kernel_rfl
  f119 := Tryd.func91.trans (congrArg some (by kernel_rfl))
  f120 := Tryd.func85.trans (congrArg some (by kernel_rfl))
  f137 := Tryd.func53.trans (congrArg some (by kernel_rfl))
  f151 := Tryd.func76.trans (congrArg some (by kernel_rfl))
  f152 := Tryd.func84.trans (congrArg some (by kernel_rfl))
  f160 := Tryd.func34.trans (congrArg some (by kernel_rfl))
  f197 := Tryd.func75.trans (congrArg some (by kernel_rfl))
  f217 := Tryd.func71.trans (congrArg some (by kernel_rfl))
  f224 := Tryd.func87.trans (congrArg some (by kernel_rfl))
  f225 := Tryd.func86.trans (congrArg some (by kernel_rfl))
  f227 := Tryd.func59.trans (congrArg some (by kernel_rfl))
  f228 := Tryd.func74.trans (congrArg some (by kernel_rfl))
  f231 := Tryd.func57.trans (congrArg some (by kernel_rfl))
  f232 := Tryd.func58.trans (congrArg some (by kernel_rfl))
  f233 := Tryd.func60.trans (congrArg some (by kernel_rfl))
  f234 := Tryd.func61.trans (congrArg some (by kernel_rfl))
  f235 := Tryd.func62.trans (congrArg some (by kernel_rfl))
  f236 := Tryd.func63.trans (congrArg some (by kernel_rfl))
  f260 := Tryd.func83.trans (congrArg some (by kernel_rfl))
  f266 := Tryd.func79.trans (congrArg some (by kernel_rfl))
  f271 := Tryd.func77.trans (congrArg some (by kernel_rfl))
  t0 := Tryd.underlying0
  a0 := Tryd.isAgg0
  z0 := Tryd.sizeOf0
  v0 := Tryd.zeroValue0
  t3 := Tryd.underlying3
  a3 := Tryd.isAgg3
  z3 := Tryd.sizeOf3
  v3 := Tryd.zeroValue3
  t4 := Tryd.underlying4
  a4 := Tryd.isAgg4
  z4 := Tryd.sizeOf4
  v4 := Tryd.zeroValue4
  t5 := Tryd.underlying5
  a5 := Tryd.isAgg5
  z5 := Tryd.sizeOf5
  v5 := Tryd.zeroValue5
  t9 := Tryd.underlying9
  a9 := Tryd.isAgg9
  z9 := Tryd.sizeOf9
  v9 := Tryd.zeroValue9
  t21 := Tryd.underlying21
  a21 := Tryd.isAgg21
  z21 := Tryd.sizeOf21
  v21 := Tryd.zeroValue21
  t46 := Tryd.underlying73
  a46 := Tryd.isAgg73
  z46 := Tryd.sizeOf73
  v46 := Tryd.zeroValue73
  t105 := Tryd.underlying59
  a105 := Tryd.isAgg59
  z105 := Tryd.sizeOf59
  v105 := Tryd.zeroValue59
  t116 := Tryd.underlying49
  a116 := Tryd.isAgg49
  z116 := Tryd.sizeOf49
  t117 := Tryd.underlying50
  a117 := Tryd.isAgg50
  z117 := Tryd.sizeOf50
  v117 := Tryd.zeroValue50
  t119 := Tryd.underlying75
  a119 := Tryd.isAgg75
  z119 := Tryd.sizeOf75
  t124 := Tryd.underlying53
  a124 := Tryd.isAgg53
  z124 := Tryd.sizeOf53
  v124 := Tryd.zeroValue53
  t138 := Tryd.underlying77
  a138 := Tryd.isAgg77
  z138 := Tryd.sizeOf77
  v138 := Tryd.zeroValue77
  t139 := Tryd.underlying78
  a139 := Tryd.isAgg78
  z139 := Tryd.sizeOf78
  v139 := Tryd.zeroValue78
  g3 := by kernel_rfl
  g4 := by kernel_rfl }
def Tryd.l138_ren : Go.Shelf.Ren := ⟨fun | 138 => 38 | 195 => 65 | 218 => 66 | 143 => 67 | 219 => 78 | 217 => 71 | 225 => 86 | 224 => 87 | 267 => 88 | 266 => 79 | 314 => 92 | n => n, fun | 9 => 9 | 3 => 3 | 4 => 4 | 5 => 5 | 0 => 0 | 46 => 73 | 146 => 81 | 51 => 80 | n => n, fun | 1 => 0 | n => n⟩
theorem Tryd.l138 : Go.Proofs.Lays.n138 Tryd.prog Tryd.l138_ren := {
  mixed := by kernel_rfl
  f138 := Tryd.func38.trans (congrArg some (by kernel_rfl))
  f143 := Tryd.func67.trans (congrArg some (by kernel_rfl))
  f195 := Tryd.func65.trans (congrArg some (by kernel_rfl))
  f217 := Tryd.func71.trans (congrArg some (by kernel_rfl))
  f218 := Tryd.func66.trans (congrArg some (by kernel_rfl))
  f219 := Tryd.func78.trans (congrArg some (by kernel_rfl))
  f224 := Tryd.func87.trans (congrArg some (by kernel_rfl))
  f225 := Tryd.func86.trans (congrArg some (by kernel_rfl))
  f266 := Tryd.func79.trans (congrArg some (by kernel_rfl))
  f267 := Tryd.func88.trans (congrArg some (by kernel_rfl))
  f314 := Tryd.func92.trans (congrArg some (by kernel_rfl))
  t0 := Tryd.underlying0
  a0 := Tryd.isAgg0
  z0 := Tryd.sizeOf0
  v0 := Tryd.zeroValue0
  t3 := Tryd.underlying3
  a3 := Tryd.isAgg3
  z3 := Tryd.sizeOf3
  v3 := Tryd.zeroValue3
  t4 := Tryd.underlying4
  a4 := Tryd.isAgg4
  z4 := Tryd.sizeOf4
  v4 := Tryd.zeroValue4
  t5 := Tryd.underlying5
  a5 := Tryd.isAgg5
  z5 := Tryd.sizeOf5
  v5 := Tryd.zeroValue5
  t9 := Tryd.underlying9
  a9 := Tryd.isAgg9
  z9 := Tryd.sizeOf9
  v9 := Tryd.zeroValue9
  t46 := Tryd.underlying73
  a46 := Tryd.isAgg73
  z46 := Tryd.sizeOf73
  v46 := Tryd.zeroValue73
  t51 := Tryd.underlying80
  a51 := Tryd.isAgg80
  z51 := Tryd.sizeOf80
  v51 := Tryd.zeroValue80
  t146 := Tryd.underlying81
  a146 := Tryd.isAgg81
  z146 := Tryd.sizeOf81
  v146 := Tryd.zeroValue81
  g1 := by kernel_rfl }
def Tryd.l144_ren : Go.Shelf.Ren := ⟨fun | 144 => 72 | 143 => 67 | 219 => 78 | 217 => 71 | 225 => 86 | 224 => 87 | 267 => 88 | 266 => 79 | 314 => 92 | n => n, fun | 9 => 9 | 4 => 4 | 3 => 3 | 5 => 5 | 46 => 73 | 146 => 81 | 51 => 80 | n => n, fun | 1 => 0 | n => n⟩
theorem Tryd.l144 : Go.Proofs.Lays.n144 Tryd.prog Tryd.l144_ren := {
  mixed := by kernel_rfl
  f143 := Tryd.func67.trans (congrArg some (by kernel_rfl))
  f144 := Tryd.func72.trans (congrArg some (by kernel_rfl))
  f217 := Tryd.func71.trans (congrArg some (by kernel_rfl))
  f219 := Tryd.func78.trans (congrArg some (by kernel_rfl))
  f224 := Tryd.func87.trans (congrArg some (by kernel_rfl))
  f225 := Tryd.func86.trans (congrArg some (by kernel_rfl))
  f266 := Tryd.func79.trans (congrArg some (by kernel_rfl))
  f267 := Tryd.func88.trans (congrArg some (by kernel_rfl))
  f314 := Tryd.func92.trans (congrArg some (by kernel_rfl))
  t3 := Tryd.underlying3
  a3 := Tryd.isAgg3
  z3 := Tryd.sizeOf3
  v3 := Tryd.zeroValue3
  t4 := Tryd.underlying4
  a4 := Tryd.isAgg4
  z4 := Tryd.sizeOf4
  v4 := Tryd.zeroValue4
  t5 := Tryd.underlying5
  a5 := Tryd.isAgg5
  z5 := Tryd.sizeOf5
  v5 := Tryd.zeroValue5
  t9 := Tryd.underlying9
  a9 := Tryd.isAgg9
  z9 := Tryd.sizeOf9
  v9 := Tryd.zeroValue9
  t46 := Tryd.underlying73
  a46 := Tryd.isAgg73
  z46 := Tryd.sizeOf73
  v46 := Tryd.zeroValue73
  t51 := Tryd.underlying80
  a51 := Tryd.isAgg80
  z51 := Tryd.sizeOf80
  v51 := Tryd.zeroValue80
  t146 := Tryd.underlying81
  a146 := Tryd.isAgg81
  z146 := Tryd.sizeOf81
  v146 := Tryd.zeroValue81
  g1 := by kernel_rfl }
def Tryd.l155_ren : Go.Shelf.Ren := ⟨fun | 155 => 56 | 154 => 73 | 138 => 38 | 165 => 80 | 143 => 67 | 166 => 81 | 197 => 75 | 169 => 82 | 195 => 65 | 218 => 66 | 240 => 89 | 241 => 90 | 219 => 78 | 260 => 83 | 276 => 93 | 277 => 94 | 217 => 71 | 225 => 86 | 224 => 87 | 267 => 88 | 266 => 79 | 314 => 92 | n => n, fun | 9 => 9 | 3 => 3 | 4 => 4 | 72 => 64 | 0 => 0 | 76 => 68 | 105 => 59 | 21 => 21 | 5 => 5 | 70 => 62 | 20 => 20 | 37 => 37 | 75 => 67 | 127 => 74 | 164 => 83 | 46 => 73 | 119 => 75 | 139 => 78 | 138 => 77 | 146 => 81 | 51 => 80 | 80 => 70 | n => n, fun | 1 => 0 | 3 => 1 | 4 => 2 | n => n⟩
theorem Tryd.l155 : Go.Proofs.Lays.n155 Tryd.prog Tryd.l155_ren := {
  mixed := by kernel_rfl
  f138 := Tryd.func38.trans (congrArg some (by kernel_rfl))
  f143 := Tryd.func67.trans (congrArg some (by kernel_rfl))
  f154 := Tryd.func73.trans (congrArg some (by kernel_rfl))
  f155 := Tryd.func56.trans (congrArg some (by kernel_rfl))
  f165 := Tryd.func80.trans (congrArg some (by kernel_rfl))
  f166 := Tryd.func81.trans (congrArg some (by kernel_rfl))
  f169 := Tryd.func82.trans (congrArg some (by kernel_rfl))
  f195 := Tryd.func65.trans (congrArg some (by kernel_rfl))
  f197 := Tryd.func75.trans (congrArg some (by kernel_rfl))
  f217 := Tryd.func71.trans (congrArg some (by kernel_rfl))
  f218 := Tryd.func66.trans (congrArg some (by kernel_rfl))
  f219 := Tryd.func78.trans (congrArg some (by kernel_rfl))
  f224 := Tryd.func87.trans (congrArg some (by kernel_rfl))
  f225 := Tryd.func86.trans (congrArg some (by kernel_rfl))
  f240 := Tryd.func89.trans (congrArg some (by kernel_rfl))
  f241 := Tryd.func90.trans (congrArg some (by kernel_rfl))
  f260 := Tryd.func83.trans (congrArg some (by kernel_rfl))
  f266 := Tryd.func79.trans (congrArg some (by kernel_rfl))
  f267 := Tryd.func88.trans (congrArg some (by kernel_rfl))
  f276 := Tryd.func93.trans (congrArg some (by kernel_rfl))
  f277 := Tryd.func94.trans (congrArg some (by kernel_rfl))
  f314 := Tryd.func92.trans (congrArg some (by kernel_rfl))
  t0 := Tryd.underlying0
  a0 := Tryd.isAgg0
  z0 := Tryd.sizeOf0
  v0 := Tryd.zeroValue0
  t3 := Tryd.underlying3
  a3 := Tryd.isAgg3
  z3 := Tryd.sizeOf3
  v3 := Tryd.zeroValue3
  t4 := Tryd.underlying4
  a4 := Tryd.isAgg4
  z4 := Tryd.sizeOf4
  v4 := Tryd.zeroValue4
  t5 := Tryd.underlying5
  a5 := Tryd.isAgg5
  z5 := Tryd.sizeOf5
  v5 := Tryd.zeroValue5
  t9 := Tryd.underlying9
  a9 := Tryd.isAgg9
  z9 := Tryd.sizeOf9
  v9 := Tryd.zeroValue9
  t20 := Tryd.underlying20
  a20 := Tryd.isAgg20
  z20 := Tryd.sizeOf20
  v20 := Tryd.zeroValue20
  t21 := Tryd.underlying21
  a21 := Tryd.isAgg21
  z21 := Tryd.sizeOf21
  v21 := Tryd.zeroValue21
  t37 := Tryd.underlying37
  a37 := Tryd.isAgg37
  z37 := Tryd.sizeOf37
  v37 := Tryd.zeroValue37
  t46 := Tryd.underlying73
  a46 := Tryd.isAgg73
  z46 := Tryd.sizeOf73
  v46 := Tryd.zeroValue73
  t51 := Tryd.underlying80
  a51 := Tryd.isAgg80
  z51 := Tryd.sizeOf80
  v51 := Tryd.zeroValue80
  t70 := Tryd.underlying62
  a70 := Tryd.isAgg62
  z70 := Tryd.sizeOf62
  v70 := Tryd.zeroValue62
  t72 := Tryd.underlying64
  a72 := Tryd.isAgg64
  z72 := Tryd.sizeOf64
  v72 := Tryd.zeroValue64
  t75 := Tryd.underlying67
  a75 := Tryd.isAgg67
  z75 := Tryd.sizeOf67
  v75 := Tryd.zeroValue67
  t76 := Tryd.underlying68
  a76 := Tryd.isAgg68
  z76 := Tryd.sizeOf68
  v76 := Tryd.zeroValue68
  t105 := Tryd.underlying59
  a105 := Tryd.isAgg59
  z105 := Tryd.sizeOf59
  v105 := Tryd.zeroValue59
  t119 := Tryd.underlying75
  a119 := Tryd.isAgg75
  z119 := Tryd.sizeOf75
  t127 := Tryd.underlying74
  a127 := Tryd.isAgg74
  z127 := Tryd.sizeOf74
  v127 := Tryd.zeroValue74
  t138 := Tryd.underlying77
  a138 := Tryd.isAgg77
  z138 := Tryd.sizeOf77
  v138 := Tryd.zeroValue77
  t139 := Tryd.underlying78
  a139 := Tryd.isAgg78
  z139 := Tryd.sizeOf78
  v139 := Tryd.zeroValue78
  t146 := Tryd.underlying81
  a146 := Tryd.isAgg81
  z146 := Tryd.sizeOf81
  v146 := Tryd.zeroValue81
  t164 := Tryd.underlying83
  a164 := Tryd.isAgg83
  z164 := Tryd.sizeOf83
  v164 := Tryd.zeroValue83
  g1 := by kernel_rfl
  g3 := by kernel_rfl
  g4 := by kernel_rfl }
end Go.Proofs

/- What the library's string functions compute: a byte's first and last place, its number, and a cut at both ends. -/
namespace Go.Proofs.YtgdpeabbmbclbaaDoor.Pr
open Go.RowKit Go.Proofs.YtgdpeabbmbclbaaDoorW.PrintWords Go.Proofs.YtgdpeabbmbclbaaDoorW.PrintLast Go.Proofs.YtgdpeabbmbclbaaDoorW.PrintMore
set_option linter.unusedVariables false
set_option linter.unusedSimpArgs false

def strings_IndexByte.f (a0 : ByteArray) (a1 : Int) : Option (Int) := some (Lib.indexByte a0.data.toList a1.toNat.toUInt8)
theorem strings_IndexByte.calls (a0 : ByteArray) (a1 : Int) (r : Int) (w : World) (h : strings_IndexByte.f a0 a1 = some r) :
    Calls Tryd.prog 53 #[.string a0, .int .u8 a1] w fun e w' => e = .returned (.int .i64 r) ∧ Drawn0 w w' := by
  obtain rfl := Option.some.inj h
  exact (Any.strings_IndexByte Tryd.l137 a0 a1 w).mono fun e w' ⟨he, hw⟩ => ⟨he, hw ▸ Drawn0.refl _⟩
def strings_LastIndexByte.f (a0 : ByteArray) (a1 : Int) : Option (Int) := if a0.size ≤ 1048576 then some (Lib.lastIndexByte a0 a1) else none
theorem strings_LastIndexByte.calls (a0 : ByteArray) (a1 : Int) (r : Int) (w : World) (h : strings_LastIndexByte.f a0 a1 = some r) :
    Calls Tryd.prog 52 #[.string a0, .int .u8 a1] w fun e w' => e = .returned (.int .i64 r) ∧ Drawn0 w w' := by
  unfold strings_LastIndexByte.f at h
  by_cases hs : a0.size ≤ 1048576
  · rw [if_pos hs] at h
    obtain rfl := Option.some.inj h
    exact (Any.strings_LastIndexByte Tryd.l149 a0 a1 (by omega) w).mono fun e w' ⟨he, hw⟩ => ⟨he, hw ▸ Drawn0.refl _⟩
  · rw [if_neg hs] at h; cases h
/-- A text of one byte. -/
theorem one_byte {s : ByteArray} (h : s.data.toList.length = 1) : s = ⟨#[s.data.toList.headD 0]⟩ := by
  obtain ⟨⟨l⟩⟩ := s
  match l, h with
  | [c], _ => rfl
def strings_Count.f (a0 : ByteArray) (a1 : ByteArray) : Option (Int) := if a1.data.toList.length = 1 then some ((a0.data.toList.count (a1.data.toList.headD 0) : Nat) : Int) else none
theorem strings_Count.calls (a0 : ByteArray) (a1 : ByteArray) (r : Int) (w : World) (h : strings_Count.f a0 a1 = some r) :
    Calls Tryd.prog 38 #[.string a0, .string a1] w fun e w' => e = .returned (.int .i64 r) ∧ Drawn0 w w' := by
  unfold strings_Count.f at h
  by_cases hs : a1.data.toList.length = 1
  · rw [if_pos hs] at h
    obtain rfl := Option.some.inj h
    have e := one_byte hs
    generalize a1.data.toList.headD 0 = c at e ⊢
    subst e
    exact (Any.strings_Count_one Tryd.l138 a0 c w).mono fun e w' ⟨he, hw⟩ => ⟨he, hw ▸ Drawn0.refl _⟩
  · rw [if_neg hs] at h; cases h
def strings_Contains.f (a0 : ByteArray) (a1 : ByteArray) : Option (Bool) := if a1.data.toList.length = 1 then some (decide (0 ≤ Lib.indexByte a0.data.toList (a1.data.toList.headD 0))) else none
theorem strings_Contains.calls (a0 : ByteArray) (a1 : ByteArray) (r : Bool) (w : World) (h : strings_Contains.f a0 a1 = some r) :
    Calls Tryd.prog 72 #[.string a0, .string a1] w fun e w' => e = .returned (.bool r) ∧ Drawn0 w w' := by
  unfold strings_Contains.f at h
  by_cases hs : a1.data.toList.length = 1
  · rw [if_pos hs] at h
    obtain rfl := Option.some.inj h
    have e := one_byte hs
    generalize a1.data.toList.headD 0 = c at e ⊢
    subst e
    exact (Any.strings_Contains_one Tryd.l144 a0 c w).mono fun e w' ⟨he, hw⟩ => ⟨he, hw ▸ Drawn0.refl _⟩
  · rw [if_neg hs] at h; cases h
end Go.Proofs.YtgdpeabbmbclbaaDoor.Pr

/- What the library's Trim computes at the first eight letters. -/
namespace Go.Proofs.YtgdpeabbmbclbaaDoor.Pr
open Go.RowKit Go.Proofs.YtgdpeabbmbclbaaDoorW.PrintWords Go.Proofs.YtgdpeabbmbclbaaDoorW.PrintLast Go.Proofs.YtgdpeabbmbclbaaDoorW.PrintMore
set_option linter.unusedVariables false
set_option linter.unusedSimpArgs false

def strings_Trim.f (a0 : ByteArray) (a1 : ByteArray) : Option (ByteArray) := if a0.size ≤ 1048576 ∧ a1 = ⟨#[97, 98, 99, 100, 101, 102, 103, 104]⟩ then some ⟨(Lib.trimS a0.data.toList [97, 98, 99, 100, 101, 102, 103, 104]).toArray⟩ else none
theorem strings_Trim.calls (a0 : ByteArray) (a1 : ByteArray) (r : ByteArray) (w : World) (h : strings_Trim.f a0 a1 = some r) :
    Calls Tryd.prog 34 #[.string a0, .string a1] w fun e w' => e = .returned (.string r) ∧ Below w.heap.size w w' := by
  unfold strings_Trim.f at h
  by_cases hs : a0.size ≤ 1048576 ∧ a1 = ⟨#[97, 98, 99, 100, 101, 102, 103, 104]⟩
  · rw [if_pos hs] at h
    obtain rfl := Option.some.inj h
    obtain ⟨h1, rfl⟩ := hs
    exact Any.strings_Trim_laid Tryd.l160 (by kernel_rfl) a0 _ w (by omega) (by decide) (ascii_of_all (by decide))
  · rw [if_neg hs] at h; cases h
end Go.Proofs.YtgdpeabbmbclbaaDoor.Pr

-- Written by a program for this claim.
namespace Go.Proofs.YtgdpeabbmbclbaaDoor.Pr
open Go.RowKit Go.Proofs.YtgdpeabbmbclbaaDoorW.PrintWords Go.Proofs.YtgdpeabbmbclbaaDoorW.PrintLast Go.Proofs.YtgdpeabbmbclbaaDoorW.PrintMore
attribute [local go_sem] max2_int min2_int max_two min_two max_three min_three max_four min_four   -- for this text's walks alone
set_option linter.unusedVariables false
set_option linter.unusedSimpArgs false

/-! ### impl_named: function 35 -/
def impl_named.l0 : Nat → ByteArray → ByteArray → List Int → Int → Int → Option (ByteArray)
  | 0, _, _, _, _, _ => none
  | k + 1, x0, x3, x4, x9, x10 => if x10 < x9 then (if 0 ≤ x10 then (if x10 < (x0.size : Int) then ((strings_IndexByte.f x3 (bt x0 x10)).bind fun t104 => (if t104 < 0 then (if x10 ≤ (wrap64 (x10 + 1)) then (if (wrap64 (x10 + 1)) ≤ (x0.size : Int) then (if x3.size + (x0.extract (x10 : Int).toNat ((wrap64 (x10 + 1)) : Int).toNat).size ≤ 9223372036854775807 then (if x4.length < 140737488355328 then (impl_named.l0 k x0 (x3 ++ (x0.extract (x10 : Int).toNat ((wrap64 (x10 + 1)) : Int).toNat)) (x4 ++ [(97 + ((x3.size : Int))) % 256]) x9 (wrap64 (x10 + 1))) else (none)) else (none)) else (none)) else (none)) else (if x4.length < 140737488355328 then (impl_named.l0 k x0 x3 (x4 ++ [(97 + (t104)) % 256]) x9 (wrap64 (x10 + 1))) else (none)))) else (none)) else (none)) else (some (strOfNums x4))
def impl_named.f (k : Nat) (a0 : ByteArray) : Option (ByteArray) := impl_named.l0 k a0 (⟨#[]⟩ : ByteArray) (([] : List Int)) (a0.size : Int) 0
theorem impl_named.mono_l : ∀ k, (∀ y0 y1 y2 y3 y4, LeO (impl_named.l0 k y0 y1 y2 y3 y4) (impl_named.l0 (k + 1) y0 y1 y2 y3 y4))
  | 0 => fun _ _ _ _ _ r h => by simp [impl_named.l0] at h
  | k + 1 => by
    have ih0 := impl_named.mono_l k
    · intro y0 y1 y2 y3 y4
      unfold impl_named.l0
      repeat' first
      | (with_reducible exact ih0 _ _ _ _ _)
      | (with_reducible exact LeO.refl _)
      | (with_reducible exact LeO.none _)
      | (with_reducible refine LeO.ite ?_ ?_)
      | (with_reducible refine LeO.bind ?_ (fun _ => ?_))
      | exact ih0 _ _ _ _ _
      | exact LeO.none _
      | refine LeO.ite ?_ ?_
      | refine LeO.bind ?_ (fun _ => ?_)
theorem impl_named.mono : ∀ a0 k, LeO (impl_named.f k a0) (impl_named.f (k + 1) a0) := by
  intro a0 k
  have ih0 := impl_named.mono_l k
  unfold impl_named.f
  repeat' first
      | (with_reducible exact ih0 _ _ _ _ _)
      | (with_reducible exact LeO.refl _)
      | (with_reducible exact LeO.none _)
      | (with_reducible refine LeO.ite ?_ ?_)
      | (with_reducible refine LeO.bind ?_ (fun _ => ?_))
      | exact ih0 _ _ _ _ _
      | exact LeO.none _
      | refine LeO.ite ?_ ?_
      | refine LeO.bind ?_ (fun _ => ?_)
set_option maxHeartbeats 8000000 in
set_option maxRecDepth 100000 in
theorem impl_named.calls (k : Nat) (a0 : ByteArray) (r : ByteArray) (w : World) (h : impl_named.f k a0 = some r) :
    Calls Tryd.prog 35 #[.string a0] w fun e w' => e = .returned (.string r) ∧ Below w.heap.size w w' := by
  have HB := Aside0.mk (Below.refl w.heap.size w)
  have H : (impl_named.l0 k a0 (⟨#[]⟩ : ByteArray) (([] : List Int)) (a0.size : Int) 0) = some r := h
  clear h
  obtain ⟨y101, hy101⟩ : ∃ y_ : List Int, y_ = (([] : List Int)) := ⟨_, rfl⟩
  replace H : (impl_named.l0 k a0 (⟨#[]⟩ : ByteArray) y101 (a0.size : Int) 0) = some r := by first | (rw [hy101]; with_reducible exact H) | (have H2_ := (Option.bind_some _ _).symm.trans H; rw [hy101]; with_reducible exact H2_) | (have H2_ := (Option.bind_some _ _).symm.trans H; with_reducible exact H2_) | with_reducible exact H | (rw [hy101]; exact H) | exact H
  have Ny101 := Aside0.mk hy101
  clear hy101
  have H' := Aside0.mk H
  clear H
  go_enter Tryd.func35, Tryd.ntmps35
  go_wp2_with (first | ((with_reducible refine gate_dst (N := 7) rfl ?_); refine Kd.R_lit (Kd.int .u8) _ 5 ?hg (N := 7) ?hd (xs := ([] : List Int)) (inner := []) (ok := fun _ => True) (okp := fun _ => True) ?hr ?hp (fun _ hk => hk) trivial (Below.refl _ _) (Nat.le_refl _) (by simp) ?_; (case hd => rfl); (case hg => rfl); (case hr => first | (go_simp; done) | (go_simp; rfl)); (case hp => exact (Reps.none _ _)); intro v102 w2 ho3 hb hg_ hnew_; clear hg_ hnew_; (first | rw [← Ny101.out] at ho3 | (simp only [Int.reduceToNat] at ho3; rw [← Ny101.out] at ho3)); have n0_ := Aside0.mk (Kd.R_lower ho3 (below_size (by repeat (first | (with_reducible first | exact HB.out | apply below_alloc | apply pw_below_drewN | apply below_drew1) | exact HB.out)))); have n1_ := Aside0.mk (below_step (by repeat (first | (with_reducible first | exact HB.out | apply below_alloc | apply pw_below_drewN | apply below_drew1) | exact HB.out)) hb); clear HB; have HO103 := n0_; have HB := n1_; clear n0_ n1_; clear hb ho3))
  go_loopg [3, 4, 10] k (fun kq v3 v4 v10 w' => ∃ (x3_1 : ByteArray) (x4_1 : List Int) (x10_1 : Int), v3 = .string x3_1 ∧ v10 = .int .i64 x10_1 ∧ Aside0 (impl_named.l0 kq a0 x3_1 x4_1 (a0.size : Int) x10_1 = some r) ∧ Aside0 (kq ≤ k) ∧ Aside0 (Kd.R (Kd.int .u8) 5 w' w.heap.size (fun _ => True) v4 x4_1) ∧ Aside0 (Below w.heap.size w w'))
  case atStart => exact ⟨((⟨#[]⟩ : ByteArray)), (y101), (0), (by first | rfl | (simp; done) | (simp [*]; done)), (by first | rfl | (simp; done) | (simp [*]; done)), H', ⟨Nat.le_refl _⟩, ⟨by (with_reducible repeat (first | apply Kd.R_alloc | apply Kd.R_drewN | apply Kd.R_drew)); exact HO103.out⟩, ⟨by repeat (first | (with_reducible first | exact HB.out | apply below_alloc | apply pw_below_drewN | apply below_drew1) | exact HB.out)⟩⟩
  case round =>
    clear H'
    try clear p2
    try clear c3
    obtain ⟨x3_1, x4_1, x10_1, rfl, rfl, HA, HK1, HO_4, HB⟩ := hrel
    cases gk with
    | zero => exact absurd HA.out (by simp [impl_named.l0])
    | succ k1 =>
      have H := HA.out
      clear HA
      simp only [impl_named.l0] at H
      by_cases c4 : x10_1 < (a0.size : Int)
      · rw [if_pos c4] at H
        have c4b0 : decide (x10_1 < (a0.size : Int)) = true := decide_eq_true c4
        clear c4
        by_cases c5 : 0 ≤ x10_1
        · rw [if_pos c5] at H
          have c5b0 : decide (0 ≤ x10_1) = true := decide_eq_true c5
          clear c5
          by_cases c6 : x10_1 < (a0.size : Int)
          · rw [if_pos c6] at H
            have c6b0 : decide (x10_1 < (a0.size : Int)) = true := decide_eq_true c6
            clear c6
            replace H := Option.bind_eq_some_iff.mp H
            obtain ⟨t104, A80, H⟩ := H
            replace H : (if t104 < 0 then (if x10_1 ≤ (wrap64 (x10_1 + 1)) then (if (wrap64 (x10_1 + 1)) ≤ (a0.size : Int) then (if x3_1.size + (a0.extract (x10_1 : Int).toNat ((wrap64 (x10_1 + 1)) : Int).toNat).size ≤ 9223372036854775807 then (if x4_1.length < 140737488355328 then (impl_named.l0 k1 a0 (x3_1 ++ (a0.extract (x10_1 : Int).toNat ((wrap64 (x10_1 + 1)) : Int).toNat)) (x4_1 ++ [(97 + ((x3_1.size : Int))) % 256]) (a0.size : Int) (wrap64 (x10_1 + 1))) else (none)) else (none)) else (none)) else (none)) else (if x4_1.length < 140737488355328 then (impl_named.l0 k1 a0 x3_1 (x4_1 ++ [(97 + (t104)) % 256]) (a0.size : Int) (wrap64 (x10_1 + 1))) else (none))) = some r := H
            have A8 := Aside0.mk A80
            clear A80
            by_cases c9 : t104 < 0
            · rw [if_pos c9] at H
              have c9b0 : decide (t104 < 0) = true := decide_eq_true c9
              clear c9
              have c10b0 := eq_true (of_decide_eq_true (by first | (with_reducible assumption) | assumption) : 0 ≤ x10_1)
              by_cases c11 : x10_1 ≤ (wrap64 (x10_1 + 1))
              · rw [if_pos c11] at H
                have c11b0 := eq_true c11
                have c11b1 : decide (x10_1 ≤ (wrap64 (x10_1 + 1))) = true := decide_eq_true c11
                by_cases c12 : (wrap64 (x10_1 + 1)) ≤ (a0.size : Int)
                · rw [if_pos c12] at H
                  have c12b0 := eq_true c12
                  have c12b1 : decide ((wrap64 (x10_1 + 1)) ≤ (a0.size : Int)) = true := decide_eq_true c12
                  by_cases c13 : x3_1.size + (a0.extract (x10_1 : Int).toNat ((wrap64 (x10_1 + 1)) : Int).toNat).size ≤ 9223372036854775807
                  · rw [if_pos c13] at H
                    have c13b0 := eq_true c13
                    have c13b1 : decide (x3_1.size + (a0.extract (x10_1 : Int).toNat ((wrap64 (x10_1 + 1)) : Int).toNat).size ≤ 9223372036854775807) = true := decide_eq_true c13
                    try have c13b2 : (9223372036854775807 < x3_1.size + (a0.extract (x10_1 : Int).toNat ((wrap64 (x10_1 + 1)) : Int).toNat).size) = False := eq_false (Nat.not_lt.2 c13)
                    by_cases c14 : x4_1.length < 140737488355328
                    · rw [if_pos c14] at H
                      have LMc14 := Aside0.mk c14
                      clear c14
                      obtain ⟨y105, hy105⟩ : ∃ y_ : List Int, y_ = (x4_1 ++ [(97 + ((x3_1.size : Int))) % 256]) := ⟨_, rfl⟩
                      replace H : (impl_named.l0 k1 a0 (x3_1 ++ (a0.extract (x10_1 : Int).toNat ((wrap64 (x10_1 + 1)) : Int).toNat)) y105 (a0.size : Int) (wrap64 (x10_1 + 1))) = some r := by first | (rw [hy105]; with_reducible exact H) | (have H2_ := (Option.bind_some _ _).symm.trans H; rw [hy105]; with_reducible exact H2_) | (have H2_ := (Option.bind_some _ _).symm.trans H; with_reducible exact H2_) | with_reducible exact H | (rw [hy105]; exact H) | exact H
                      have Ny105 := Aside0.mk hy105
                      clear hy105
                      have H' := Aside0.mk H
                      clear H
                      have p7 : 0 ≤ (x10_1 : Int) := of_decide_eq_true (by first | (with_reducible assumption) | assumption)
                      have q7 : x10_1 < (a0.size : Int) := of_decide_eq_true (by first | (with_reducible assumption) | assumption)
                      have hx7 := bt_at a0 x10_1
                      replace p7 := eq_true p7
                      replace q7 := eq_true q7
                      go_wp2_with (first | ((with_reducible refine gate_callee (f := 53) rfl ?_); refine goesL_ (some 17) rfl rfl Tryd.func53 (by kernel_rfl) rfl #[.string x3_1, .int .u8 (bt a0 x10_1)] rfl (by (try simp only [List.map_toArray, List.map_cons, List.map_nil]); first | done | rfl | (simp only [List.length_drop, List.length_take]; rfl)) ?_; (with_reducible refine (strings_IndexByte.calls x3_1 (bt a0 x10_1) t104 _ A8.out).mono ?_); rintro e w' ⟨rfl, ⟨nd, rfl⟩⟩; refine ⟨_, rfl, ?_⟩) | ((with_reducible refine gate_builtin (b := .append) (xs := #[.tmp 29, .tmp 33]) rfl ?_); at_builtin; refine Kd.R_append (Kd.int .u8) (w0 := w) w.heap.size rfl (.tmp 29) (.tmp 33) 37 5 (.int .u8 0) 1 rfl Tryd.underlying37 info5 rfl (by decide) (by omega) u4 x4_1 ((97 + ((x3_1.size : Int))) % 256) [.int .u8 ((97 + ((x3_1.size : Int))) % 256)] (fun _ => True) (fun _ => False) rfl rfl ?aP (fun _ hk => hk.elim) ?aF ?aO ?aB ?aS ?aL ?_; (case aP => exact rfl); (case aB => exact (by repeat (first | (with_reducible first | exact HB.out | apply below_alloc | apply pw_below_drewN | apply below_drew1) | exact HB.out))); (case aF => exact (fun _ _ => trivial)); (case aO => exact (by (with_reducible repeat (first | apply Kd.R_alloc | apply Kd.R_drewN | apply Kd.R_drew)); exact HO_4.out)); (case aS => exact (below_size (by repeat (first | (with_reducible first | exact HB.out | apply below_alloc | apply pw_below_drewN | apply below_drew1) | exact HB.out)))); (case aL => have := LMc14.out; omega); intro v106 w15 ho hb hg hat; rw [← Ny105.out] at ho; have n0_ := Aside0.mk (hb); have n1_ := Aside0.mk (ho); clear HB; clear HO_4; have HB := n0_; have HO107 := n1_; clear n0_ n1_; clear ho hb hg hat))
                      go_roundg k1
                      case measure => have := HK1.out; omega
                      case rel => exact ⟨(x3_1 ++ (a0.extract (x10_1 : Int).toNat ((wrap64 (x10_1 + 1)) : Int).toNat)), (y105), (wrap64 (x10_1 + 1)), (by first | rfl | (simp; done) | (simp [*]; done)), (by first | rfl | (simp; done) | (simp [*]; done)), H', ⟨by have := HK1.out; omega⟩, ⟨by (with_reducible repeat (first | apply Kd.R_alloc | apply Kd.R_drewN | apply Kd.R_drew)); exact HO107.out⟩, ⟨by repeat (first | (with_reducible first | exact HB.out | apply below_alloc | apply pw_below_drewN | apply below_drew1) | exact HB.out)⟩⟩
                    · rw [if_neg c14] at H
                      exact absurd H (by simp)
                  · rw [if_neg c13] at H
                    exact absurd H (by simp)
                · rw [if_neg c12] at H
                  exact absurd H (by simp)
              · rw [if_neg c11] at H
                exact absurd H (by simp)
            · rw [if_neg c9] at H
              have c9b0 : decide (t104 < 0) = false := decide_eq_false c9
              clear c9
              by_cases c16 : x4_1.length < 140737488355328
              · rw [if_pos c16] at H
                have LMc16 := Aside0.mk c16
                clear c16
                obtain ⟨y108, hy108⟩ : ∃ y_ : List Int, y_ = (x4_1 ++ [(97 + (t104)) % 256]) := ⟨_, rfl⟩
                replace H : (impl_named.l0 k1 a0 x3_1 y108 (a0.size : Int) (wrap64 (x10_1 + 1))) = some r := by first | (rw [hy108]; with_reducible exact H) | (have H2_ := (Option.bind_some _ _).symm.trans H; rw [hy108]; with_reducible exact H2_) | (have H2_ := (Option.bind_some _ _).symm.trans H; with_reducible exact H2_) | with_reducible exact H | (rw [hy108]; exact H) | exact H
                have Ny108 := Aside0.mk hy108
                clear hy108
                have H' := Aside0.mk H
                clear H
                have p7 : 0 ≤ (x10_1 : Int) := of_decide_eq_true (by first | (with_reducible assumption) | assumption)
                have q7 : x10_1 < (a0.size : Int) := of_decide_eq_true (by first | (with_reducible assumption) | assumption)
                have hx7 := bt_at a0 x10_1
                replace p7 := eq_true p7
                replace q7 := eq_true q7
                go_wp2_with (first | ((with_reducible refine gate_callee (f := 53) rfl ?_); refine goesL_ (some 17) rfl rfl Tryd.func53 (by kernel_rfl) rfl #[.string x3_1, .int .u8 (bt a0 x10_1)] rfl (by (try simp only [List.map_toArray, List.map_cons, List.map_nil]); first | done | rfl | (simp only [List.length_drop, List.length_take]; rfl)) ?_; (with_reducible refine (strings_IndexByte.calls x3_1 (bt a0 x10_1) t104 _ A8.out).mono ?_); rintro e w' ⟨rfl, ⟨nd, rfl⟩⟩; refine ⟨_, rfl, ?_⟩) | ((with_reducible refine gate_builtin (b := .append) (xs := #[.tmp 29, .tmp 33]) rfl ?_); at_builtin; refine Kd.R_append (Kd.int .u8) (w0 := w) w.heap.size rfl (.tmp 29) (.tmp 33) 37 5 (.int .u8 0) 1 rfl Tryd.underlying37 info5 rfl (by decide) (by omega) u4 x4_1 ((97 + (t104)) % 256) [.int .u8 ((97 + (t104)) % 256)] (fun _ => True) (fun _ => False) rfl rfl ?aP (fun _ hk => hk.elim) ?aF ?aO ?aB ?aS ?aL ?_; (case aP => exact rfl); (case aB => exact (by repeat (first | (with_reducible first | exact HB.out | apply below_alloc | apply pw_below_drewN | apply below_drew1) | exact HB.out))); (case aF => exact (fun _ _ => trivial)); (case aO => exact (by (with_reducible repeat (first | apply Kd.R_alloc | apply Kd.R_drewN | apply Kd.R_drew)); exact HO_4.out)); (case aS => exact (below_size (by repeat (first | (with_reducible first | exact HB.out | apply below_alloc | apply pw_below_drewN | apply below_drew1) | exact HB.out)))); (case aL => have := LMc16.out; omega); intro v109 w17 ho hb hg hat; rw [← Ny108.out] at ho; have n0_ := Aside0.mk (hb); have n1_ := Aside0.mk (ho); clear HB; clear HO_4; have HB := n0_; have HO110 := n1_; clear n0_ n1_; clear ho hb hg hat))
                go_roundg k1
                case measure => have := HK1.out; omega
                case rel => exact ⟨(x3_1), (y108), (wrap64 (x10_1 + 1)), (by first | rfl | (simp; done) | (simp [*]; done)), (by first | rfl | (simp; done) | (simp [*]; done)), H', ⟨by have := HK1.out; omega⟩, ⟨by (with_reducible repeat (first | apply Kd.R_alloc | apply Kd.R_drewN | apply Kd.R_drew)); exact HO110.out⟩, ⟨by repeat (first | (with_reducible first | exact HB.out | apply below_alloc | apply pw_below_drewN | apply below_drew1) | exact HB.out)⟩⟩
              · rw [if_neg c16] at H
                exact absurd H (by simp)
          · rw [if_neg c6] at H
            exact absurd H (by simp)
        · rw [if_neg c5] at H
          exact absurd H (by simp)
      · rw [if_neg c4] at H
        have c4b0 : decide (x10_1 < (a0.size : Int)) = false := decide_eq_false c4
        clear c4
        obtain rfl := Option.some.inj H
        have hcv18 := own_string (P := Tryd.prog) Tryd.underlying37 Tryd.underlying5 Tryd.underlying9 (Kd.own_of_R HO_4.out)
        go_wp2
        go_ret
        exact ⟨by first | rfl | (simp [errW_none, errW_some] <;> rfl) | (simp [*, errW_none, errW_some] <;> rfl), by repeat (first | (with_reducible first | exact HB.out | apply below_alloc | apply pw_below_drewN | apply below_drew1) | exact HB.out)⟩

end Go.Proofs.YtgdpeabbmbclbaaDoor.Pr

/- A text's bytes as a row. -/
namespace Go.Proofs.YtgdpeabbmbclbaaDoor.Pr
open Go.RowKit Go.Proofs.YtgdpeabbmbclbaaDoorW.PrintWords Go.Proofs.YtgdpeabbmbclbaaDoorW.PrintLast Go.Proofs.YtgdpeabbmbclbaaDoorW.PrintMore
set_option linter.unusedVariables false
set_option linter.unusedSimpArgs false

theorem bytes_C (W : World) (e : Nat) (s : ByteArray) (hs : s.size ≤ 9223372036854775807) : Kd.C (Kd.int .u8) (Lib.bytesWorld W e s) (some ⟨W.heap.size, 0, none⟩) (bytesOf s).length (bytesOf s) := by
  have h := bytes_reads W e s hs
  refine ⟨rfl, by rw [bytesOf_length]; exact hs, fun hn => ?_⟩
  obtain ⟨ad, e1, hc⟩ := h.2.2 (by rwa [bytesOf_length] at hn)
  refine ⟨ad, e1, fun j p hj => ?_⟩
  obtain ⟨hjl, hp⟩ := List.getElem?_eq_some_iff.1 hj
  have h2 := hc j (by rwa [bytesOf_length] at hjl)
  rw [List.getD_eq_getElem?_getD, hj] at h2
  refine ⟨[.int .u8 p], rfl, rfl, fun i u hi => ?_⟩
  have hi2 : i = 0 := by have := (List.getElem?_eq_some_iff.1 hi).1; simp at this; exact this
  subst hi2
  obtain rfl : Value.int .u8 p = u := by simpa using hi
  show (Lib.bytesWorld W e s).cell? (ad.add (j * 1 + 0)) = _
  rw [show j * 1 + 0 = j by omega]
  exact h2
theorem cell_keep {W w' : World} {B : Nat} {v : Value} (hb : Below W.heap.size W w') (hB : B < W.heap.size) (h : W.cell? ⟨B, 0, none⟩ = some v) : w'.cell? ⟨B, 0, none⟩ = some v := (hb.cell (p := ⟨B, 0, none⟩) hB).trans h
theorem lt_keep {W w' : World} {B : Nat} (hb : Below W.heap.size W w') (hB : B < W.heap.size) : B < w'.heap.size := Nat.lt_of_lt_of_le hB hb.size
theorem below_keep {w W w' : World} (hb : Below W.heap.size W w') (h : Below w.heap.size w W) : Below w.heap.size w w' := h.trans (hb.mono h.size)
theorem toList_ne {s t : ByteArray} (h : s ≠ t) : s.toList ≠ t.toList := fun e => h (by
  rw [ByteArray.toList_eq, ByteArray.toList_eq] at e
  exact ByteArray.ext (Array.toList_inj.1 e))
end Go.Proofs.YtgdpeabbmbclbaaDoor.Pr

/- What the program's IsLoop computes. -/
namespace Go.Proofs.YtgdpeabbmbclbaaDoor.Pr
open Go.RowKit Go.Proofs.YtgdpeabbmbclbaaDoorW.PrintWords Go.Proofs.YtgdpeabbmbclbaaDoorW.PrintLast Go.Proofs.YtgdpeabbmbclbaaDoorW.PrintMore
set_option linter.unusedVariables false
set_option linter.unusedSimpArgs false

/-- A byte that a text has not just twice. -/
def missB (w : ByteArray) (c : Int) : Bool := (((w.data.toList.count c.toNat.toUInt8 : Nat) : Int) != 2)
theorem encode_small {c : Int} (h0 : 0 ≤ c) (h1 : c < 128) : Utf8.encode c = ⟨#[c.toNat.toUInt8]⟩ := by
  have h : ∀ n : Fin 128, Utf8.encode (n.val : Int) = ⟨#[n.val.toUInt8]⟩ := by decide +kernel
  obtain ⟨n, rfl⟩ := Int.eq_ofNat_of_zero_le h0
  exact h ⟨n, by omega⟩
theorem count_small (w : ByteArray) (c : Int) (h0 : 0 ≤ c) (h1 : c < 128) (W : World) :
    Calls Tryd.prog 38 #[.string w, .string (Utf8.encode c)] W fun e w' => e = .returned (.int .i64 ((w.data.toList.count c.toNat.toUInt8 : Nat) : Int)) ∧ Drawn0 W w' := by
  rw [encode_small h0 h1]
  exact strings_Count.calls w _ _ W rfl

set_option maxHeartbeats 2000000 in
theorem loop_pred (w0 : ByteArray) (B : Nat) (zs : List Int) (hz : ∀ x ∈ zs, 0 ≤ x ∧ x < 128) (w : World) (hB : B < w.heap.size) (hcell : w.cell? ⟨B, 0, none⟩ = some (.string w0)) :
    PredB 37 #[.pointer (some ⟨B, 0, none⟩)] encB (missB w0) zs w := fun W x hx hb => by
  have hc : W.cell? ⟨B, 0, none⟩ = some (.string w0) := (hb.cell (p := ⟨B, 0, none⟩) hB).trans hcell
  obtain ⟨h0, h1⟩ := hz x hx
  show Calls Tryd.prog 37 #[.int .u8 x, .pointer (some ⟨B, 0, none⟩)] W fun e w' => e = .returned (.bool (missB w0 x)) ∧ Below W.heap.size W w'
  unfold missB
  have HC := Aside0.mk (fun (W1 : World) => count_small w0 x h0 h1 W1)
  generalize ((w0.data.toList.count x.toNat.toUInt8 : Nat) : Int) = r at HC ⊢
  clear hcell hb hx hz
  go_enter Tryd.func37, Tryd.ntmps37
  go_wp2_with (go_at_call 38; refine (HC.out _).mono ?_; rintro e w' ⟨rfl, ⟨nd, rfl⟩⟩)
  go_ret
  exact ⟨by simp, pw_below_drewN (Below.refl _ _) _⟩

/-- What the program's IsLoop tells. -/
def impl_IsLoop.f (k : Nat) (a0 : ByteArray) : Option (Bool) :=
  if a0.size ≤ 16 then
    (if (Lib.trimS a0.data.toList [97, 98, 99, 100, 101, 102, 103, 104] = [] ∧ ∀ x ∈ bytesOf a0, 0 ≤ x ∧ x < 128) then ((impl_named.f k a0).bind fun t => if t = a0 then some (!((bytesOf a0).any (missB a0))) else some false)
    else if Lib.trimS a0.data.toList [97, 98, 99, 100, 101, 102, 103, 104] = [] then none else some false)
  else some false
theorem impl_IsLoop.mono : ∀ a0 k, LeO (impl_IsLoop.f k a0) (impl_IsLoop.f (k + 1) a0) := by
  intro a0 k
  unfold impl_IsLoop.f
  exact LeO.ite (LeO.ite (LeO.bind (impl_named.mono _ _) (fun _ => LeO.refl _)) (LeO.refl _)) (LeO.refl _)

set_option maxHeartbeats 4000000 in
theorem impl_IsLoop.calls (k : Nat) (a0 : ByteArray) (r : Bool) (w : World) (h : impl_IsLoop.f k a0 = some r) :
    Calls Tryd.prog 14 #[.string a0] w fun e w' => e = .returned (.bool r) ∧ Below w.heap.size w w' := by
  have hb0 : Below w.heap.size w (w.alloc (.cells #[.string a0] 9)) := below_alloc (Below.refl _ _) _
  have hs0 : w.heap.size < (w.alloc (.cells #[.string a0] 9)).heap.size := by simp
  have hx0 : (w.alloc (.cells #[.string a0] 9)).cell? ⟨w.heap.size, 0, none⟩ = some (.string a0) := by simp
  have eg : ∀ args w, (callFunc 37 args).run Tryd.prog w = .ok (.enter 37 args) w := enters_of Tryd.func37 (by kernel_rfl) rfl
  unfold impl_IsLoop.f at h
  by_cases hl : a0.size ≤ 16
  · rw [if_pos hl] at h
    have d1 : decide ((a0.size : Int) > 16) = false := decide_eq_false (by omega)
    have hT := Aside0.mk (fun (W : World) => strings_Trim.calls a0 _ _ W (if_pos ⟨by omega, rfl⟩))
    by_cases ht : Lib.trimS a0.data.toList [97, 98, 99, 100, 101, 102, 103, 104] = []
    · by_cases hz : ∀ x ∈ bytesOf a0, 0 ≤ x ∧ x < 128
      · rw [if_pos ⟨ht, hz⟩] at h
        rw [ht] at hT
        obtain ⟨t, hn, h⟩ := Option.bind_eq_some_iff.mp h
        have hN := Aside0.mk (fun (W : World) => impl_named.calls k a0 t W hn)
        go_enter Tryd.func14, Tryd.ntmps14
        have d2 : ((([] : List UInt8) != []) = true) = False := by simp
        have HB0 := Aside0.mk hb0
        clear hb0 ht hn
        by_cases e : t = a0
        · subst e
          rw [if_pos rfl] at h
          have hC := Aside0.mk (fun (W : World) (hB : w.heap.size < W.heap.size) (hc : W.cell? ⟨w.heap.size, 0, none⟩ = some (.string t)) (A : Option Addr) (c : Nat) (hr : Kd.C (Kd.int .u8) W A (bytesOf t).length (bytesOf t)) (hcap : (bytesOf t).length ≤ c) =>
            containsFunc_byte A c (bytesOf t) (missB t) 37 #[.pointer (some ⟨w.heap.size, 0, none⟩)] eg W hr hcap (loop_pred t w.heap.size (bytesOf t) hz W hB hc))
          have hlen := bytesOf_length t
          generalize (bytesOf t).any (missB t) = b at hC h
          obtain rfl := Option.some.inj h
          clear h eg hz
          go_wp2_with fail
          go_region_held3 (fun w' => w'.cell? ⟨w.heap.size, 0, none⟩ = some (.string t) ∧ w.heap.size < w'.heap.size ∧ Below w.heap.size w w')
            ((go_split_ands; refine ⟨?_, ?_, ?_⟩ <;> (first | assumption | exact HB0.out | exact below_drew HB0.out | exact below_drew (by assumption) | exact cell_keep (by assumption) (by assumption) (by assumption) | exact lt_keep (by assumption) (by assumption) | exact below_keep (by assumption) (by assumption) | (simp [*]; done))))
            (first | (go_at_call 34; refine (hT.out _).mono ?_; rintro e w' ⟨rfl, hb⟩) | (go_at_call 35; refine (hN.out _).mono ?_; rintro e w' ⟨rfl, hb2⟩))
          go_split_ands
          rename_i wr hx1 hx2 hx3
          go_wp2_with fail
          rw [print_bytes 9 37 5 Tryd.underlying9 Tryd.underlying37 Tryd.underlying5]
          simp only [Result.andThen]
          rw [Oper.upon_value]
          have hbb : Below w'.heap.size w' (Lib.bytesWorld w' 5 t) := bytes_below (Below.refl _ _) (Nat.le_refl _) 5 t
          have hCC := hC.out _ (lt_keep hbb hx2) (cell_keep hbb hx2 hx1) _ _ (bytes_C w' 5 t (by omega)) (by rw [hlen]; exact grownCap_ge w' t.size 0 5)
          rw [hlen] at hCC
          go_wp2_with (go_at_call 36; refine hCC.mono ?_; rintro e w2 ⟨rfl, hb3⟩)
          go_ret
          exact ⟨by simp, below_keep hb3 (below_keep hbb hx3)⟩
        · rw [if_neg e] at h
          obtain rfl := Option.some.inj h
          have e1 := toList_ne e
          have e2 : (t.toList == a0.toList) = false := beq_eq_false_iff_ne.mpr e1
          clear h eg hz e e1
          go_wp2_with fail
          go_region_held3 (fun w' => w'.cell? ⟨w.heap.size, 0, none⟩ = some (.string a0) ∧ w.heap.size < w'.heap.size ∧ Below w.heap.size w w')
            ((go_split_ands; refine ⟨?_, ?_, ?_⟩ <;> (first | assumption | exact HB0.out | exact below_drew HB0.out | exact below_drew (by assumption) | exact cell_keep (by assumption) (by assumption) (by assumption) | exact lt_keep (by assumption) (by assumption) | exact below_keep (by assumption) (by assumption) | (simp [*]; done))))
            (first | (go_at_call 34; refine (hT.out _).mono ?_; rintro e w' ⟨rfl, hb⟩) | (go_at_call 35; refine (hN.out _).mono ?_; rintro e w' ⟨rfl, hb2⟩))
          go_split_ands
          rename_i wr hx1 hx2 hx3
          go_wp2_with fail
          go_ret
          exact ⟨rfl, hx3⟩
      · rw [if_neg (fun e => hz e.2), if_pos ht] at h; cases h
    · rw [if_neg (fun e => ht e.1), if_neg ht] at h
      obtain rfl := Option.some.inj h
      have HB0 := Aside0.mk hb0
      generalize Lib.trimS a0.data.toList [97, 98, 99, 100, 101, 102, 103, 104] = l at ht hT
      obtain ⟨s, hs⟩ : ∃ s : ByteArray, s = ⟨l.toArray⟩ := ⟨_, rfl⟩
      rw [← hs] at hT
      have hsl : s.toList = l := by rw [hs, ByteArray.toList_eq]
      have e1 : s.toList.isEmpty = false := by rw [hsl]; cases l with
        | nil => exact absurd rfl ht
        | cons y ys => rfl
      have e2 : (s.toList == []) = false := by rw [hsl]; cases l with
        | nil => exact absurd rfl ht
        | cons y ys => rfl
      clear h eg hb0 ht hs hsl
      go_enter Tryd.func14, Tryd.ntmps14
      go_wp2_with fail
      go_region_with ((go_at_call 34; refine (hT.out _).mono ?_; rintro e w' ⟨rfl, hb⟩))
      all_goals (go_wp2_with fail; go_ret; exact ⟨rfl, below_keep hb (below_drew HB0.out)⟩)
  · rw [if_neg hl] at h
    obtain rfl := Option.some.inj h
    have d1 : decide ((a0.size : Int) > 16) = true := decide_eq_true (by omega)
    have HB0 := Aside0.mk hb0
    clear h eg hb0
    go_enter Tryd.func14, Tryd.ntmps14
    go_wp2_with fail
    go_region_with ((fail))
    all_goals (go_wp2_with fail; go_ret; exact ⟨rfl, below_drew HB0.out⟩)
end Go.Proofs.YtgdpeabbmbclbaaDoor.Pr

/- A row of one's own of which no cell is frozen, whatever its mark: a text's bytes, appended to one by one. -/
namespace Go.Proofs.YtgdpeabbmbclbaaDoor.Pr
open Go.RowKit Go.Proofs.YtgdpeabbmbclbaaDoorW.PrintWords Go.Proofs.YtgdpeabbmbclbaaDoorW.PrintLast Go.Proofs.YtgdpeabbmbclbaaDoorW.PrintMore
set_option linter.unusedVariables false
set_option linter.unusedSimpArgs false

/-- The row v of one's own holds xs; its mark touches none of its cells. -/
def OwnT (w : World) (base : Nat) (e : TypeId) (v : Value) (xs : List Value) : Prop :=
  ∃ g cap cur fz, v = .slice (some ⟨g, 0, none⟩) xs.length cap ∧ base ≤ g ∧ w.heap[g]? = some (.cells cur e fz) ∧ (fz.1 < fz.2 → cur.size ≤ fz.1) ∧ xs.length ≤ cap ∧ cap ≤ maxLen ∧ cur.size = cap ∧ cur.toList.take xs.length = xs
theorem OwnT.lt {w : World} {base : Nat} {e : TypeId} {v : Value} {xs : List Value} (h : OwnT w base e v xs) : ∃ g, v.ownBlock = some g ∧ base ≤ g ∧ g < w.heap.size := by
  obtain ⟨g, cap, cur, fz, rfl, hb, hg, _⟩ := h
  exact ⟨g, rfl, hb, (Array.getElem?_eq_some_iff.1 hg).1⟩
theorem OwnT.below {w w' : World} {base : Nat} {e : TypeId} {v : Value} {xs : List Value} (h : OwnT w base e v xs) (hb : Below w.heap.size w w') : OwnT w' base e v xs := by
  obtain ⟨g, cap, cur, fz, hv, hbg, hg, rest⟩ := h
  exact ⟨g, cap, cur, fz, hv, hbg, (hb.block g (Array.getElem?_eq_some_iff.1 hg).1).trans hg, rest⟩
theorem OwnT.cell {w : World} {base : Nat} {e : TypeId} {xs : List Value} {g n cap : Nat} (h : OwnT w base e (.slice (some ⟨g, 0, none⟩) n cap) xs) (j : Nat) (u : Value) (hu : xs[j]? = some u) : w.cell? ⟨g, j, none⟩ = some u := by
  obtain ⟨g', cap', cur, fz, hv, hbg, hg, hfz, hn, hm, hc, ht⟩ := h
  simp only [Value.slice.injEq, Option.some.injEq, Addr.mk.injEq] at hv
  obtain ⟨⟨rfl, _, _⟩, _, _⟩ := hv
  rw [← ht, List.getElem?_take] at hu
  split at hu
  · simp only [World.cell?, hg]
    simpa using hu
  · cases hu
theorem bytes_own (W : World) (e : TypeId) (s : ByteArray) (base : Nat) (hb : base ≤ W.heap.size) (hs : s.size ≤ 1000000) : OwnT (Lib.bytesWorld W e s) base e (.slice (some ⟨W.heap.size, 0, none⟩) s.size (grownCap W s.size 0 e)) (encs (fun (x : Int) => Value.int .u8 x) (bytesOf s)) := by
  have hlen := bytesOf_length s
  have hge := grownCap_ge W s.size 0 e
  have hl : (encs (fun (x : Int) => Value.int .u8 x) (bytesOf s)).length = s.size := by rw [encs_length, hlen]
  have hbs : (Lib.bytesCells W e s).size = grownCap W s.size 0 e := by
    unfold Lib.bytesCells
    rw [Array.size_append, Array.size_map, Array.size_replicate]
    have : s.data.size = s.size := rfl
    omega
  refine ⟨W.heap.size, grownCap W s.size 0 e, _, _, by rw [hl], hb, Lib.bytesWorld_at_new W e s, fun _ => Nat.le_refl _, by omega, grownCap_le_maxLen W s.size 0 e (by simp only [maxLen]; omega), hbs, ?_⟩
  rw [hl]
  unfold Lib.bytesCells
  rw [Array.toList_append, List.take_left' (by rw [Array.length_toList, Array.size_map]; rfl)]
  simp [encs, bytesOf]

/-- One cell more. -/
theorem append_tail {P : Program} (w : World) (base : Nat) (t ty e : TypeId) (i : TypeInfo) (z : Value) (ht : P.underlying t = some (.slice e)) (hi : P.info? e = some i) (hz : i.zero = some z) (hsize : i.size = 1) (hby : i.bytes = 1) (hzs : z.cells.size = 1)
    (v : Value) (xs : List Value) (hown : OwnT w base e v xs) (a : Addr) (c : Nat) (u : Value) (hu : w.cell? a = some u) (h1 : u.oneCell' = true) (hl : xs.length ≤ 1000000) (hbase : base ≤ w.heap.size) :
    ∃ v' w', (Builtin.append_ #[t, t] ty #[v, .slice (some a) 1 c]).run P w = .ok v' w' ∧ OwnT w' base e v' (xs ++ [u]) ∧ w.grownBy w' v.ownBlock := by
  have hn0 : ∀ j u', [u][j]? = some u' → w.cell? (a.add j) = some u' := by
    intro j u' hj
    match j, hj with
    | 0, hj =>
      injection hj with hj
      subst hj
      have : a.add 0 = a := by unfold Addr.add; split <;> simp_all
      rw [this]; exact hu
    | j + 1, hj => simp at hj
  obtain ⟨g, cap, cur, fz, rfl, hbg, hg, hfz, hn, hm, hc, htk⟩ := hown
  by_cases hroom : xs.length + 1 ≤ cap
  · have hf := run_firstCells_some (P := P) w i.size 1 a 1 c [u] (by rw [hsize]; rfl) hn0
    have hlt : xs.length < cur.size := by omega
    have hadd : (⟨g, xs.length, none⟩ : Addr).add 0 = ⟨g, xs.length, none⟩ := by unfold Addr.add; split <;> simp_all
    have hcell : w.cell? ⟨g, xs.length, none⟩ = some cur[xs.length] := by simp [World.cell?, hg, hlt]
    have hfro : w.frozen? ⟨g, xs.length, none⟩ = false := by
      obtain ⟨lo, hi'⟩ := fz
      simp only [World.frozen?, hg, Bool.and_eq_false_iff, decide_eq_false_iff_not]
      simp only at hfz
      by_cases h : lo < hi'
      · left
        have := hfz h
        omega
      · omega
    have hst : (storeCells ⟨g, xs.length, none⟩ [u] 0).run P w = .ok () (w.setRow g (cur.setIfInBounds xs.length u)) := by
      simp only [storeCells, Sem.run_bind, hadd]
      rw [run_store P w _ u _ h1, hcell]
      simp [hfro, setCell_eq_setRow w g xs.length cur e fz u hg, Result.andThen]
    refine ⟨.slice (some ⟨g, 0, none⟩) (xs.length + 1) cap, w.setRow g (cur.setIfInBounds xs.length u), ?_, ⟨g, cap, _, fz, by simp, hbg, setRow_heap w g cur _ e _ hg, ?_, by simpa using hroom, hm, by simpa using hc, ?_⟩, ⟨rfl, rfl, rfl, by simp, fun k _ hk => setRow_other w g k _ (fun e => hk (by simp [Value.ownBlock, e]))⟩⟩
    · simp [Builtin.append_, run_underlying ht, sizeOf, typeInfo, hi, hsize, Builtin.lenOf, hroom, hf, Addr.add_lit, hst]
      rw [hsize] at hf
      rw [hf]
      simp only [Result.andThen]
      rw [hst]
    · intro h
      rw [Array.size_setIfInBounds]
      exact hfz h
    · have hl2 : (xs ++ [u]).length = xs.length + 1 := by simp
      rw [hl2, Array.toList_setIfInBounds]
      have e1 : (cur.toList.set xs.length u).take (xs.length + 1) = cur.toList.take xs.length ++ [u] := by
        rw [List.take_add_one, List.take_set_of_le (Nat.le_refl _), List.getElem?_set_self (by rw [Array.length_toList]; exact hlt)]
        rfl
      rw [e1, htk]
  · have holds : ∀ j u', xs[j]? = some u' → w.cell? ((⟨g, 0, none⟩ : Addr).add j) = some u' := by
      intro j u' hj
      have hadd : (⟨g, 0, none⟩ : Addr).add j = ⟨g, j, none⟩ := by unfold Addr.add; split <;> simp_all
      rw [hadd]
      exact OwnT.cell (base := base) (n := xs.length) (cap := cap) ⟨g, cap, cur, fz, rfl, hbg, hg, hfz, hn, hm, hc, htk⟩ j u' hj
    have hr := run_append_grow (P := P) w t ty e i z ht hi hz ⟨g, 0, none⟩ xs.length cap xs (by rw [hsize]; omega) holds a 1 c [u] (by rw [hsize]; rfl) hn0 (by omega) (by omega) (growslice_fits (by omega) (by rw [hby]; omega))
    have hge := grownCap_ge w (xs.length + 1) cap e
    have hcm2 : grownCap w (xs.length + 1) cap e ≤ maxLen := grownCap_le_maxLen w (xs.length + 1) cap e (by simp only [maxLen]; omega)
    refine ⟨_, _, hr, ⟨w.heap.size, _, _, (0, 0), by simp, hbase, heap_alloc_new w.drew _, fun h => absurd h (by simp), by simpa using hge, hcm2, ?_, ?_⟩, ⟨rfl, rfl, rfl, by simp, fun k hk _ => heap_alloc_old w.drew _ hk⟩⟩
    · simp only [Array.size_append, List.size_toArray, size_zeroCells, hzs]
      simp only [List.length_singleton]
      omega
    · simp only [Array.toList_append, List.append_assoc]
      rw [← List.append_assoc]
      exact List.take_left

theorem wp_append_tail {P : Program} {ops : Array Oper} {rest : List Oper} {o : Oper} {a : Act} {Q : Exit → Act → World → Prop} {w0 W : World} (base : Nat) (hgd : o.guard = none) (s x : Operand) (t e : TypeId) (z : Value)
    (ho : o.op = .call { callee := .builtin .append, args := #[s, x], argTypes := #[t, t] }) (ht : P.underlying t = some (.slice e)) (hinfo : (P.info? e).map (fun i => (i.zero, i.size, i.bytes)) = some (some z, 1, 1)) (hzs : z.cells.size = 1)
    (v : Value) (xs : List Value) (u : Value) (hs : a.eval s = v) (hx : a.eval x = .slice (some ⟨W.heap.size, 0, none⟩) 1 1) (h1 : u.oneCell' = true)
    (HO : OwnT W base e v xs) (HB : Below base w0 W) (hbase : base ≤ W.heap.size) (hl : xs.length ≤ 1000000)
    (h : ∀ v1 w1, OwnT w1 base e v1 (xs ++ [u]) → Below base w0 w1 → wpList P ops Q rest (a.put o.dst v1) w1) : wpList P ops Q (o :: rest) a (W.alloc (.cells #[u] e)) := by
  obtain ⟨i0, hi, hzz⟩ := Option.map_eq_some_iff.1 hinfo
  simp only [Prod.mk.injEq] at hzz
  obtain ⟨hz0, hz1, hz2⟩ := hzz
  have hal : Below W.heap.size W (W.alloc (.cells #[u] e)) := below_alloc (Below.refl _ _) _
  have hu : (W.alloc (.cells #[u] e)).cell? ⟨W.heap.size, 0, none⟩ = some u := by simp
  refine wpList_plain hgd fun K hK => ?_
  obtain ⟨g, hg1, hg2, hg3⟩ := HO.lt
  obtain ⟨v', w', hr, h2, h3⟩ := append_tail (P := P) (W.alloc (.cells #[u] e)) base t o.type e i0 z ht hi hz0 hz1 hz2 hzs v xs (HO.below hal) ⟨W.heap.size, 0, none⟩ 1 u hu h1 hl (Nat.le_trans hbase hal.size)
  unfold Oper.wp execOp
  simp only [ho, resolve, invoke, builtin, Sem.run_bind, Sem.run_pure, Result.andThen_ok, List.map_toArray, List.map_cons, List.map_nil, hs, hx, hr]
  exact hK _ _ (h v' w' h2 ((HB.trans (hal.mono hbase)).grown h3 (Nat.le_trans hbase hal.size) (fun k hk => by rw [hg1] at hk; injection hk with hk; omega)))
/-- The text that such a row is. -/
theorem tail_string {P : Program} {w : World} {base : Nat} {src dst e e' : TypeId} {v : Value} {xs : List Int} (hs : P.underlying src = some (.slice e)) (he : P.underlying e = some (.int .u8)) (hd : P.underlying dst = some .string)
    (h : OwnT w base e' v (encs (fun (x : Int) => Value.int .u8 x) xs)) : (convert src dst v).run P w = .ok (.string (strOfNums xs)) w := by
  have h0 := h
  obtain ⟨g, cap, cur, fz, rfl, hbg, hg, rest⟩ := h
  have hl : (encs (fun (x : Int) => Value.int .u8 x) xs).length = xs.length := encs_length ..
  rw [hl] at h0 ⊢
  refine run_convert_bytes_arg w src e hs he g 0 xs.length cap xs rfl (fun i hi => ?_) dst hd
  have hc := OwnT.cell h0 i (.int .u8 (xs.getD i 0)) (by simp [encs, List.getElem?_eq_getElem hi, List.getD_eq_getElem?_getD])
  rw [Nat.zero_add]
  exact hc
end Go.Proofs.YtgdpeabbmbclbaaDoor.Pr

/- Steps for functions with a number of rounds: what holds from some number of rounds on. -/
namespace Go.Proofs.YtgdpeabbmbclbaaDoor.M
open Go.RowKit Go.Proofs.YtgdpeabbmbclbaaDoorW.PrintWords
set_option linter.unusedVariables false
set_option linter.unusedSimpArgs false

theorem w64 {x : Int} (h0 : -9223372036854775808 ≤ x) (h1 : x ≤ 9223372036854775807) : wrap64 x = x := by
  unfold wrap64
  omega

theorem Ev.pos {α : Type} {c : Prop} [Decidable c] {A B : Nat → Option α} {r : α} (h : c) (e : Ev A r) : Ev (fun k => if c then A k else B k) r := by
  simp only [h, if_true]
  exact e
theorem Ev.neg {α : Type} {c : Prop} [Decidable c] {A B : Nat → Option α} {r : α} (h : ¬ c) (e : Ev B r) : Ev (fun k => if c then A k else B k) r := by
  simp only [h, if_false]
  exact e
theorem Ev.bindc {α β : Type} {o : Option α} {f : Nat → α → Option β} {a : α} {r : β} (h : o = some a) (e : Ev (fun k => f k a) r) : Ev (fun k => o.bind (f k)) r := by
  subst h
  exact e
theorem Ev.bindk {α β : Type} {g : Nat → Option α} {f : Nat → α → Option β} {a : α} {r : β} (h : Ev g a) (e : Ev (fun k => f k a) r) : Ev (fun k => (g k).bind (f k)) r := Ev.bind h e
theorem Ev.val {α : Type} {r r' : α} (h : r = r') : Ev (fun _ => some r) r' := by
  subst h
  exact Ev.now r
/-- Two values of one thing are one. -/
theorem Ev.uniq {α : Type} {g : Nat → Option α} {r r' : α} (h : Ev g r) (h' : Ev g r') : r = r' := by
  obtain ⟨K, h⟩ := h
  obtain ⟨K', h'⟩ := h'
  have e := (h (max K K') (Nat.le_max_left _ _)).symm.trans (h' (max K K') (Nat.le_max_right _ _))
  exact Option.some.inj e

/-- A loop over a list by its index: what is left of the list decides the answer R; P is kept. -/
theorem Ev.scan {α β γ : Type} (L : Nat → Int → β → Option γ) (xs : List α) (R : List α → β → γ) (P : Nat → β → Prop)
    (h0 : ∀ acc, P xs.length acc → Ev (fun k => L k (xs.length : Int) acc) (R [] acc))
    (h1 : ∀ (i : Nat) (h : i < xs.length) (acc : β), P i acc → (∃ acc', P (i + 1) acc' ∧ R (xs[i] :: xs.drop (i + 1)) acc = R (xs.drop (i + 1)) acc' ∧ ∀ r, Ev (fun k => L k ((i : Int) + 1) acc') r → Ev (fun k => L k (i : Int) acc) r)
      ∨ Ev (fun k => L k (i : Int) acc) (R (xs[i] :: xs.drop (i + 1)) acc)) :
    ∀ (d i : Nat) (acc : β), i + d = xs.length → P i acc → Ev (fun k => L k (i : Int) acc) (R (xs.drop i) acc) := by
  intro d
  induction d with
  | zero =>
    intro i acc hi hp
    obtain rfl : i = xs.length := by omega
    rw [List.drop_length]
    exact h0 acc hp
  | succ d ih =>
    intro i acc hi hp
    have hlt : i < xs.length := by omega
    rw [List.drop_eq_getElem_cons hlt]
    rcases h1 i hlt acc hp with ⟨acc', hp', hR, hk⟩ | h
    · rw [hR]
      refine hk _ ?_
      have e := ih (i + 1) acc' (by omega) hp'
      rw [show (((i + 1 : Nat)) : Int) = (i : Int) + 1 from by omega] at e
      exact e
    · exact h
theorem Ev.scan0 {α β γ : Type} (L : Nat → Int → β → Option γ) (xs : List α) (R : List α → β → γ) (P : Nat → β → Prop)
    (h0 : ∀ acc, P xs.length acc → Ev (fun k => L k (xs.length : Int) acc) (R [] acc))
    (h1 : ∀ (i : Nat) (h : i < xs.length) (acc : β), P i acc → (∃ acc', P (i + 1) acc' ∧ R (xs[i] :: xs.drop (i + 1)) acc = R (xs.drop (i + 1)) acc' ∧ ∀ r, Ev (fun k => L k ((i : Int) + 1) acc') r → Ev (fun k => L k (i : Int) acc) r)
      ∨ Ev (fun k => L k (i : Int) acc) (R (xs[i] :: xs.drop (i + 1)) acc)) (acc : β) (hp : P 0 acc) : Ev (fun k => L k 0 acc) (R xs acc) := by
  have e := Ev.scan L xs R P h0 h1 xs.length 0 acc (by omega) hp
  simpa using e

/-- Counting up from i to n. -/
theorem Ev.upto {β γ : Type} (L : Nat → Int → β → Option γ) (n : Int) (R : Int → β → γ) (P : Int → β → Prop)
    (h0 : ∀ i acc, n ≤ i → P i acc → Ev (fun k => L k i acc) (R i acc))
    (h1 : ∀ i acc, i < n → P i acc → (∃ acc', P (i + 1) acc' ∧ R i acc = R (i + 1) acc' ∧ ∀ r, Ev (fun k => L k (i + 1) acc') r → Ev (fun k => L k i acc) r) ∨ Ev (fun k => L k i acc) (R i acc)) :
    ∀ (d : Nat) (i : Int) (acc : β), n ≤ i + d → P i acc → Ev (fun k => L k i acc) (R i acc) := by
  intro d
  induction d with
  | zero => intro i acc hi hp; exact h0 i acc (by omega) hp
  | succ d ih =>
    intro i acc hi hp
    by_cases hlt : i < n
    · rcases h1 i acc hlt hp with ⟨acc', hp', hR, hk⟩ | h
      · rw [hR]
        exact hk _ (ih (i + 1) acc' (by omega) hp')
      · exact h
    · exact h0 i acc (by omega) hp
end Go.Proofs.YtgdpeabbmbclbaaDoor.M

/- Texts as lists of bytes. -/
namespace Go.Proofs.YtgdpeabbmbclbaaDoor.M
open Go.RowKit Go.Proofs.YtgdpeabbmbclbaaDoorW.PrintWords
set_option linter.unusedVariables false
set_option linter.unusedSimpArgs false

/-- A loop over a list inside another one: what is left of the list decides the state in which the rest goes on. -/
theorem Ev.cpsB {α β γ : Type} (L : Nat → Int → β → Option γ) (K : Nat → β → Option γ) (xs : List α) (F : List α → β → β) (P : Nat → β → Prop)
    (h0 : ∀ acc r, P xs.length acc → Ev (fun k => K k (F [] acc)) r → Ev (fun k => L k (xs.length : Int) acc) r)
    (h1 : ∀ (i : Nat) (h : i < xs.length) (acc : β), P i acc → ∃ acc', P (i + 1) acc' ∧ F (xs[i] :: xs.drop (i + 1)) acc = F (xs.drop (i + 1)) acc' ∧ ∀ r, Ev (fun k => L k ((i : Int) + 1) acc') r → Ev (fun k => L k (i : Int) acc) r) :
    ∀ (d i : Nat) (acc : β) (r : γ), i + d = xs.length → P i acc → Ev (fun k => K k (F (xs.drop i) acc)) r → Ev (fun k => L k (i : Int) acc) r := by
  intro d
  induction d with
  | zero =>
    intro i acc r hi hp hr
    obtain rfl : i = xs.length := by omega
    rw [List.drop_length] at hr
    exact h0 acc r hp hr
  | succ d ih =>
    intro i acc r hi hp hr
    have hlt : i < xs.length := by omega
    rw [List.drop_eq_getElem_cons hlt] at hr
    obtain ⟨acc', hp', hF, hk⟩ := h1 i hlt acc hp
    rw [hF] at hr
    refine hk r ?_
    have e := ih (i + 1) acc' r (by omega) hp' hr
    rw [show (((i + 1 : Nat)) : Int) = (i : Int) + 1 from by omega] at e
    exact e

theorem bytesOf_get (s : ByteArray) (i : Nat) (h : i < (bytesOf s).length) : bt s (i : Int) = (bytesOf s)[i] := by
  rw [← rd_bytesOf]
  unfold rd
  simp [List.getD_eq_getElem?_getD, List.getElem?_eq_getElem h]
theorem bytesOf_byte (s : ByteArray) : ∀ x ∈ bytesOf s, 0 ≤ x ∧ x < 256 := by
  intro x hx
  obtain ⟨b, _, rfl⟩ := List.mem_map.1 hx
  have := b.toNat_lt
  omega
theorem bytesOf_append (s t : ByteArray) : bytesOf (s ++ t) = bytesOf s ++ bytesOf t := by
  unfold bytesOf
  rw [ByteArray.data_append]
  simp
theorem bytesOf_extract (s : ByteArray) (a b : Nat) : bytesOf (s.extract a b) = ((bytesOf s).take b).drop a := by
  unfold bytesOf
  rw [ByteArray.data_extract, Array.toList_extract, List.extract_eq_take_drop, List.map_take, List.map_drop, List.drop_take]
theorem bytesOf_nil : bytesOf ⟨#[]⟩ = [] := rfl
theorem bytesOf_inj {s t : ByteArray} (h : bytesOf s = bytesOf t) : s = t := by
  have e : s.data.toList = t.data.toList := by
    refine (List.map_inj_right ?_).1 h
    intro a b hab
    exact UInt8.toNat_inj.1 (by omega)
  exact ByteArray.ext (Array.toList_inj.1 e)
theorem bytesOf_strOf (xs : List Int) (h : ∀ x ∈ xs, 0 ≤ x ∧ x < 256) : bytesOf (strOfNums xs) = xs := by
  unfold bytesOf strOfNums
  simp only [List.map_map]
  conv => rhs; rw [← List.map_id xs]
  refine List.map_congr_left fun x hx => ?_
  have := h x hx
  simp
  omega
theorem strOf_bytesOf (s : ByteArray) : strOfNums (bytesOf s) = s := bytesOf_inj (bytesOf_strOf _ (bytesOf_byte s))
theorem toList_inj {s t : ByteArray} : s.toList = t.toList ↔ s = t := by
  constructor
  · intro e
    rw [ByteArray.toList_eq, ByteArray.toList_eq] at e
    exact ByteArray.ext (Array.toList_inj.1 e)
  · rintro rfl; rfl
theorem toList_beq (s t : ByteArray) : (s.toList == t.toList) = (bytesOf s == bytesOf t) := by
  rw [Bool.eq_iff_iff, beq_iff_eq, beq_iff_eq, toList_inj]
  exact ⟨fun e => by rw [e], bytesOf_inj⟩
/-- One byte of a text, as a text. -/
theorem bytesOf_one (s : ByteArray) (i : Nat) (h : i < (bytesOf s).length) : bytesOf (s.extract i (i + 1)) = [(bytesOf s)[i]] := by
  rw [bytesOf_extract, List.take_succ_eq_append_getElem h, List.drop_append_of_le_length (by simp; omega), List.drop_of_length_le (by simp; omega)]
  rfl

/-- The place of a byte, or -1. -/
def ixL (l : List Int) (x : Int) : Int := if x ∈ l then (l.idxOf x : Int) else -1
theorem index_eq : ∀ (l : List UInt8) (x : Int), 0 ≤ x → x < 256 → Lib.indexByte l x.toNat.toUInt8 = ixL (l.map fun b => (b.toNat : Int)) x
  | [], x, _, _ => rfl
  | b :: l, x, h0, h1 => by
    have ih := index_eq l x h0 h1
    have hb := b.toNat_lt
    have e1 : (b == x.toNat.toUInt8) = ((b.toNat : Int) == x) := by
      rw [Bool.eq_iff_iff, beq_iff_eq, beq_iff_eq]
      constructor
      · rintro rfl
        simp
        omega
      · intro e
        subst e
        simp
    unfold Lib.indexByte ixL
    rw [ih, e1]
    unfold ixL
    rw [List.map_cons, List.idxOf_cons]
    by_cases e : (b.toNat : Int) = x
    · rw [if_pos (by simpa using e), if_pos (by simp [e])]
      simp [e]
    · have e2 : ((b.toNat : Int) == x) = false := by simpa using e
      rw [e2]
      simp only [Bool.false_eq_true, if_false, cond_false]
      by_cases hm : x ∈ l.map fun b => (b.toNat : Int)
      · rw [if_pos hm, if_pos (List.mem_cons_of_mem _ hm), if_neg (by simp)]
        omega
      · rw [if_neg hm, if_neg (c := x ∈ _ :: _) (by simp only [List.mem_cons, not_or]; exact ⟨fun h => e h.symm, hm⟩)]
        rfl
theorem indexB_eq (s : ByteArray) (x : Int) (h0 : 0 ≤ x) (h1 : x < 256) : Lib.indexByte s.data.toList x.toNat.toUInt8 = ixL (bytesOf s) x := index_eq _ x h0 h1
theorem count_eq (s : ByteArray) (x : Int) (h0 : 0 ≤ x) (h1 : x < 256) : s.data.toList.count x.toNat.toUInt8 = (bytesOf s).count x := by
  unfold bytesOf
  generalize s.data.toList = l
  induction l with
  | nil => rfl
  | cons b l ih =>
    have hb := b.toNat_lt
    rw [List.map_cons, List.count_cons, List.count_cons, ih]
    congr 1
    have e1 : (b == x.toNat.toUInt8) = ((b.toNat : Int) == x) := by
      rw [Bool.eq_iff_iff, beq_iff_eq, beq_iff_eq]
      constructor
      · rintro rfl
        simp
        omega
      · intro e
        subst e
        simp
    rw [e1]
end Go.Proofs.YtgdpeabbmbclbaaDoor.M

/- What the program's JoinLoops computes. -/
namespace Go.Proofs.YtgdpeabbmbclbaaDoor.Pr
open Go.RowKit Go.Proofs.YtgdpeabbmbclbaaDoorW.PrintWords Go.Proofs.YtgdpeabbmbclbaaDoorW.PrintLast Go.Proofs.YtgdpeabbmbclbaaDoorW.PrintMore
set_option linter.unusedVariables false
set_option linter.unusedSimpArgs false

/-- Letters moved on. -/
def moveL (m : Nat) (l : List Int) : List Int := l.map fun x => x + (m : Int)
def impl_JoinLoops.f (k : Nat) (a0 : ByteArray) (a1 : ByteArray) : Option (ByteArray × Bool) :=
  (impl_IsLoop.f k a0).bind fun g => if g = true then ((impl_IsLoop.f k a1).bind fun g2 => if g2 = true then (if (a0.size ≤ 16 ∧ a1.size ≤ 16) ∧ (bytesOf a1).all (fun x => decide (x < 128)) = true then (if a0.size + a1.size ≤ 16 then some (strOfNums (bytesOf a0 ++ moveL (a0.size / 2) (bytesOf a1)), true) else some (⟨#[]⟩, false)) else none) else some (⟨#[]⟩, false)) else some (⟨#[]⟩, false)
theorem impl_JoinLoops.mono : ∀ a0 a1 k, LeO (impl_JoinLoops.f k a0 a1) (impl_JoinLoops.f (k + 1) a0 a1) := by
  intro a0 a1 k
  unfold impl_JoinLoops.f
  exact LeO.bind (impl_IsLoop.mono _ _) (fun _ => LeO.ite (LeO.bind (impl_IsLoop.mono _ _) (fun _ => LeO.refl _)) (LeO.refl _))

set_option maxHeartbeats 1000000 in
set_option maxRecDepth 100000 in
theorem impl_JoinLoops.calls (k : Nat) (a0 : ByteArray) (a1 : ByteArray) (r1 : ByteArray) (r2 : Bool) (w : World) (h : impl_JoinLoops.f k a0 a1 = some (r1, r2)) :
    Calls Tryd.prog 20 #[.string a0, .string a1] w fun e w' => e = .returned (.tuple #[.string r1, .bool r2]) ∧ Below w.heap.size w w' := by
  obtain ⟨g, hg, h⟩ := Option.bind_eq_some_iff.mp h
  have HG1 := Aside0.mk (fun (W : World) => impl_IsLoop.calls k a0 g W hg)
  cases g with
  | false =>
    rw [if_neg (by decide)] at h
    obtain ⟨rfl, rfl⟩ := Prod.mk.inj (Option.some.inj h)
    clear h hg
    go_enter Tryd.func20, Tryd.ntmps20
    go_wp2_with (go_at_call 14; refine (HG1.out _).mono ?_; rintro e w1 ⟨rfl, hb⟩)
    go_ret2
    exact ⟨rfl, hb⟩
  | true =>
    rw [if_pos rfl] at h
    obtain ⟨g2, hg2, h⟩ := Option.bind_eq_some_iff.mp h
    have HG2 := Aside0.mk (fun (W : World) => impl_IsLoop.calls k a1 g2 W hg2)
    cases g2 with
    | false =>
      rw [if_neg (by decide)] at h
      obtain ⟨rfl, rfl⟩ := Prod.mk.inj (Option.some.inj h)
      clear h hg hg2
      go_enter Tryd.func20, Tryd.ntmps20
      go_wp2_with (first | (go_at_call 14; with_reducible refine (HG1.out _).mono ?_; rintro e w1 ⟨rfl, hb⟩) | (go_at_call 14; with_reducible refine (HG2.out _).mono ?_; rintro e w2 ⟨rfl, hb2⟩))
      go_ret2
      exact ⟨rfl, hb.trans (hb2.mono hb.size)⟩
    | true =>
      rw [if_pos rfl] at h
      by_cases hd : (a0.size ≤ 16 ∧ a1.size ≤ 16) ∧ (bytesOf a1).all (fun x => decide (x < 128)) = true
      · rw [if_pos hd] at h
        obtain ⟨⟨h16, h16b⟩, hall⟩ := hd
        have hlen := bytesOf_length a1
        clear hg hg2
        by_cases hs : a0.size + a1.size ≤ 16
        · rw [if_pos hs] at h
          obtain ⟨rfl, rfl⟩ := Prod.mk.inj (Option.some.inj h)
          clear h
          have c1 : decide ((a0.size : Int) + (a1.size : Int) > 16) = false := decide_eq_false (by omega)
          have c2 : decide (16 < (a0.size : Int) + (a1.size : Int)) = false := decide_eq_false (by omega)
          have c3 : IntKind.i64.wrap ((a0.size : Int) + (a1.size : Int)) = (a0.size : Int) + (a1.size : Int) := IntWalk.i64_in _ (by omega)
          go_enter Tryd.func20, Tryd.ntmps20
          go_wp2_with (first | (go_at_call 14; with_reducible refine (HG1.out _).mono ?_; rintro e w1 ⟨rfl, hb⟩) | (go_at_call 14; with_reducible refine (HG2.out _).mono ?_; rintro e w2 ⟨rfl, hb2⟩))
          rw [print_bytes 9 37 5 Tryd.underlying9 Tryd.underlying37 Tryd.underlying5]
          simp only [Result.andThen]
          rw [Oper.upon_value]
          have HB := Aside0.mk (bytes_below (hb.trans (hb2.mono hb.size)) (Nat.le_trans hb.size hb2.size) 5 a0)
          have HO := Aside0.mk (bytes_own w2 5 a0 w.heap.size (Nat.le_trans hb.size hb2.size) (by omega))
          clear HG1 HG2 hb hb2
          generalize grownCap w2 a0.size 0 5 = cp at HO ⊢
          generalize Lib.bytesWorld w2 5 a0 = W1 at HB HO ⊢
          generalize w2.heap.size = B1 at HO ⊢
          obtain ⟨xs0, hxs0⟩ : ∃ xs0, xs0 = bytesOf a0 := ⟨_, rfl⟩
          have hl0 : xs0.length = a0.size := by rw [hxs0, bytesOf_length]
          rw [← hxs0] at HO
          obtain ⟨v0, hv0⟩ : ∃ v0, v0 = Value.slice (some ⟨B1, 0, none⟩) a0.size cp := ⟨_, rfl⟩
          rw [← hv0] at HO ⊢
          clear hv0
          have HR := Aside0.mk (show bytesOf a0 ++ moveL (a0.size / 2) (bytesOf a1) = xs0 ++ moveL (a0.size / 2) ((bytesOf a1).drop 0) by rw [hxs0, List.drop_zero])
          clear hxs0
          obtain ⟨res, hres⟩ : ∃ res, res = bytesOf a0 ++ moveL (a0.size / 2) (bytesOf a1) := ⟨_, rfl⟩
          rw [← hres] at HR
          have HRes := Aside0.mk hres
          clear hres
          go_wp2_with fail
          go_loopg [6, 28] a1.size (fun gg v6 v28 w' => ∃ (i : Nat) (xs : List Int), v28 = .int .i64 i ∧ Aside0 (i + gg = a1.size) ∧ Aside0 (xs.length = a0.size + i) ∧ Aside0 (res = xs ++ moveL (a0.size / 2) ((bytesOf a1).drop i)) ∧ Aside0 (OwnT w' w.heap.size 5 v6 (encs (fun (x : Int) => Value.int .u8 x) xs)) ∧ Aside0 (Below w.heap.size w w'))
          case atStart => exact ⟨0, xs0, rfl, ⟨by omega⟩, ⟨by omega⟩, HR, HO, HB⟩
          case round =>
            obtain ⟨i, xs, rfl, HG, HL, HR1, HO1, HB1⟩ := hrel
            clear HR HO HB
            by_cases hp : i < a1.size
            · have c4b0 : decide ((i : Int) < (a1.size : Int)) = true := decide_eq_true (by omega)
              have c5b0 : decide (i < a1.size) = true := decide_eq_true hp
              have c6 : (i : Int) < (a1.size : Int) := by omega
              have c7 : ((a1.size : Int) ≤ (i : Int)) = False := eq_false (by omega)
              obtain ⟨gn, rfl⟩ : ∃ gn, gk = gn + 1 := ⟨gk - 1, by have := HG.out; omega⟩
              have hb7 : (bytesOf a1)[i]'(by omega) = ((a1[i]'hp).toNat : Int) := by
                simp only [bytesOf, List.getElem_map]
                rfl
              have h128 : ((a1[i]'hp).toNat : Int) < 128 := by
                have h5 := List.all_eq_true.1 hall _ (List.getElem_mem (show i < (bytesOf a1).length by omega))
                rw [hb7] at h5
                exact of_decide_eq_true h5
              have hm : ((a0.size : Int) / 2) = ((a0.size / 2 : Nat) : Int) := by omega
              have hsum : (((a1[i]'hp).toNat : Int) + (a0.size : Int) / 2) % 256 = ((a1[i]'hp).toNat : Int) + ((a0.size / 2 : Nat) : Int) := by omega
              have HR2 := Aside0.mk (show res = (xs ++ [(((a1[i]'hp).toNat : Int) + (a0.size : Int) / 2) % 256]) ++ moveL (a0.size / 2) ((bytesOf a1).drop (i + 1)) by
                rw [HR1.out, List.drop_eq_getElem_cons (show i < (bytesOf a1).length by omega), hb7, hsum, List.append_assoc]
                rfl)
              have HEn := Aside0.mk (fun (y : Int) => (show encs (fun (x : Int) => Value.int .u8 x) (xs ++ [y]) = encs (fun (x : Int) => Value.int .u8 x) xs ++ [Value.int .u8 y] from by simp [encs]))
              have hel : (encs (fun (x : Int) => Value.int .u8 x) xs).length ≤ 1000000 := by rw [encs_length]; have := HL.out; omega
              have HEl := Aside0.mk hel
              clear hb7 h128 hm hsum HR1 hel
              go_wp2_with (first | ((with_reducible refine gate_builtin (b := .append) (xs := #[.tmp 31, .tmp 40]) rfl ?_); at_builtin; refine wp_append_tail (w0 := w) w.heap.size rfl (.tmp 31) (.tmp 40) 37 5 (.int .u8 0) rfl Tryd.underlying37 info5 rfl u6 (encs (fun (x : Int) => Value.int .u8 x) xs) _ rfl rfl rfl HO1.out HB1.out (Nat.le_trans (Nat.le_refl _) HB1.out.size) HEl.out ?_; intro v7 w7 ho hb7; have HO7 := Aside0.mk ho; have HB7 := Aside0.mk hb7; clear ho hb7))
              go_roundg gn
              case measure => omega
              case rel => exact ⟨i + 1, xs ++ [(((a1[i]'hp).toNat : Int) + (a0.size : Int) / 2) % 256], by first | rfl | (simp; done), ⟨by have := HG.out; omega⟩, ⟨by have := HL.out; simp; omega⟩, HR2, ⟨by rw [HEn.out]; exact HO7.out⟩, HB7⟩
            · have c4b0 : decide ((i : Int) < (a1.size : Int)) = false := decide_eq_false (by omega)
              have c5b0 : decide (i < a1.size) = false := decide_eq_false hp
              have HE := Aside0.mk (show res = xs by
                have h5 := HR1.out
                rw [List.drop_of_length_le (by omega)] at h5
                rw [h5]
                simp [moveL])
              have hcv := tail_string (P := Tryd.prog) Tryd.underlying37 Tryd.underlying5 Tryd.underlying9 HO1.out
              go_wp2_with fail
              go_ret2
              exact ⟨by rw [← HRes.out, HE.out]; rfl, HB1.out⟩
        · rw [if_neg hs] at h
          obtain ⟨rfl, rfl⟩ := Prod.mk.inj (Option.some.inj h)
          clear h
          have c1 : decide ((a0.size : Int) + (a1.size : Int) > 16) = true := decide_eq_true (by omega)
          have c2 : decide (16 < (a0.size : Int) + (a1.size : Int)) = true := decide_eq_true (by omega)
          have c3 : IntKind.i64.wrap ((a0.size : Int) + (a1.size : Int)) = (a0.size : Int) + (a1.size : Int) := IntWalk.i64_in _ (by omega)
          go_enter Tryd.func20, Tryd.ntmps20
          go_wp2_with (first | (go_at_call 14; with_reducible refine (HG1.out _).mono ?_; rintro e w1 ⟨rfl, hb⟩) | (go_at_call 14; with_reducible refine (HG2.out _).mono ?_; rintro e w2 ⟨rfl, hb2⟩))
          go_ret2
          exact ⟨rfl, hb.trans (hb2.mono hb.size)⟩
      · rw [if_neg hd] at h; cases h
end Go.Proofs.YtgdpeabbmbclbaaDoor.Pr

-- Written by a program for this claim.
namespace Go.Proofs.YtgdpeabbmbclbaaDoor.Pr
open Go.RowKit Go.Proofs.YtgdpeabbmbclbaaDoorW.PrintWords Go.Proofs.YtgdpeabbmbclbaaDoorW.PrintLast Go.Proofs.YtgdpeabbmbclbaaDoorW.PrintMore
attribute [local go_sem] max2_int min2_int max_two min_two max_three min_three max_four min_four   -- for this text's walks alone
set_option linter.unusedVariables false
set_option linter.unusedSimpArgs false

/-! ### laws_FnExactJoinLoops: function 6 -/
def laws_FnExactJoinLoops.f (k : Nat) (a0 : ByteArray) (a1 : ByteArray) : Option (Bool) := if (a0.size : Int) > 1048576 then (some true) else (if (a1.size : Int) > 1048576 then (some true) else ((spec_JoinLoops.f k a0 a1).bind fun bt139 => ((impl_JoinLoops.f k a0 a1).bind fun bt141 => (if bt141.1.toList = bt139.1.toList then (if (bt141.2 != bt139.2) = true then (some false) else (some true)) else (some false)))))
theorem laws_FnExactJoinLoops.mono : ∀ a0 a1 k, LeO (laws_FnExactJoinLoops.f k a0 a1) (laws_FnExactJoinLoops.f (k + 1) a0 a1) := by
  intro a0 a1 k
  unfold laws_FnExactJoinLoops.f
  repeat' first
      | (with_reducible exact impl_JoinLoops.mono _ _ _)
      | (with_reducible exact spec_JoinLoops.mono _ _ _)
      | (with_reducible exact LeO.refl _)
      | (with_reducible exact LeO.none _)
      | (with_reducible refine LeO.ite ?_ ?_)
      | (with_reducible refine LeO.bind ?_ (fun _ => ?_))
      | exact impl_JoinLoops.mono _ _ _
      | exact spec_JoinLoops.mono _ _ _
      | exact LeO.none _
      | refine LeO.ite ?_ ?_
      | refine LeO.bind ?_ (fun _ => ?_)
set_option maxHeartbeats 8000000 in
set_option maxRecDepth 100000 in
theorem laws_FnExactJoinLoops.calls (k : Nat) (a0 : ByteArray) (a1 : ByteArray) (r : Bool) (w : World) (h : laws_FnExactJoinLoops.f k a0 a1 = some r) :
    Calls Tryd.prog 6 #[.string a0, .string a1] w fun e w' => e = .returned (.bool r) ∧ Below w.heap.size w w' := by
  have HB := Aside0.mk (Below.refl w.heap.size w)
  have H : (if (a0.size : Int) > 1048576 then (some true) else (if (a1.size : Int) > 1048576 then (some true) else ((spec_JoinLoops.f k a0 a1).bind fun bt139 => ((impl_JoinLoops.f k a0 a1).bind fun bt141 => (if bt141.1.toList = bt139.1.toList then (if (bt141.2 != bt139.2) = true then (some false) else (some true)) else (some false)))))) = some r := h
  clear h
  by_cases c3 : (a0.size : Int) > 1048576
  · rw [if_pos c3] at H
    have c3b0 : decide (1048576 < (a0.size : Int)) = true := decide_eq_true c3
    have c3b1 : decide (1048576 < a0.size) = true := decide_eq_true (by omega)
    clear c3
    obtain rfl := Option.some.inj H
    go_enter Tryd.func6, Tryd.ntmps6
    go_wp2
    go_ret
    exact ⟨by first | rfl | (simp [errW_none, errW_some] <;> rfl) | (simp [*, errW_none, errW_some] <;> rfl), by repeat (first | (with_reducible first | exact HB.out | apply below_alloc | apply pw_below_drewN | apply below_drew1) | exact HB.out)⟩
  · rw [if_neg c3] at H
    have c3b0 : decide (1048576 < (a0.size : Int)) = false := decide_eq_false c3
    have c3b1 : decide (1048576 < a0.size) = false := decide_eq_false (by omega)
    clear c3
    by_cases c4 : (a1.size : Int) > 1048576
    · rw [if_pos c4] at H
      have c4b0 : decide (1048576 < (a1.size : Int)) = true := decide_eq_true c4
      have c4b1 : decide (1048576 < a1.size) = true := decide_eq_true (by omega)
      clear c4
      obtain rfl := Option.some.inj H
      go_enter Tryd.func6, Tryd.ntmps6
      go_wp2
      go_ret
      exact ⟨by first | rfl | (simp [errW_none, errW_some] <;> rfl) | (simp [*, errW_none, errW_some] <;> rfl), by repeat (first | (with_reducible first | exact HB.out | apply below_alloc | apply pw_below_drewN | apply below_drew1) | exact HB.out)⟩
    · rw [if_neg c4] at H
      have c4b0 : decide (1048576 < (a1.size : Int)) = false := decide_eq_false c4
      have c4b1 : decide (1048576 < a1.size) = false := decide_eq_false (by omega)
      clear c4
      replace H := Option.bind_eq_some_iff.mp H
      obtain ⟨⟨t139, t140⟩, A50, H⟩ := H
      replace H : ((impl_JoinLoops.f k a0 a1).bind fun bt141 => (if bt141.1.toList = t139.toList then (if (bt141.2 != t140) = true then (some false) else (some true)) else (some false))) = some r := H
      have A5 := Aside0.mk A50
      clear A50
      replace H := Option.bind_eq_some_iff.mp H
      obtain ⟨⟨t141, t142⟩, A60, H⟩ := H
      replace H : (if t141.toList = t139.toList then (if (t142 != t140) = true then (some false) else (some true)) else (some false)) = some r := H
      have A6 := Aside0.mk A60
      clear A60
      by_cases c7 : t141.toList = t139.toList
      · rw [if_pos c7] at H
        have c7b0 : (t141.toList == t139.toList) = true := beq_iff_eq.mpr c7
        have c7b1 : (t141.toList != t139.toList) = false := bne_eq_false_iff_eq.mpr c7
        clear c7
        by_cases c8 : (t142 != t140) = true
        · rw [if_pos c8] at H
          have c8b0 : (t142 != t140) = true := c8
          (try (have c8b1 : decide (t142 = t140) = false := by simpa using c8))
          (try (have c8b2 : (t142 == t140) = false := by simpa using c8))
          (try (have c8b3 : ¬ (t142 = t140) := by simpa using c8))
          clear c8
          obtain rfl := Option.some.inj H
          go_enter Tryd.func6, Tryd.ntmps6
          go_wp2_with (first | ((with_reducible refine gate_callee (f := 19) rfl ?_); refine goesL_ (some 18) rfl rfl Tryd.func19 (by kernel_rfl) rfl #[.string a0, .string a1] rfl (by (try simp only [List.map_toArray, List.map_cons, List.map_nil]); first | done | rfl | (simp only [List.length_drop, List.length_take]; rfl)) ?_; (with_reducible refine (spec_JoinLoops.calls k a0 a1 t139 t140 _ A5.out).mono ?_); rintro e w' ⟨rfl, ⟨nd, rfl⟩⟩; refine ⟨_, rfl, ?_⟩) | ((with_reducible refine gate_callee (f := 20) rfl ?_); refine goesL_ (some 24) rfl rfl Tryd.func20 (by kernel_rfl) rfl #[.string a0, .string a1] rfl (by (try simp only [List.map_toArray, List.map_cons, List.map_nil]); first | done | rfl | (simp only [List.length_drop, List.length_take]; rfl)) ?_; (with_reducible refine (impl_JoinLoops.calls k a0 a1 t141 t142 _ A6.out).mono ?_); rintro e w9 ⟨rfl, hb⟩; refine ⟨_, rfl, ?_⟩; have n0_ := Aside0.mk (below_step (by repeat (first | (with_reducible first | exact HB.out | apply below_alloc | apply pw_below_drewN | apply below_drew1) | exact HB.out)) hb); clear HB; have HB := n0_; clear n0_; (try clear hb); (try clear hb2); (try clear hk); (try clear hi)))
          go_ret
          exact ⟨by first | rfl | (simp [errW_none, errW_some] <;> rfl) | (simp [*, errW_none, errW_some] <;> rfl), by repeat (first | (with_reducible first | exact HB.out | apply below_alloc | apply pw_below_drewN | apply below_drew1) | exact HB.out)⟩
        · rw [if_neg c8] at H
          have c8b0 : (t142 != t140) = false := by simpa using c8
          (try (have c8b1 : decide (t142 = t140) = true := by simpa using c8))
          (try (have c8b2 : (t142 == t140) = true := by simpa using c8))
          clear c8
          obtain rfl := Option.some.inj H
          go_enter Tryd.func6, Tryd.ntmps6
          go_wp2_with (first | ((with_reducible refine gate_callee (f := 19) rfl ?_); refine goesL_ (some 18) rfl rfl Tryd.func19 (by kernel_rfl) rfl #[.string a0, .string a1] rfl (by (try simp only [List.map_toArray, List.map_cons, List.map_nil]); first | done | rfl | (simp only [List.length_drop, List.length_take]; rfl)) ?_; (with_reducible refine (spec_JoinLoops.calls k a0 a1 t139 t140 _ A5.out).mono ?_); rintro e w' ⟨rfl, ⟨nd, rfl⟩⟩; refine ⟨_, rfl, ?_⟩) | ((with_reducible refine gate_callee (f := 20) rfl ?_); refine goesL_ (some 24) rfl rfl Tryd.func20 (by kernel_rfl) rfl #[.string a0, .string a1] rfl (by (try simp only [List.map_toArray, List.map_cons, List.map_nil]); first | done | rfl | (simp only [List.length_drop, List.length_take]; rfl)) ?_; (with_reducible refine (impl_JoinLoops.calls k a0 a1 t141 t142 _ A6.out).mono ?_); rintro e w10 ⟨rfl, hb⟩; refine ⟨_, rfl, ?_⟩; have n0_ := Aside0.mk (below_step (by repeat (first | (with_reducible first | exact HB.out | apply below_alloc | apply pw_below_drewN | apply below_drew1) | exact HB.out)) hb); clear HB; have HB := n0_; clear n0_; (try clear hb); (try clear hb2); (try clear hk); (try clear hi)))
          go_ret
          exact ⟨by first | rfl | (simp [errW_none, errW_some] <;> rfl) | (simp [*, errW_none, errW_some] <;> rfl), by repeat (first | (with_reducible first | exact HB.out | apply below_alloc | apply pw_below_drewN | apply below_drew1) | exact HB.out)⟩
      · rw [if_neg c7] at H
        have c7b0 : (t141.toList == t139.toList) = false := beq_eq_false_iff_ne.mpr c7
        have c7b1 : (t141.toList != t139.toList) = true := bne_iff_ne.mpr c7
        obtain rfl := Option.some.inj H
        go_enter Tryd.func6, Tryd.ntmps6
        go_wp2_with (first | ((with_reducible refine gate_callee (f := 19) rfl ?_); refine goesL_ (some 18) rfl rfl Tryd.func19 (by kernel_rfl) rfl #[.string a0, .string a1] rfl (by (try simp only [List.map_toArray, List.map_cons, List.map_nil]); first | done | rfl | (simp only [List.length_drop, List.length_take]; rfl)) ?_; (with_reducible refine (spec_JoinLoops.calls k a0 a1 t139 t140 _ A5.out).mono ?_); rintro e w' ⟨rfl, ⟨nd, rfl⟩⟩; refine ⟨_, rfl, ?_⟩) | ((with_reducible refine gate_callee (f := 20) rfl ?_); refine goesL_ (some 24) rfl rfl Tryd.func20 (by kernel_rfl) rfl #[.string a0, .string a1] rfl (by (try simp only [List.map_toArray, List.map_cons, List.map_nil]); first | done | rfl | (simp only [List.length_drop, List.length_take]; rfl)) ?_; (with_reducible refine (impl_JoinLoops.calls k a0 a1 t141 t142 _ A6.out).mono ?_); rintro e w11 ⟨rfl, hb⟩; refine ⟨_, rfl, ?_⟩; have n0_ := Aside0.mk (below_step (by repeat (first | (with_reducible first | exact HB.out | apply below_alloc | apply pw_below_drewN | apply below_drew1) | exact HB.out)) hb); clear HB; have HB := n0_; clear n0_; (try clear hb); (try clear hb2); (try clear hk); (try clear hi)))
        go_ret
        exact ⟨by first | rfl | (simp [errW_none, errW_some] <;> rfl) | (simp [*, errW_none, errW_some] <;> rfl), by repeat (first | (with_reducible first | exact HB.out | apply below_alloc | apply pw_below_drewN | apply below_drew1) | exact HB.out)⟩

/-- THE ONE PURE STATEMENT of laws_FnExactJoinLoops: yours. -/
def laws_FnExactJoinLoops.Pure : Prop := ∀ (a0 : ByteArray) (a1 : ByteArray), a0.size ≤ 140737488351232 → a1.size ≤ 140737488351232 → ∃ k, laws_FnExactJoinLoops.f k a0 a1 = some true
theorem laws_FnExactJoinLoops.walk (P : laws_FnExactJoinLoops.Pure) (a0 : ByteArray) (a1 : ByteArray) (w : World) (w0 : a0.size ≤ 140737488351232) (w1 : a1.size ≤ 140737488351232) :
    Calls Tryd.prog 6 #[.string a0, .string a1] w fun e w' => e = .returned (.bool true) ∧ Below w.heap.size w w' := by
  obtain ⟨k, h⟩ := P a0 a1 w0 w1
  refine (laws_FnExactJoinLoops.calls k a0 a1 true w h).mono ?_
  rintro e w' ⟨rfl, hd⟩
  exact ⟨rfl, hd⟩

end Go.Proofs.YtgdpeabbmbclbaaDoor.Pr

/- Loops as lists of letters: letters named anew, and what a loop is. Plain lists, no program. -/
namespace Go.Proofs.YtgdpeabbmbclbaaDoor.M
set_option linter.unusedVariables false
set_option linter.unusedSimpArgs false

/-- Letters named anew in the order in which they come; ns are those that have come. -/
def anew : List Int → List Int → List Int
  | _, [] => []
  | ns, x :: r => (97 + (ns.idxOf x : Int)) :: anew (if x ∈ ns then ns else ns ++ [x]) r
/-- Letters in the order in which they come, after ns. -/
def newN : List Int → List Int → List Int
  | ns, [] => ns
  | ns, x :: r => newN (if x ∈ ns then ns else ns ++ [x]) r
theorem anew_length : ∀ (w ns : List Int), (anew ns w).length = w.length
  | [], _ => rfl
  | x :: r, ns => by simp [anew, anew_length r]
theorem newN_length : ∀ (w ns : List Int), (newN ns w).length ≤ ns.length + w.length
  | [], _ => by simp [newN]
  | x :: r, ns => by
    unfold newN
    by_cases h : x ∈ ns
    · rw [if_pos h]
      have := newN_length r ns
      simp; omega
    · rw [if_neg h]
      have := newN_length r (ns ++ [x])
      simp at this ⊢; omega
/-- Another naming of the letters changes nothing. -/
theorem anew_map (f : Int → Int) : ∀ (w ns : List Int), (∀ x ∈ ns ++ w, ∀ y ∈ ns ++ w, f x = f y → x = y) → anew (ns.map f) (w.map f) = anew ns w
  | [], _, _ => rfl
  | x :: r, ns, h => by
    have hi : (ns.map f).idxOf (f x) = ns.idxOf x := by
      have : ∀ l : List Int, (∀ y ∈ l, f y = f x → y = x) → (l.map f).idxOf (f x) = l.idxOf x := by
        intro l
        induction l with
        | nil => intro _; rfl
        | cons y l ih =>
          intro hl
          simp only [List.map_cons, List.idxOf_cons]
          by_cases e : y = x
          · subst e; simp
          · have hne : f y ≠ f x := fun e2 => e (hl y (List.mem_cons_self ..) e2)
            rw [ih (fun z hz => hl z (List.mem_cons_of_mem _ hz)), show (f y == f x) = false by simpa using hne, show (y == x) = false by simpa using e]
      refine this ns (fun y hy e => h y (by simp [hy]) x (by simp) e)
    have hm : f x ∈ ns.map f ↔ x ∈ ns := by
      constructor
      · intro hx
        obtain ⟨y, hy, e⟩ := List.mem_map.1 hx
        have := h y (by simp [hy]) x (by simp) e
        exact this ▸ hy
      · exact fun hx => List.mem_map.2 ⟨x, hx, rfl⟩
    rw [List.map_cons, anew, anew, hi]
    congr 1
    by_cases hx : x ∈ ns
    · rw [if_pos hx, if_pos (hm.2 hx)]
      exact anew_map f r ns (fun a ha b hb => h a (by simp at ha ⊢; rcases ha with ha | ha <;> simp [ha]) b (by simp at hb ⊢; rcases hb with hb | hb <;> simp [hb]))
    · rw [if_neg hx, if_neg (fun e => hx (hm.1 e)), ← List.map_singleton (f := f), ← List.map_append]
      exact anew_map f r (ns ++ [x]) (fun a ha b hb => h a (by simpa using ha) b (by simpa using hb))

/-- A loop whose letters come in order: j have come; how many have come at the end. -/
def runL : Nat → List Int → Option Nat
  | j, [] => some j
  | j, x :: r => if 97 ≤ x ∧ x < 97 + j then runL j r else if x = 97 + j then runL (j + 1) r else none
def abcL (j : Nat) : List Int := (List.range j).map fun (i : Nat) => (97 : Int) + (i : Int)
theorem mem_abc (j : Nat) (x : Int) : x ∈ abcL j ↔ 97 ≤ x ∧ x < 97 + j := by
  simp only [abcL, List.mem_map, List.mem_range]
  constructor
  · rintro ⟨i, hi, rfl⟩; omega
  · intro h; exact ⟨(x - 97).toNat, by omega, by omega⟩
theorem abc_succ (j : Nat) : abcL j ++ [97 + (j : Int)] = abcL (j + 1) := by simp [abcL, List.range_succ]
theorem abc_length (j : Nat) : (abcL j).length = j := by simp [abcL]
theorem idx_abc : ∀ (j : Nat) (x : Int), x ∈ abcL j → 97 + ((abcL j).idxOf x : Int) = x
  | 0, x, h => by simp [abcL] at h
  | j + 1, x, h => by
    rw [← abc_succ] at h ⊢
    by_cases hx : x ∈ abcL j
    · rw [List.idxOf_append, if_pos hx]; exact idx_abc j x hx
    · have e : x = 97 + (j : Int) := by
        rcases List.mem_append.1 h with h | h
        · exact absurd h hx
        · simpa using h
      rw [List.idxOf_append, if_neg hx, abc_length, e]
      simp
theorem idx_none (l : List Int) (x : Int) (h : x ∉ l) : l.idxOf x = l.length := List.idxOf_eq_length h
theorem anew_run : ∀ (w : List Int) (j : Nat), anew (abcL j) w = w ↔ (runL j w).isSome = true
  | [], j => by simp [anew, runL]
  | x :: r, j => by
    unfold anew runL
    by_cases hx : x ∈ abcL j
    · have hx2 := (mem_abc j x).1 hx
      rw [if_pos hx, if_pos hx2, idx_abc j x hx, List.cons.injEq]
      simp [anew_run r j]
    · have hx2 : ¬ (97 ≤ x ∧ x < 97 + (j : Int)) := fun h => hx ((mem_abc j x).2 h)
      rw [if_neg hx, if_neg hx2, idx_none _ _ hx, abc_length, List.cons.injEq]
      by_cases e : x = 97 + (j : Int)
      · rw [if_pos e, e, abc_succ]
        simp [anew_run r (j + 1)]
      · rw [if_neg e]
        constructor
        · intro h; exact absurd h.1.symm e
        · intro h; simp at h
theorem run_mono : ∀ (w : List Int) (j J : Nat), runL j w = some J → j ≤ J ∧ J ≤ j + w.length
  | [], j, J, h => by simp [runL] at h; simp; omega
  | x :: r, j, J, h => by
    unfold runL at h
    split at h
    · have := run_mono r j J h; simp; omega
    · split at h
      · have := run_mono r (j + 1) J h; simp; omega
      · cases h
theorem run_mem : ∀ (w : List Int) (j J : Nat), runL j w = some J → (∀ x ∈ w, 97 ≤ x ∧ x < 97 + (J : Int)) ∧ ∀ i : Nat, j ≤ i → i < J → 97 + (i : Int) ∈ w
  | [], j, J, h => by simp [runL] at h; subst h; exact ⟨by simp, fun i h1 h2 => by omega⟩
  | x :: r, j, J, h => by
    unfold runL at h
    split at h
    · rename_i hx
      have hm := run_mono r j J h
      obtain ⟨h1, h2⟩ := run_mem r j J h
      exact ⟨fun y hy => by rcases List.mem_cons.1 hy with e | hy; (· subst e; omega); exact h1 y hy, fun i a b => List.mem_cons_of_mem _ (h2 i a b)⟩
    · split at h
      · rename_i hx e
        have hm := run_mono r (j + 1) J h
        obtain ⟨h1, h2⟩ := run_mem r (j + 1) J h
        refine ⟨fun y hy => by rcases List.mem_cons.1 hy with e | hy; (· subst e; omega); exact h1 y hy, fun i a b => ?_⟩
        by_cases ei : i = j
        · subst ei; rw [e]; exact List.mem_cons_self ..
        · exact List.mem_cons_of_mem _ (h2 i (by omega) b)
      · cases h

/-- How many letters of w are among the first J. -/
def totL (w : List Int) : Nat → Nat
  | 0 => 0
  | J + 1 => totL w J + w.count (97 + (J : Int))
theorem tot_cons (x : Int) (w : List Int) : ∀ J : Nat, totL (x :: w) J = totL w J + if 97 ≤ x ∧ x < 97 + (J : Int) then 1 else 0
  | 0 => by
    rw [if_neg (by omega)]
    rfl
  | J + 1 => by
    rw [totL, totL, tot_cons x w J, List.count_cons]
    simp only [beq_iff_eq]
    split <;> split <;> split <;> omega
theorem tot_all : ∀ (w : List Int) (J : Nat), (∀ x ∈ w, 97 ≤ x ∧ x < 97 + (J : Int)) → totL w J = w.length
  | [], J, _ => by
    induction J with
    | zero => rfl
    | succ J ih => simp [totL]; simpa using ih
  | x :: w, J, h => by
    rw [tot_cons, if_pos (h x (List.mem_cons_self ..)), tot_all w J (fun y hy => h y (List.mem_cons_of_mem _ hy))]
    rfl
theorem tot_two (w : List Int) : ∀ J : Nat, (∀ i : Nat, i < J → w.count (97 + (i : Int)) = 2) → totL w J = 2 * J
  | 0, _ => rfl
  | J + 1, h => by
    rw [totL, tot_two w J (fun i hi => h i (by omega)), h J (by omega)]
    omega

/-- A loop. -/
def goodL (w : List Int) : Bool := decide (w.length ≤ 16) && (anew [] w == w) && w.all (fun x => w.count x == 2)
/-- What a loop is: twice m letters, the first m ones, each twice. -/
structure Loop (w : List Int) (m : Nat) : Prop where
  len : w.length = 2 * m
  few : m ≤ 8
  run : runL 0 w = some m
  lo : ∀ x ∈ w, 97 ≤ x
  hi : ∀ x ∈ w, x < 97 + (m : Int)
  two : ∀ i : Nat, i < m → w.count (97 + (i : Int)) = 2
theorem loop_of {w : List Int} (h : goodL w = true) : ∃ m, Loop w m := by
  simp only [goodL, Bool.and_eq_true, decide_eq_true_eq, beq_iff_eq, List.all_eq_true] at h
  obtain ⟨⟨h1, h2⟩, h3⟩ := h
  have h4 := (anew_run w 0).1 h2
  obtain ⟨m, hm⟩ := Option.isSome_iff_exists.1 h4
  obtain ⟨h5, h6⟩ := run_mem w 0 m hm
  have h7 : ∀ i : Nat, i < m → w.count (97 + (i : Int)) = 2 := fun i hi => h3 _ (h6 i (by omega) hi)
  have h8 := tot_all w m h5
  rw [tot_two w m h7] at h8
  exact ⟨m, h8.symm, by omega, hm, fun x hx => (h5 x hx).1, fun x hx => (h5 x hx).2, h7⟩
theorem Loop.half {w : List Int} {m : Nat} (h : Loop w m) : w.length / 2 = m := by have := h.len; omega
theorem Loop.cnt {w : List Int} {m : Nat} (h : Loop w m) {x : Int} (h1 : 97 ≤ x) (h2 : x < 97 + (m : Int)) : w.count x = 2 := by
  have := h.two (x - 97).toNat (by omega)
  rwa [show (97 : Int) + ((x - 97).toNat : Int) = x by omega] at this
theorem Loop.good {w : List Int} {m : Nat} (h : Loop w m) : goodL w = true := by
  simp only [goodL, Bool.and_eq_true, decide_eq_true_eq, beq_iff_eq, List.all_eq_true]
  refine ⟨⟨by have := h.len; have := h.few; omega, (anew_run w 0).2 (by rw [h.run]; rfl)⟩, fun x hx => h.cnt (h.lo x hx) (h.hi x hx)⟩
/-- All letters are among the first eight. -/
theorem good_letters {w : List Int} (h : goodL w = true) : ∀ x ∈ w, 97 ≤ x ∧ x ≤ 104 := fun x hx => by
  obtain ⟨m, hm⟩ := loop_of h
  have := hm.lo x hx
  have := hm.hi x hx
  have := hm.few
  omega
theorem good_even {w : List Int} (h : goodL w = true) : w.length % 2 = 0 := by
  obtain ⟨m, hm⟩ := loop_of h
  have := hm.len
  omega
end Go.Proofs.YtgdpeabbmbclbaaDoor.M

/- Letters named anew: the program's way and the reference's. -/
namespace Go.Proofs.YtgdpeabbmbclbaaDoor.M
open Go.RowKit Go.Proofs.YtgdpeabbmbclbaaDoorW.PrintWords Go.Proofs.YtgdpeabbmbclbaaDoor.Pr
set_option linter.unusedVariables false
set_option linter.unusedSimpArgs false

theorem anew_byte : ∀ (w ns : List Int), ns.length + w.length ≤ 100 → ∀ x ∈ anew ns w, 0 ≤ x ∧ x < 256
  | [], _, _, x, hx => by simp [anew] at hx
  | y :: r, ns, h, x, hx => by
    unfold anew at hx
    simp only [List.length_cons] at h
    rcases List.mem_cons.1 hx with e | hx
    · have := List.idxOf_le_length (a := y) (l := ns)
      omega
    · refine anew_byte r _ ?_ x hx
      split
      · omega
      · simp; omega
/-- A text with its letters named anew. -/
def anewS (w : ByteArray) : ByteArray := strOfNums (anew [] (bytesOf w))
theorem bytesOf_anew (w : ByteArray) (h : w.size ≤ 100) : bytesOf (anewS w) = anew [] (bytesOf w) :=
  bytesOf_strOf _ (anew_byte _ _ (by rw [bytesOf_length]; simp; omega))

theorem named_ev (w : ByteArray) (hw : w.size ≤ 100) : Ev (fun k => impl_named.f k w) (anewS w) := by
  unfold impl_named.f
  have hlen := bytesOf_length w
  have e := Ev.scan0 (fun k i (acc : ByteArray × List Int) => impl_named.l0 k w acc.1 acc.2 (w.size : Int) i) (bytesOf w) (fun rest acc => strOfNums (acc.2 ++ anew (bytesOf acc.1) rest)) (fun i acc => acc.2.length = i ∧ acc.1.size ≤ i)
    (fun acc hp => by
      refine Ev.step (fun k => by rw [impl_named.l0]) ?_
      refine Ev.neg (by omega) (Ev.val ?_)
      simp [anew])
    (fun i hi acc hp => by
      obtain ⟨p1, p2⟩ := hp
      have hi2 : i < w.size := by omega
      have hx := bytesOf_get w i hi
      have hr := bytesOf_byte w _ (List.getElem_mem hi)
      have hone := bytesOf_one w i hi
      have hs1 : (w.extract i (i + 1)).size = 1 := by rw [← bytesOf_length, hone]; rfl
      have hal := bytesOf_length acc.1
      generalize (bytesOf w)[i] = x at hx hr hone
      have hix := indexB_eq acc.1 x hr.1 hr.2
      by_cases hm : x ∈ bytesOf acc.1
      · have hlt : (bytesOf acc.1).idxOf x < (bytesOf acc.1).length := List.idxOf_lt_length_iff.2 hm
        rw [ixL, if_pos hm] at hix
        refine .inl ⟨(acc.1, acc.2 ++ [97 + ((bytesOf acc.1).idxOf x : Int)]), ⟨by simp; omega, by dsimp only; omega⟩, ?_, fun r hr2 => ?_⟩
        · rw [anew, if_pos hm]
          simp
        · refine Ev.step (fun k => by rw [impl_named.l0]) ?_
          refine Ev.pos (by omega) (Ev.pos (by omega) (Ev.pos (by omega) ?_))
          rw [hx]
          refine Ev.bindc (a := ((bytesOf acc.1).idxOf x : Int)) (by unfold strings_IndexByte.f; rw [hix]) (Ev.neg (by omega) (Ev.pos (by omega) ?_))
          rw [w64 (x := (i : Int) + 1) (by omega) (by omega)]
          have e : (97 + ((bytesOf acc.1).idxOf x : Int)) % 256 = 97 + ((bytesOf acc.1).idxOf x : Int) := by omega
          simp only [e]
          exact hr2
      · rw [ixL, if_neg hm] at hix
        have hsz : (acc.1 ++ w.extract i (i + 1)).size = acc.1.size + 1 := by rw [ByteArray.size_append, hs1]
        refine .inl ⟨(acc.1 ++ w.extract i (i + 1), acc.2 ++ [97 + ((bytesOf acc.1).idxOf x : Int)]), ⟨by simp; omega, by dsimp only; omega⟩, ?_, fun r hr2 => ?_⟩
        · rw [anew, if_neg hm]
          dsimp only
          rw [bytesOf_append, hone]
          simp
        · refine Ev.step (fun k => by rw [impl_named.l0]) ?_
          refine Ev.pos (by omega) (Ev.pos (by omega) (Ev.pos (by omega) ?_))
          rw [hx]
          refine Ev.bindc (a := (-1 : Int)) (by unfold strings_IndexByte.f; rw [hix]) (Ev.pos (by omega) ?_)
          rw [w64 (x := (i : Int) + 1) (by omega) (by omega)]
          rw [show ((i : Int) + 1).toNat = i + 1 by omega, Int.toNat_natCast]
          refine Ev.pos (by omega) (Ev.pos (by omega) (Ev.pos (by omega) (Ev.pos (by omega) ?_)))
          have hid : (bytesOf acc.1).idxOf x = acc.1.size := by rw [idx_none _ _ hm, hal]
          have e : (97 + (acc.1.size : Int)) % 256 = 97 + ((bytesOf acc.1).idxOf x : Int) := by omega
          simp only [e]
          exact hr2)
    ((⟨#[]⟩ : ByteArray), []) ⟨rfl, by simp [ByteArray.size]⟩
  exact e

abbrev abc16 : ByteArray := ⟨#[97, 98, 99, 100, 101, 102, 103, 104, 105, 106, 107, 108, 109, 110, 111, 112]⟩
theorem abc_one (a : Nat) (h : a < 16) : bytesOf (abc16.extract a (a + 1)) = [97 + (a : Int)] := by
  have hd : ∀ n : Fin 16, bytesOf (abc16.extract n.val (n.val + 1)) = [97 + (n.val : Int)] := by decide +kernel
  exact hd ⟨a, h⟩
theorem abc_size (a : Nat) (h : a < 16) : (abc16.extract a (a + 1)).size = 1 := by
  rw [← bytesOf_length, abc_one a h]; rfl

/-- The inner loop: the place of a letter among those that have come. -/
theorem anew_l1 (w names out : ByteArray) (i : Int) (x : Int) (hi0 : 0 ≤ i) (hi : i < (w.size : Int)) (hx : bt w i = x) (hn : names.size ≤ 1000) (hnd : (bytesOf names).Nodup) (r : ByteArray)
    (hr : Ev (fun k => spec_loAnew.l1 k w names out i (ixL (bytesOf names) x) (names.size : Int)) r) : Ev (fun k => spec_loAnew.l1 k w names out i (-1) 0) r := by
  have hlen := bytesOf_length names
  have e := Ev.cpsB (fun k j (at_ : Int) => spec_loAnew.l1 k w names out i at_ j) (fun k at_ => spec_loAnew.l1 k w names out i at_ ((bytesOf names).length : Int)) (bytesOf names)
    (fun rest at_ => if x ∈ rest then (((bytesOf names).length - rest.length : Nat) : Int) + (rest.idxOf x : Int) else at_) (fun _ _ => True)
    (fun at_ r _ hr => by simpa using hr)
    (fun j hj at_ _ => by
      have hgj := bytesOf_get names j hj
      have hsplit : bytesOf names = (bytesOf names).take j ++ (bytesOf names)[j] :: (bytesOf names).drop (j + 1) := by
        rw [← List.drop_eq_getElem_cons hj, List.take_append_drop]
      have hdl : ((bytesOf names).drop (j + 1)).length = (bytesOf names).length - (j + 1) := List.length_drop
      generalize hR : (bytesOf names).drop (j + 1) = rest at hsplit hdl ⊢
      generalize hy : (bytesOf names)[j] = y at hsplit hgj ⊢
      by_cases e : y = x
      · subst e
        have hnot : y ∉ rest := by
          rw [hsplit] at hnd
          have := (List.nodup_append.1 hnd).2.1
          exact (List.nodup_cons.1 this).1
        refine ⟨(j : Int), trivial, ?_, fun r hr2 => ?_⟩
        · rw [if_pos (List.mem_cons_self ..), if_neg hnot, List.idxOf_cons_self, List.length_cons, hdl]
          omega
        · refine Ev.step (fun k => by rw [spec_loAnew.l1]) ?_
          refine Ev.pos (by omega) (Ev.pos (by omega) (Ev.pos hi0 (Ev.pos hi ?_)))
          rw [w64 (x := (j : Int) + 1) (by omega) (by omega)]
          exact Ev.pos (by rw [hgj, hx]) hr2
      · refine ⟨at_, trivial, ?_, fun r hr2 => ?_⟩
        · by_cases hm : x ∈ rest
          · rw [if_pos hm, if_pos (List.mem_cons_of_mem _ hm), List.idxOf_cons, show (y == x) = false by simpa using e, cond_false, List.length_cons, hdl]
            omega
          · rw [if_neg hm, if_neg (by simp only [List.mem_cons, not_or]; exact ⟨fun h => e h.symm, hm⟩)]
        · refine Ev.step (fun k => by rw [spec_loAnew.l1]) ?_
          refine Ev.pos (by omega) (Ev.pos (by omega) (Ev.pos hi0 (Ev.pos hi ?_)))
          rw [w64 (x := (j : Int) + 1) (by omega) (by omega)]
          exact Ev.neg (by rw [hgj, hx]; exact e) hr2)
    (bytesOf names).length 0 (-1) r (by omega) trivial (by
      rw [List.drop_zero, Nat.sub_self]
      unfold ixL at hr
      rw [hlen]
      simpa using hr)
  simpa using e
theorem loAnew_ev (w : ByteArray) (hw : w.size ≤ 16) : Ev (fun k => spec_loAnew.f k w) (anewS w) := by
  unfold spec_loAnew.f
  have hlen := bytesOf_length w
  have e := Ev.scan0 (fun k i (acc : ByteArray × ByteArray) => spec_loAnew.l0 k w acc.1 acc.2 i) (bytesOf w) (fun rest acc => strOfNums (bytesOf acc.2 ++ anew (bytesOf acc.1) rest)) (fun i acc => acc.2.size = i ∧ acc.1.size ≤ i ∧ (bytesOf acc.1).Nodup)
    (fun acc hp => by
      refine Ev.step (fun k => by rw [spec_loAnew.l0]) ?_
      refine Ev.neg (by omega) (Ev.val ?_)
      rw [anew, List.append_nil, strOf_bytesOf])
    (fun i hi acc hp => by
      obtain ⟨p1, p2, p3⟩ := hp
      have hi2 : i < w.size := by omega
      have hx := bytesOf_get w i hi
      have hone := bytesOf_one w i hi
      have hs1 : (w.extract i (i + 1)).size = 1 := by rw [← bytesOf_length, hone]; rfl
      have hal := bytesOf_length acc.1
      generalize (bytesOf w)[i] = x at hx hone
      have hstep : ∀ r, Ev (fun k => spec_loAnew.l1 k w acc.1 acc.2 i (ixL (bytesOf acc.1) x) (acc.1.size : Int)) r → Ev (fun k => spec_loAnew.l0 k w acc.1 acc.2 i) r := fun r hr => by
        refine Ev.step (fun k => by rw [spec_loAnew.l0]) ?_
        exact Ev.pos (by omega) (anew_l1 w acc.1 acc.2 i x (by omega) (by omega) hx (by omega) p3 r hr)
      by_cases hm : x ∈ bytesOf acc.1
      · have hlt : (bytesOf acc.1).idxOf x < (bytesOf acc.1).length := List.idxOf_lt_length_iff.2 hm
        rw [ixL, if_pos hm] at hstep
        generalize ha : (bytesOf acc.1).idxOf x = a at hlt hstep
        have h16 : a < 16 := by omega
        have hsz : (acc.2 ++ abc16.extract a (a + 1)).size = acc.2.size + 1 := by rw [ByteArray.size_append, abc_size a h16]
        refine .inl ⟨(acc.1, acc.2 ++ abc16.extract a (a + 1)), ⟨by dsimp only; omega, by dsimp only; omega, p3⟩, ?_, fun r hr2 => hstep r ?_⟩
        · rw [anew, if_pos hm, ha]
          dsimp only
          rw [bytesOf_append, abc_one a h16]
          simp
        · refine Ev.step (fun k => by rw [spec_loAnew.l1]) ?_
          refine Ev.neg (by omega) (Ev.neg (by omega) (Ev.pos (by omega) ?_))
          rw [w64 (x := (a : Int) + 1) (by omega) (by omega), w64 (x := (i : Int) + 1) (by omega) (by omega), show ((a : Int) + 1).toNat = a + 1 by omega, Int.toNat_natCast]
          refine Ev.pos (by omega) (Ev.pos (by omega) (Ev.pos ?_ hr2))
          have h := abc_size a h16
          unfold abc16 at h
          omega
      · rw [ixL, if_neg hm] at hstep
        have h16 : acc.1.size < 16 := by omega
        have hsz : (acc.1 ++ w.extract i (i + 1)).size = acc.1.size + 1 := by rw [ByteArray.size_append, hs1]
        have hsz2 : (acc.2 ++ abc16.extract acc.1.size (acc.1.size + 1)).size = acc.2.size + 1 := by rw [ByteArray.size_append, abc_size _ h16]
        refine .inl ⟨(acc.1 ++ w.extract i (i + 1), acc.2 ++ abc16.extract acc.1.size (acc.1.size + 1)), ⟨by dsimp only; omega, by dsimp only; omega, ?_⟩, ?_, fun r hr2 => hstep r ?_⟩
        · dsimp only
          rw [bytesOf_append, hone]
          refine List.nodup_append.2 ⟨p3, by simp, fun a ha b hb => ?_⟩
          obtain rfl : b = x := by simpa using hb
          exact fun e => hm (e ▸ ha)
        · rw [anew, if_neg hm, idx_none _ _ hm, hal]
          dsimp only
          rw [bytesOf_append, bytesOf_append, hone, abc_one _ h16]
          simp
        · refine Ev.step (fun k => by rw [spec_loAnew.l1]) ?_
          refine Ev.neg (by omega) (Ev.pos (by omega) (Ev.pos (by omega) ?_))
          rw [w64 (x := (acc.1.size : Int) + 1) (by omega) (by omega), w64 (x := (i : Int) + 1) (by omega) (by omega), show ((acc.1.size : Int) + 1).toNat = acc.1.size + 1 by omega, show ((i : Int) + 1).toNat = i + 1 by omega, Int.toNat_natCast, Int.toNat_natCast]
          refine Ev.pos (by omega) (Ev.pos (by omega) (Ev.pos (by omega) (Ev.pos (by omega) (Ev.pos (by omega) (Ev.pos (by omega) (Ev.pos ?_ hr2))))))
          have h := abc_size _ h16
          unfold abc16 at h
          omega)
    ((⟨#[]⟩ : ByteArray), (⟨#[]⟩ : ByteArray)) ⟨rfl, by simp [ByteArray.size], by simp [bytesOf]⟩
  exact e
end Go.Proofs.YtgdpeabbmbclbaaDoor.M

/- What a loop is: the program and the reference tell the same. -/
namespace Go.Proofs.YtgdpeabbmbclbaaDoor.M
open Go.RowKit Go.Proofs.YtgdpeabbmbclbaaDoorW.PrintWords Go.Proofs.YtgdpeabbmbclbaaDoor.Pr
set_option linter.unusedVariables false
set_option linter.unusedSimpArgs false

/-- A text that is a loop. -/
def goodS (w : ByteArray) : Bool := goodL (bytesOf w)
theorem anew_beq (w : ByteArray) (h : w.size ≤ 16) : ((anewS w).toList == w.toList) = (anew [] (bytesOf w) == bytesOf w) := by
  rw [toList_beq, bytesOf_anew w (by omega)]
theorem dropWhile_nil {α : Type} (p : α → Bool) : ∀ l : List α, l.dropWhile p = [] ↔ ∀ x ∈ l, p x = true
  | [] => by simp
  | x :: r => by
    rw [List.dropWhile_cons]
    cases h : p x with
    | true => simp [dropWhile_nil p r, h]
    | false => simp [h]
theorem trim_nil (l cs : List UInt8) : Lib.trimS l cs = [] ↔ ∀ x ∈ l, cs.contains x = true := by
  unfold Lib.trimS Lib.trimLeftS Lib.trimRightS
  rw [dropWhile_nil]
  constructor
  · intro h
    have h2 : (l.reverse.dropWhile (cs.contains ·)) = [] ∨ (l.reverse.dropWhile (cs.contains ·)) ≠ [] := Classical.em _
    rcases h2 with h2 | h2
    · rw [dropWhile_nil] at h2
      intro x hx
      exact h2 x (List.mem_reverse.2 hx)
    · exfalso
      have h3 : cs.contains ((l.reverse.dropWhile (cs.contains ·)).head h2) = false := List.head_dropWhile_not (cs.contains ·) h2
      rw [h _ (List.mem_reverse.2 (List.head_mem h2))] at h3
      cases h3
  · intro h x hx
    rw [List.mem_reverse] at hx
    exact h x (List.mem_reverse.1 ((List.dropWhile_sublist _).mem hx))
theorem isLoop_ev (w : ByteArray) : Ev (fun k => impl_IsLoop.f k w) (goodS w) := by
  unfold impl_IsLoop.f
  by_cases h16 : w.size ≤ 16
  · refine Ev.pos h16 ?_
    have hcon : ∀ b : UInt8, ([97, 98, 99, 100, 101, 102, 103, 104] : List UInt8).contains b = true ↔ 97 ≤ (b.toNat : Int) ∧ (b.toNat : Int) ≤ 104 := by
      intro b
      simp only [List.contains_iff_mem, List.mem_cons, List.not_mem_nil, or_false]
      constructor
      · rintro (rfl | rfl | rfl | rfl | rfl | rfl | rfl | rfl) <;> decide
      · intro h
        have e : b = UInt8.ofNat b.toNat := by simp
        obtain h | h | h | h | h | h | h | h : b.toNat = 97 ∨ b.toNat = 98 ∨ b.toNat = 99 ∨ b.toNat = 100 ∨ b.toNat = 101 ∨ b.toNat = 102 ∨ b.toNat = 103 ∨ b.toNat = 104 := by omega
        all_goals (rw [h] at e; subst e; simp)
    have htr : Lib.trimS w.data.toList [97, 98, 99, 100, 101, 102, 103, 104] = [] ↔ ∀ x ∈ bytesOf w, 97 ≤ x ∧ x ≤ 104 := by
      rw [trim_nil]
      unfold bytesOf
      constructor
      · intro h x hx
        obtain ⟨b, hb, rfl⟩ := List.mem_map.1 hx
        exact (hcon b).1 (h b hb)
      · intro h b hb
        exact (hcon b).2 (h _ (List.mem_map.2 ⟨b, hb, rfl⟩))
    have hmiss : (!((bytesOf w).any (missB w))) = (bytesOf w).all (fun x => (bytesOf w).count x == 2) := by
      rw [List.not_any_eq_all_not]
      have key : ∀ x ∈ bytesOf w, (!(missB w x)) = ((bytesOf w).count x == 2) := fun x hx => by
        have := bytesOf_byte w x hx
        unfold missB
        rw [count_eq w x this.1 this.2, Bool.eq_iff_iff]
        simp
        omega
      rw [Bool.eq_iff_iff, List.all_eq_true, List.all_eq_true]
      exact ⟨fun h x hx => (key x hx) ▸ h x hx, fun h x hx => (key x hx).symm ▸ h x hx⟩
    by_cases ht : Lib.trimS w.data.toList [97, 98, 99, 100, 101, 102, 103, 104] = []
    · have hz := htr.1 ht
      refine Ev.pos ⟨ht, fun x hx => by have := hz x hx; omega⟩ (Ev.bindk (named_ev w (by omega)) ?_)
      have hb := bytesOf_length w
      by_cases e : anewS w = w
      · refine Ev.pos e (Ev.val ?_)
        have e2 : anew [] (bytesOf w) = bytesOf w := by rw [← bytesOf_anew w (by omega), e]
        rw [hmiss]
        unfold goodS goodL
        rw [e2]
        simp [hb, h16]
      · refine Ev.neg e (Ev.val ?_)
        have e2 : anew [] (bytesOf w) ≠ bytesOf w := fun h => e (bytesOf_inj (by rw [bytesOf_anew w (by omega), h]))
        unfold goodS goodL
        rw [show (anew [] (bytesOf w) == bytesOf w) = false by simpa using e2]
        simp
    · refine Ev.neg (fun h => ht h.1) (Ev.neg ht (Ev.val ?_))
      have hg : goodS w = false := by
        cases hg : goodS w with
        | false => rfl
        | true => exact absurd (htr.2 (good_letters hg)) ht
      exact hg.symm
  · refine Ev.neg h16 (Ev.val ?_)
    unfold goodS goodL
    rw [decide_eq_false (by rw [bytesOf_length]; exact h16)]
    rfl

theorem good_l1 (w : ByteArray) (i : Int) (x : Int) (hi0 : 0 ≤ i) (hi : i < (w.size : Int)) (hx : bt w i = x) (hw : w.size ≤ 1000) (r : Bool)
    (hr : Ev (fun k => spec_loGood.l1 k w i (((bytesOf w).count x : Nat) : Int) (w.size : Int)) r) : Ev (fun k => spec_loGood.l1 k w i 0 0) r := by
  have hlen := bytesOf_length w
  have hcl : (bytesOf w).count x ≤ (bytesOf w).length := List.count_le_length
  have e := Ev.cpsB (fun k j (t : Int) => spec_loGood.l1 k w i t j) (fun k t => spec_loGood.l1 k w i t ((bytesOf w).length : Int)) (bytesOf w)
    (fun rest t => t + ((rest.count x : Nat) : Int)) (fun j t => 0 ≤ t ∧ t ≤ j)
    (fun t r _ hr => by simpa using hr)
    (fun j hj t hp => by
      have hgj := bytesOf_get w j hj
      generalize (bytesOf w)[j] = y at hgj ⊢
      by_cases e : y = x
      · refine ⟨t + 1, by omega, ?_, fun r hr2 => ?_⟩
        · subst e
          rw [List.count_cons_self]
          omega
        · refine Ev.step (fun k => by rw [spec_loGood.l1]) ?_
          refine Ev.pos (by omega) (Ev.pos (by omega) (Ev.pos hi0 (Ev.pos hi ?_)))
          rw [w64 (x := (j : Int) + 1) (by omega) (by omega), w64 (x := t + 1) (by omega) (by omega)]
          exact Ev.pos (by rw [hgj, hx]; exact e) hr2
      · refine ⟨t, by omega, ?_, fun r hr2 => ?_⟩
        · rw [List.count_cons, if_neg (by simpa using e)]
          omega
        · refine Ev.step (fun k => by rw [spec_loGood.l1]) ?_
          refine Ev.pos (by omega) (Ev.pos (by omega) (Ev.pos hi0 (Ev.pos hi ?_)))
          rw [w64 (x := (j : Int) + 1) (by omega) (by omega)]
          exact Ev.neg (by rw [hgj, hx]; exact e) hr2)
    (bytesOf w).length 0 0 r (by omega) (by omega) (by
      rw [List.drop_zero, hlen]
      simpa using hr)
  simpa using e
theorem loGood_l0 (w : ByteArray) (h16 : w.size ≤ 16) : Ev (fun k => spec_loGood.l0 k w 0) ((bytesOf w).all (fun x => (bytesOf w).count x == 2) && (anew [] (bytesOf w) == bytesOf w)) := by
  have hlen := bytesOf_length w
  exact Ev.scan0 (fun k i (_ : Unit) => spec_loGood.l0 k w i) (bytesOf w) (fun rest _ => rest.all (fun x => (bytesOf w).count x == 2) && (anew [] (bytesOf w) == bytesOf w)) (fun _ _ => True)
    (fun _ _ => by
      refine Ev.step (fun k => by rw [spec_loGood.l0]) ?_
      refine Ev.neg (by omega) (Ev.bindk (loAnew_ev w h16) (Ev.val ?_))
      rw [anew_beq w h16]
      rfl)
    (fun i hi _ _ => by
      have hx := bytesOf_get w i hi
      generalize (bytesOf w)[i] = x at hx ⊢
      have hstep : ∀ r, Ev (fun k => spec_loGood.l1 k w i (((bytesOf w).count x : Nat) : Int) (w.size : Int)) r → Ev (fun k => spec_loGood.l0 k w i) r := fun r hr => by
        refine Ev.step (fun k => by rw [spec_loGood.l0]) ?_
        exact Ev.pos (by omega) (good_l1 w i x (by omega) (by omega) hx (by omega) r hr)
      rw [List.all_cons]
      by_cases hc : (bytesOf w).count x = 2
      · refine .inl ⟨(), trivial, by rw [hc]; rfl, fun r hr => hstep r ?_⟩
        refine Ev.step (fun k => by rw [spec_loGood.l1]) ?_
        refine Ev.neg (by omega) (Ev.pos (by omega) ?_)
        rw [w64 (x := (i : Int) + 1) (by omega) (by omega)]
        exact hr
      · refine .inr (hstep _ ?_)
        refine Ev.step (fun k => by rw [spec_loGood.l1]) ?_
        refine Ev.neg (by omega) (Ev.neg (by omega) (Ev.val ?_))
        rw [show ((bytesOf w).count x == 2) = false by simpa using hc]
        rfl)
    () trivial
theorem loGood_ev (w : ByteArray) : Ev (fun k => spec_loGood.f k w) (goodS w) := by
  unfold spec_loGood.f
  have hlen := bytesOf_length w
  by_cases h16 : w.size ≤ 16
  · refine Ev.neg (by omega) ?_
    refine Ev.step (fun k => by rw [spec_loGood.j0]) ?_
    by_cases he : w.size % 2 = 0
    · refine Ev.neg (by simp; omega) ?_
      have e := loGood_l0 w h16
      have e2 : goodS w = ((bytesOf w).all (fun x => (bytesOf w).count x == 2) && (anew [] (bytesOf w) == bytesOf w)) := by
        unfold goodS goodL
        rw [decide_eq_true (by omega), Bool.true_and, Bool.and_comm]
      rw [e2]
      exact e
    · refine Ev.pos (by simp; omega) (Ev.val ?_)
      cases hg : goodS w with
      | false => rfl
      | true => have := good_even hg; omega
  · refine Ev.pos (by omega) ?_
    refine Ev.step (fun k => by rw [spec_loGood.j0]) ?_
    refine Ev.pos rfl (Ev.val ?_)
    unfold goodS goodL
    rw [decide_eq_false (by rw [bytesOf_length]; exact h16)]
    rfl
theorem good_size {w : ByteArray} (h : goodS w = true) : w.size ≤ 16 := by
  have := bytesOf_length w
  unfold goodS goodL at h
  simp only [Bool.and_eq_true, decide_eq_true_eq] at h
  omega
end Go.Proofs.YtgdpeabbmbclbaaDoor.M

/- JoinLoops: the plain law. -/
set_option linter.unusedVariables false
set_option linter.unusedSimpArgs false
namespace Go.Proofs.YtgdpeabbmbclbaaDoor.Pure
open Go.RowKit Go.Proofs.YtgdpeabbmbclbaaDoor.Pr Go.Proofs.YtgdpeabbmbclbaaDoorW.PrintWords Go.Proofs.YtgdpeabbmbclbaaDoorW.PrintLast Go.Proofs.YtgdpeabbmbclbaaDoor.M

theorem join_l0 (a b : ByteArray) (ha : a.size ≤ 16) (hb : b.size ≤ 16) (hl : ∀ x ∈ bytesOf b, 97 ≤ x ∧ x ≤ 104) : ∀ (d i : Nat) (out : ByteArray), i + d = b.size → out.size = a.size + i →
    Ev (fun k => spec_JoinLoops.l0 k a b out (i : Int)) (strOfNums (bytesOf out ++ moveL (a.size / 2) ((bytesOf b).drop i)), true)
  | 0, i, out, hi, ho => by
    have hlen := bytesOf_length b
    refine Ev.step (fun k => by rw [spec_JoinLoops.l0]) ?_
    refine Ev.neg (by omega) (Ev.val ?_)
    rw [List.drop_of_length_le (by omega)]
    show (out, true) = (strOfNums (bytesOf out ++ []), true)
    rw [List.append_nil, strOf_bytesOf]
  | d + 1, i, out, hi, ho => by
    have hlen := bytesOf_length b
    have hlt : i < (bytesOf b).length := by omega
    obtain ⟨h0, h1⟩ := hl _ (List.getElem_mem hlt)
    have hx := bytesOf_get b i hlt
    generalize hxx : (bytesOf b)[i] = x at h0 h1 hx
    obtain ⟨n, hn⟩ : ∃ n : Nat, x - 97 + ((a.size / 2 : Nat) : Int) = n := ⟨(x - 97 + ((a.size / 2 : Nat) : Int)).toNat, by omega⟩
    have hn16 : n < 16 := by omega
    have e1 : wrap64 (((x - 97) % 256) + wrap64 ((a.size : Int) / 2)) = n := by
      rw [w64 (x := (a.size : Int) / 2) (by omega) (by omega), w64 (by omega) (by omega)]
      omega
    refine Ev.step (fun k => by rw [spec_JoinLoops.l0]) ?_
    rw [hx]
    simp only [e1]
    rw [w64 (x := (n : Int) + 1) (by omega) (by omega), w64 (x := (i : Int) + 1) (by omega) (by omega), show ((n : Int) + 1).toNat = n + 1 by omega, Int.toNat_natCast]
    have hone : bytesOf ((⟨#[97, 98, 99, 100, 101, 102, 103, 104, 105, 106, 107, 108, 109, 110, 111, 112]⟩ : ByteArray).extract n (n + 1)) = [97 + (n : Int)] := abc_one n hn16
    have hsz : ((⟨#[97, 98, 99, 100, 101, 102, 103, 104, 105, 106, 107, 108, 109, 110, 111, 112]⟩ : ByteArray).extract n (n + 1)).size = 1 := abc_size n hn16
    refine Ev.pos (by omega) (Ev.pos (by omega) (Ev.pos (by omega) (Ev.pos (by omega) (Ev.pos (by omega) (Ev.pos (by omega) ?_)))))
    have e := join_l0 a b ha hb hl d (i + 1) (out ++ (⟨#[97, 98, 99, 100, 101, 102, 103, 104, 105, 106, 107, 108, 109, 110, 111, 112]⟩ : ByteArray).extract n (n + 1)) (by omega) (by rw [ByteArray.size_append, hsz]; omega)
    rw [bytesOf_append, hone] at e
    rw [List.drop_eq_getElem_cons hlt, hxx]
    have ec : moveL (a.size / 2) (x :: (bytesOf b).drop (i + 1)) = (97 + (n : Int)) :: moveL (a.size / 2) ((bytesOf b).drop (i + 1)) := by
      unfold moveL
      rw [List.map_cons]
      congr 1
      omega
    rw [ec]
    rw [List.append_assoc] at e
    exact e
def joinR (a b : ByteArray) : ByteArray × Bool :=
  if (goodS a = true ∧ goodS b = true) ∧ a.size + b.size ≤ 16 then (strOfNums (bytesOf a ++ moveL (a.size / 2) (bytesOf b)), true) else (⟨#[]⟩, false)
theorem FnExactJoinLoops : ∀ (a0 : ByteArray) (a1 : ByteArray), a0.size ≤ 140737488351232 → a1.size ≤ 140737488351232 → ∃ k, laws_FnExactJoinLoops.f k a0 a1 = some true := by
  intro a b _ _
  refine Ev.rounds ?_
  unfold laws_FnExactJoinLoops.f
  by_cases ha : (a.size : Int) > 1048576
  · exact Ev.pos ha (Ev.val rfl)
  by_cases hb : (b.size : Int) > 1048576
  · exact Ev.neg ha (Ev.pos hb (Ev.val rfl))
  have hs : Ev (fun k => spec_JoinLoops.f k a b) (joinR a b) := by
    unfold spec_JoinLoops.f joinR
    refine Ev.bindk (loGood_ev a) ?_
    by_cases h : goodS a = true
    · have h16 := good_size h
      refine Ev.pos h (Ev.bindk (loGood_ev b) ?_)
      by_cases h2 : goodS b = true
      · have h16b := good_size h2
        refine Ev.pos h2 ?_
        refine Ev.step (fun k => by rw [spec_JoinLoops.j0]) ?_
        rw [w64 (by omega) (by omega)]
        by_cases hc : a.size + b.size ≤ 16
        · rw [if_pos ⟨⟨h, h2⟩, hc⟩]
          refine Ev.neg (by simp; omega) ?_
          have e := join_l0 a b h16 h16b (good_letters (show goodL (bytesOf b) = true from h2)) b.size 0 a (by omega) (by omega)
          simpa using e
        · rw [if_neg (fun e => hc e.2)]
          exact Ev.pos (by simp; omega) (Ev.val rfl)
      · rw [if_neg (fun e => h2 e.1.2)]
        refine Ev.neg h2 ?_
        refine Ev.step (fun k => by rw [spec_JoinLoops.j0]) ?_
        exact Ev.pos rfl (Ev.val rfl)
    · rw [if_neg (fun e => h e.1.1)]
      refine Ev.neg h ?_
      refine Ev.step (fun k => by rw [spec_JoinLoops.j0]) ?_
      exact Ev.pos rfl (Ev.val rfl)
  have hi : Ev (fun k => impl_JoinLoops.f k a b) (joinR a b) := by
    unfold impl_JoinLoops.f joinR
    refine Ev.bindk (isLoop_ev a) ?_
    by_cases h : goodS a = true
    · have h16 := good_size h
      refine Ev.pos h (Ev.bindk (isLoop_ev b) ?_)
      by_cases h2 : goodS b = true
      · have h16b := good_size h2
        refine Ev.pos h2 (Ev.pos ⟨⟨h16, h16b⟩, List.all_eq_true.2 (fun x hx => by
          have := good_letters (show goodL (bytesOf b) = true from h2) x hx
          exact decide_eq_true (by omega))⟩ ?_)
        by_cases hc : a.size + b.size ≤ 16
        · refine Ev.pos hc ?_
          rw [if_pos ⟨⟨h, h2⟩, hc⟩]
          exact Ev.val rfl
        · refine Ev.neg hc ?_
          rw [if_neg (fun e => hc e.2)]
          exact Ev.val rfl
      · refine Ev.neg h2 ?_
        rw [if_neg (fun e => h2 e.1.2)]
        exact Ev.val rfl
    · refine Ev.neg h ?_
      rw [if_neg (fun e => h e.1.1)]
      exact Ev.val rfl
  refine Ev.neg ha (Ev.neg hb (Ev.bindk hs (Ev.bindk hi ?_)))
  exact Ev.pos rfl (Ev.neg (by simp) (Ev.val rfl))
end Go.Proofs.YtgdpeabbmbclbaaDoor.Pure

/- Shared steps of the rows: an argument that is a slice of structs of whole numbers, read as a list of lists of numbers. -/
namespace Go.Proofs.YtgdpeabbmbclbaaDoor.RowA
open Go.ChangeShapes Go.WideShapes Go.Deep Go.RowKit Go.Proofs.YtgdpeabbmbclbaaDoorW.PrintWords
section
variable {H : Type} {enc : TypeId × Value → H} {P : Program} {w : World} {base : Nat} {spare : Nat → Bool} {held : Bool}

/-- A slice of structs whose fields are one cell each: nil, or an address with, for each element and each field, the cell and the field's own reading. -/
theorem open_cells {t e : TypeId} {fs : Array Field} {fuel : Nat} {cs : List Value} {x : DataW H × List MemPlace} (ht : P.underlying t = some (.slice e)) (he : P.underlying e = some (.struct fs))
    (hone : oneCellFields P fs = true) (hC : P.cellsOf e = fs.size) (h : DataW.trod enc P w base spare held fuel t cs = some x) :
    cs = [.slice none 0 0] ∨
    ∃ (a : Addr) (len cap : Nat), cs = [.slice (some a) len cap] ∧ len ≤ cap ∧ cap ≤ maxLen ∧
      ∀ i, i < len → ∃ n, ∀ (j : Nat) (f : Field), fs[j]? = some f → ∃ (v : Value) (y : DataW H × List MemPlace), w.cell? (a.add (i * fs.size + j)) = some v ∧ DataW.trod enc P w base spare held n f.type [v] = some y := by
  rcases open_slice ht h with h0 | ⟨a, len, cap, m, n, D, Pl, hcs, hb, hl, hm, hmm, hx, hi⟩
  · exact .inl h0.1
  · refine .inr ⟨a, len, cap, hcs, hl, hm, fun i hil => ?_⟩
    have him : i < m := by
      rw [hmm]
      split
      · omega
      · exact hil
    obtain ⟨cs', hc, ht'⟩ := hi i him
    rw [hC] at hc
    obtain ⟨ys, n', hn', hy, hlen, hyl, hf⟩ := DataW.trod_struct he ht'
    obtain ⟨_, hcl, hat⟩ := World.cells?_some hc
    refine ⟨n', fun j f hj => ?_⟩
    obtain ⟨ho, hk⟩ := hone_of hone j f hj
    have hjl : j < fs.size := (Array.getElem?_eq_some_iff.1 hj).1
    have hcell := hat j hjl
    have hv : cs'[j]? = some (cs'[j]'(by omega)) := List.getElem?_eq_getElem (by omega)
    have h1 := hf j f hj
    rw [ho, hk] at h1
    have hone' : (cs'.drop j).take 1 = [cs'[j]'(by omega)] := by
      rw [List.drop_eq_getElem_cons (by omega)]
      rfl
    rw [hone'] at h1
    have hys : ys[j]? = some (ys[j]'(by omega)) := List.getElem?_eq_getElem (by omega)
    refine ⟨_, _, ?_, h1.trans hys⟩
    rw [← Go.Deep.add_add, hcell, hv]

/-- One whole number's reading. -/
theorem read_i64 {t : TypeId} {n : Nat} {v : Value} {y : DataW H × List MemPlace} (hu : P.underlying t = some (.int .i64)) (h : DataW.trod enc P w base spare held n t [v] = some y) :
    ∃ z : Int, v = .int .i64 z ∧ (Lit.int .i64 z).wf = true := by
  obtain ⟨z, hz, _, hw⟩ := DataW.trod_int hu h
  simp at hz
  exact ⟨z, hz, hw⟩

/-- A slice of structs of m whole numbers, as it is handed over: the numbers by element and field. -/
theorem open_nums {t e : TypeId} {fs : Array Field} {a : Option Addr} {len cap : Nat} {d : DataW H} {ps : List MemPlace} (ht : P.underlying t = some (.slice e)) (he : P.underlying e = some (.struct fs))
    (hone : oneCellFields P fs = true) (hC : P.cellsOf e = fs.size) (hi : ∀ (j : Nat) (f : Field), fs[j]? = some f → P.underlying f.type = some (.int .i64))
    (h : DataW.Trod enc P w base spare held t (.slice a len cap) d ps) :
    len ≤ cap ∧ len ≤ maxLen ∧ ∃ z : Nat → Nat → Int, (∀ i j, i < len → j < fs.size → (Lit.int .i64 (z i j)).wf = true) ∧
      (0 < len → ∃ ad, a = some ad ∧ ∀ i j, i < len → j < fs.size → w.cell? (ad.add (i * fs.size + j)) = some (.int .i64 (z i j))) := by
  obtain ⟨fuel, hf⟩ := h
  rcases open_cells ht he hone hC hf with hcs | ⟨x, l, c, hcs, hl, hm, hcell⟩
  · simp [Value.cells] at hcs
    obtain ⟨rfl, rfl, rfl⟩ := hcs
    exact ⟨Nat.le_refl _, Nat.zero_le _, fun _ _ => 0, fun i j h => absurd h (Nat.not_lt_zero _), fun h => absurd h (Nat.not_lt_zero _)⟩
  · simp [Value.cells] at hcs
    obtain ⟨rfl, rfl, rfl⟩ := hcs
    refine ⟨hl, Nat.le_trans hl hm, ?_⟩
    have hz : ∀ i j, ∃ z : Int, i < len → j < fs.size → w.cell? (x.add (i * fs.size + j)) = some (.int .i64 z) ∧ (Lit.int .i64 z).wf = true := by
      intro i j
      by_cases h1 : i < len
      · by_cases h2 : j < fs.size
        · obtain ⟨n, hn⟩ := hcell i h1
          obtain ⟨v, y, hv, hy⟩ := hn j fs[j] (Array.getElem?_eq_getElem h2)
          obtain ⟨z, rfl, hw⟩ := read_i64 (hi j fs[j] (Array.getElem?_eq_getElem h2)) hy
          exact ⟨z, fun _ _ => ⟨hv, hw⟩⟩
        · exact ⟨0, fun _ h => absurd h h2⟩
      · exact ⟨0, fun h _ => absurd h h1⟩
    exact ⟨fun i j => (hz i j).choose, fun i j h1 h2 => ((hz i j).choose_spec h1 h2).2, fun _ => ⟨x, rfl, fun i j h1 h2 => ((hz i j).choose_spec h1 h2).1⟩⟩
/-- The same, of one reading. -/
theorem open_nums_at {t e : TypeId} {fs : Array Field} {a : Option Addr} {len cap fuel : Nat} {x : DataW H × List MemPlace} (ht : P.underlying t = some (.slice e)) (he : P.underlying e = some (.struct fs))
    (hone : oneCellFields P fs = true) (hC : P.cellsOf e = fs.size) (hi : ∀ (j : Nat) (f : Field), fs[j]? = some f → P.underlying f.type = some (.int .i64))
    (hf : DataW.trod enc P w base spare held fuel t [.slice a len cap] = some x) :
    len ≤ cap ∧ len ≤ maxLen ∧ ∃ z : Nat → Nat → Int, (∀ i j, i < len → j < fs.size → (Lit.int .i64 (z i j)).wf = true) ∧
      (0 < len → ∃ ad, a = some ad ∧ ∀ i j, i < len → j < fs.size → w.cell? (ad.add (i * fs.size + j)) = some (.int .i64 (z i j))) :=
  open_nums (d := x.1) (ps := x.2) ht he hone hC hi ⟨fuel, by simpa [Value.cells] using hf⟩

/-- A struct of one slice. -/
theorem open_one {r : Reach} {b0 : Nat} {t e : TypeId} {f0 : Field} {v : Value} {d : DataW H} {p : List MemPlace} (hs : P.underlying t = some (.struct #[f0])) (hf0 : P.underlying f0.type = some (.slice e)) (hone : oneCellFields P #[f0] = true) (hC : P.cellsOf t = 1)
    (hv : Value.okWide P w r b0 t v) (h : DataW.Trod enc P w base spare held t v d p) :
    ∃ (a : Option Addr) (len cap : Nat) (y : DataW H × List MemPlace) (n : Nat), v = .agg #[.slice a len cap] ∧ DataW.trod enc P w base spare held n f0.type [.slice a len cap] = some y := by
  obtain ⟨cs, rfl, hsz⟩ := okWide_struct hs hv
  rw [hC] at hsz
  obtain ⟨c0, rfl⟩ : ∃ c, cs = #[c] := Array.size_eq_one_iff.mp hsz
  obtain ⟨fuel, hf⟩ := h
  obtain ⟨ys, n', hn', hy, hlen, hyl, hg⟩ := DataW.trod_struct hs hf
  obtain ⟨o0, k0⟩ := hone_of hone 0 f0 rfl
  have h1 := hg 0 f0 rfl
  rw [o0, k0] at h1
  have hv1 : (List.drop 0 (Value.agg #[c0]).cells.toList).take 1 = [c0] := rfl
  have h2 : DataW.trod enc P w base spare held n' f0.type [c0] = ys[0]? := h1
  have hys : ys[0]? = some (ys[0]'(by rw [hyl]; exact Nat.zero_lt_one)) := List.getElem?_eq_getElem _
  rw [hys] at h2
  rcases open_slice hf0 h2 with h0 | ⟨a, len, cap, m, n, D, Pl, hcs, _⟩
  · have := h0.1
    simp at this
    subst this
    exact ⟨none, 0, 0, _, n', rfl, h2⟩
  · simp at hcs
    subst hcs
    exact ⟨some a, len, cap, _, n', rfl, h2⟩
end
end Go.Proofs.YtgdpeabbmbclbaaDoor.RowA

/- The row of the law FnExactJoinLoops: The program's JoinLoops returns what the reference's returns, for all arguments. -/
namespace Go.Proofs.YtgdpeabbmbclbaaDoor.fnExactJoinLoops
open Go.ChangeShapes Go.WideShapes Go.ChangeAt Go.RowKit Go.Proofs.YtgdpeabbmbclbaaDoor.Pr Go.Proofs.YtgdpeabbmbclbaaDoorW.PrintWords
open Go.ChangeMaps (open_string shut_string)
set_option linter.unusedVariables false
theorem own : ownKnob Tryd.prog.godebug = none := by kernel_rfl
set_option maxRecDepth 100000 in
theorem lifted (os : Os) (started : os.Started) (H : Type) (enc : TypeId × Value → H) :
    ReturnsInHanded {} Tryd.checked os 6 .any (fun w args => (Rows.fnExactJoinLoopsSpec.pre enc Tryd.prog Tryd.f6 [] false w args ∧ laidMetH Tryd.prog Rows.fnExactJoinLoopsRow.laid w) ∧ sizedMet enc Tryd.prog Tryd.f6 (OpenSpec.ofChange Rows.fnExactJoinLoopsSpec) false w args) (Rows.fnExactJoinLoopsSpec.post enc Tryd.prog Tryd.f6 false true false false) := by
  refine returnsInHanded_of_change_and (C := Tryd.checked) (X := fun w _ => laidMetH Tryd.prog Rows.fnExactJoinLoopsRow.laid w) (fun _ _ _ hh h => h.of_heap hh) own started (by kernel_rfl) Tryd.func6
    (ChangeSpec.witness_shaped (enc := enc) (C := Tryd.checked) (os := os) (X := fun w _ => laidMetH Tryd.prog Rows.fnExactJoinLoopsRow.laid w) false (World.laidAll Tryd.prog os Rows.fnExactJoinLoopsRow.laid) #[.string ByteArray.empty, .string ByteArray.empty] 8 (World.laidAll_os _ _ _)
      (World.shaped_of_ZipB (by kernel_rfl) (by kernel_rfl)) (by kernel_rfl) (by kernel_rfl) (by kernel_rfl)
      (by rw [MakeChecks.laidMetH_plain _ _ _ (by kernel_rfl)]; exact laidMet_laidAll _ (by kernel_rfl) (by kernel_rfl))) ?_
  intro W base args ds gs before hval0 hW hcnd hsz0 hlaid _
  have hsz : (DataW.weightsEach Tryd.prog (Tryd.f6.params.toList ++ Rows.fnExactJoinLoopsSpec.plain.varTypes Tryd.prog) (ds ++ gs)).all (· ≤ reachBytes) = true := hsz0
  have hval : ∀ (j : Nat) t v, Tryd.f6.params[j]? = some t → args[j]? = some v → Value.okWide Tryd.prog W .any base t v := hval0
  have hW' := hW
  obtain ⟨p, q, hA0, hV, rfl, hfz, hnd⟩ := hW
  have hA : DataW.TrodAll enc Tryd.prog W 0 (fun _ => true) true Tryd.f6.params.toList args.toList ds p := hA0
  rw [Tryd.params6] at hA hval hsz
  obtain ⟨v0, vs0, d0, ds0, p0, q0, hargs, rfl, rfl, h0, r0⟩ := trodAll_cons hA
  obtain ⟨v1, vs1, d1, ds1, p1, q1, rfl, rfl, rfl, h1, r1⟩ := trodAll_cons r0
  obtain ⟨rfl, rfl, rfl⟩ := trodAll_nil r1
  obtain rfl : args = #[v0, v1] := by cases args; simp_all
  obtain ⟨rfl, rfl⟩ := trodVars_none hV
  obtain ⟨a0, rfl, rfl, rfl, y0⟩ := open_string Tryd.underlying9 (hval 0 9 v0 rfl rfl) h0
  have w0 : a0.size ≤ 140737488351232 := by
    have z := sized_string hsz (j := 0) (t := 9) rfl rfl
    rw [Array.length_toList] at z
    exact z
  obtain ⟨a1, rfl, rfl, rfl, y1⟩ := open_string Tryd.underlying9 (hval 1 9 v1 rfl rfl) h1
  have w1 : a1.size ≤ 140737488351232 := by
    have z := sized_string hsz (j := 1) (t := 9) rfl rfl
    rw [Array.length_toList] at z
    exact z
  clear hA0 hval0 hsz0 hsz
  obtain ⟨k, hk⟩ := Pure.FnExactJoinLoops a0 a1 w0 w1
  refine (laws_FnExactJoinLoops.calls k a0 a1 true W  hk).mono fun e W' he => ?_
  obtain ⟨he, bel0⟩ := he
  have bel : Below W.heap.size W W' := bel0
  subst he
  exact ⟨_, rfl, _, _, _, [], _, [], hW', trodAll_mk1 (shut_bool Tryd.underlying4 _), (trodAll_cons_mk (shut_string Tryd.underlying9 y0) (trodAll_cons_mk (shut_string Tryd.underlying9 y1) trodAll_mk0)), rfl, bel.frame _, fun h => by cases h⟩
theorem over : Rows.fnExactJoinLoopsRow.holds Tryd.pinned (OpenSpec.ofChange Rows.fnExactJoinLoopsSpec) :=
  OpenClaim.holds_of_wide 6 Tryd.f6 rfl rfl rfl rfl rfl rfl rfl ⟨rfl, rfl, rfl, rfl, rfl⟩ rfl rfl rfl rfl rfl (by kernel_rfl) Tryd.func6 (by kernel_rfl)
    (of_decide_eq_true (by kernel_rfl)) (by unfold Func.isWrapper; first | (rw [if_pos (by decide +kernel)]; kernel_rfl) | (rw [if_neg (by decide +kernel)]; exact ⟨rfl, rfl⟩))
    (fun os started H enc _ => lifted os started H enc)
theorem proved : Rows.FnExactJoinLoopsSaid := over
theorem card_holds : Rows.FnExactJoinLoopsCardSaid :=
  Claim7.holds_tied_plain_at .later [] [.data, .pinned] true (true, "6c39b66ebf8ce6e358ee65a3ba0e0bf1bbd857d534c242ce5d1d887f1e97a3bb") false
    proved (fun _ h => by cases h) (by kernel_rfl) (fun _ h => by cases h) fnExactJoinLoops_row_tie rfl ⟨rfl, rfl⟩ (by kernel_rfl) rfl
    (fun f fn hf hfn => by
      obtain rfl : f = 6 := Option.some.inj ((show Tryd.prog.funcNamed Rows.fnExactJoinLoopsRow.func = some 6 by kernel_rfl).symm.trans hf) |>.symm
      obtain rfl : fn = Tryd.f6 := (Option.some.inj (Tryd.func6.symm.trans hfn)).symm
      exact ⟨by kernel_rfl, fun j t ht => by
        rw [Tryd.params6] at ht
        have hm : t ∈ [9, 9] := by simpa using Array.mem_of_getElem? ht
        have hall : ([9, 9].all fun u => !Tryd.prog.wantsStandIn u) = true := by kernel_rfl
        exact (show Tryd.prog.wantsStandIn t = false by simpa using List.all_eq_true.1 hall t hm)⟩)
    (by kernel_rfl)
end Go.Proofs.YtgdpeabbmbclbaaDoor.fnExactJoinLoops
namespace Go.Proofs.YtgdpeabbmbclbaaDoor
/-- The row, under a short name, for the claim. -/
theorem fnExactJoinLoops_holds : Rows.FnExactJoinLoopsCardSaid := fnExactJoinLoops.card_holds
#print axioms fnExactJoinLoops_holds
end Go.Proofs.YtgdpeabbmbclbaaDoor
