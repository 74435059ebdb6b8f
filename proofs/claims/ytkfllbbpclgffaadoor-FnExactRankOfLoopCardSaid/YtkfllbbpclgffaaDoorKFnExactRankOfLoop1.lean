/- The program's RankOfLoop returns what the reference's returns, for all arguments. (Part 2 of 3.) -/
import Derived.Test.YtkfllbbpclgffaaDoorProg
import Derived.Below
import Derived.Deep.Draws
import Derived.Deep.AppendLies
import Derived.Maps.AppendAt
import Derived.OwnWalk
import Derived.Laws.BytesArg
import Derived.Laws.MakeOwn
import Derived.Laws.OwnMore
import Derived.Deep.OwnRows
import Derived.Tactics
import Derived.Lib.ConvBytes
import Derived.Laws.Slices
import Derived.WalkKit
import Derived.KernelRfl
import Derived.RowKit3
import Derived.Deep.LoopGhost
import Derived.Deep.QuietTactic
import Derived.BigQuiet
import Derived.WideLaws
import Derived.Deep.DeepCutAuto
import Derived.Deep.CutBlock
import Derived.Deep.RegionHeld3
import Derived.Laws.Rows
import Derived.Lib.AppendStr
import Derived.ArgAppend
import Derived.Laws.IdiomCopy
import Derived.OrdersHeld
import Derived.Laws.BitsLemmas
import Derived.RowKit
import Derived.Shelf.Abstract
import Derived.Laws.Strings
import Derived.Shelf.Small.Strs
import Derived.Ground.NamesProg
import Derived.Shelf.Strings.LastIndex
import Derived.Shelf.Strings.Count
import Derived.Shelf.Strings.Search3
import Derived.Shelf.Strings.SlTrimAscii
import Derived.Deep.RegionWith
import Derived.IntWalk
import Derived.Lib.Bytealg
import Derived.Test.YtkfllbbpclgffaaDoorKFnExactRankOfLoop0
-- Written by a program for this claim.
namespace Go.Proofs.YtkfllbbpclgffaaDoor.Pr
open Go.RowKit Go.Proofs.YtkfllbbpclgffaaDoorW.PrintWords Go.Proofs.YtkfllbbpclgffaaDoorW.PrintLast Go.Proofs.YtkfllbbpclgffaaDoorW.PrintMore
attribute [local go_sem] max2_int min2_int max_two min_two max_three min_three max_four min_four   -- for this text's walks alone
set_option linter.unusedVariables false
set_option linter.unusedSimpArgs false



def errW : Option Int → Value
  | none => .nilIface
  | some c => .iface 0 (.int .i64 c)
theorem errW_none : errW none = .nilIface := rfl
theorem errW_some (c : Int) : errW (some c) = .iface 0 (.int .i64 c) := rfl

theorem info5 : (Tryd.prog.info? 5).map (fun i => (i.zero, i.size, i.bytes)) = some (some (.int .u8 0), 1, 1) := by kernel_rfl
-- the values' own types

end Go.Proofs.YtkfllbbpclgffaaDoor.Pr

-- Written by a program for this claim.
namespace Go.Proofs.YtkfllbbpclgffaaDoor.Pr
open Go.RowKit Go.Proofs.YtkfllbbpclgffaaDoorW.PrintWords Go.Proofs.YtkfllbbpclgffaaDoorW.PrintLast Go.Proofs.YtkfllbbpclgffaaDoorW.PrintMore
attribute [local go_sem] max2_int min2_int max_two min_two max_three min_three max_four min_four   -- for this text's walks alone
set_option linter.unusedVariables false
set_option linter.unusedSimpArgs false

/-! ### spec_loAnew: function 32 -/
mutual
def spec_loAnew.l0 : Nat → ByteArray → ByteArray → ByteArray → Int → Option (ByteArray)
  | 0, _, _, _, _ => none
  | k + 1, x0, x3, x4, x5 => if x5 < (x0.size : Int) then (spec_loAnew.l1 k x0 x3 x4 x5 (-1) 0) else (some x4)
def spec_loAnew.l1 : Nat → ByteArray → ByteArray → ByteArray → Int → Int → Int → Option (ByteArray)
  | 0, _, _, _, _, _, _ => none
  | k + 1, x0, x3, x4, x5, x6, x7 => if x7 < (x3.size : Int) then (if 0 ≤ x7 then (if 0 ≤ x5 then (if x5 < (x0.size : Int) then (if (bt x3 x7) = (bt x0 x5) then (spec_loAnew.l1 k x0 x3 x4 x5 x7 (wrap64 (x7 + 1))) else (spec_loAnew.l1 k x0 x3 x4 x5 x6 (wrap64 (x7 + 1)))) else (none)) else (none)) else (none)) else (if x6 < 0 then (if 0 ≤ x5 then (if x5 ≤ (wrap64 (x5 + 1)) then (if (wrap64 (x5 + 1)) ≤ (x0.size : Int) then (if x3.size + (x0.extract (x5 : Int).toNat ((wrap64 (x5 + 1)) : Int).toNat).size ≤ 9223372036854775807 then (if 0 ≤ (x3.size : Int) then (if (x3.size : Int) ≤ (wrap64 ((x3.size : Int) + 1)) then (if (wrap64 ((x3.size : Int) + 1)) ≤ 16 then (if x4.size + ((⟨#[97, 98, 99, 100, 101, 102, 103, 104, 105, 106, 107, 108, 109, 110, 111, 112]⟩ : ByteArray).extract ((x3.size : Int) : Int).toNat ((wrap64 ((x3.size : Int) + 1)) : Int).toNat).size ≤ 9223372036854775807 then (spec_loAnew.l0 k x0 (x3 ++ (x0.extract (x5 : Int).toNat ((wrap64 (x5 + 1)) : Int).toNat)) (x4 ++ ((⟨#[97, 98, 99, 100, 101, 102, 103, 104, 105, 106, 107, 108, 109, 110, 111, 112]⟩ : ByteArray).extract ((x3.size : Int) : Int).toNat ((wrap64 ((x3.size : Int) + 1)) : Int).toNat)) (wrap64 (x5 + 1))) else (none)) else (none)) else (none)) else (none)) else (none)) else (none)) else (none)) else (none)) else (if 0 ≤ x6 then (if x6 ≤ (wrap64 (x6 + 1)) then (if (wrap64 (x6 + 1)) ≤ 16 then (if x4.size + ((⟨#[97, 98, 99, 100, 101, 102, 103, 104, 105, 106, 107, 108, 109, 110, 111, 112]⟩ : ByteArray).extract (x6 : Int).toNat ((wrap64 (x6 + 1)) : Int).toNat).size ≤ 9223372036854775807 then (spec_loAnew.l0 k x0 x3 (x4 ++ ((⟨#[97, 98, 99, 100, 101, 102, 103, 104, 105, 106, 107, 108, 109, 110, 111, 112]⟩ : ByteArray).extract (x6 : Int).toNat ((wrap64 (x6 + 1)) : Int).toNat)) (wrap64 (x5 + 1))) else (none)) else (none)) else (none)) else (none)))
end
def spec_loAnew.f (k : Nat) (a0 : ByteArray) : Option (ByteArray) := spec_loAnew.l0 k a0 (⟨#[]⟩ : ByteArray) (⟨#[]⟩ : ByteArray) 0
theorem spec_loAnew.mono_l : ∀ k, (∀ y0 y1 y2 y3, LeO (spec_loAnew.l0 k y0 y1 y2 y3) (spec_loAnew.l0 (k + 1) y0 y1 y2 y3)) ∧ (∀ y0 y1 y2 y3 y4 y5, LeO (spec_loAnew.l1 k y0 y1 y2 y3 y4 y5) (spec_loAnew.l1 (k + 1) y0 y1 y2 y3 y4 y5))
  | 0 => ⟨fun _ _ _ _ r h => by simp [spec_loAnew.l0] at h, fun _ _ _ _ _ _ r h => by simp [spec_loAnew.l1] at h⟩
  | k + 1 => by
    obtain ⟨ih0, ih1⟩ := spec_loAnew.mono_l k
    refine ⟨?_, ?_⟩
    · intro y0 y1 y2 y3
      unfold spec_loAnew.l0
      repeat' first
      | (with_reducible exact ih0 _ _ _ _)
      | (with_reducible exact ih1 _ _ _ _ _ _)
      | (with_reducible exact LeO.refl _)
      | (with_reducible exact LeO.none _)
      | (with_reducible refine LeO.ite ?_ ?_)
      | (with_reducible refine LeO.bind ?_ (fun _ => ?_))
      | exact ih0 _ _ _ _
      | exact ih1 _ _ _ _ _ _
      | exact LeO.none _
      | refine LeO.ite ?_ ?_
      | refine LeO.bind ?_ (fun _ => ?_)
    · intro y0 y1 y2 y3 y4 y5
      unfold spec_loAnew.l1
      repeat' first
      | (with_reducible exact ih0 _ _ _ _)
      | (with_reducible exact ih1 _ _ _ _ _ _)
      | (with_reducible exact LeO.refl _)
      | (with_reducible exact LeO.none _)
      | (with_reducible refine LeO.ite ?_ ?_)
      | (with_reducible refine LeO.bind ?_ (fun _ => ?_))
      | exact ih0 _ _ _ _
      | exact ih1 _ _ _ _ _ _
      | exact LeO.none _
      | refine LeO.ite ?_ ?_
      | refine LeO.bind ?_ (fun _ => ?_)
theorem spec_loAnew.mono : ∀ a0 k, LeO (spec_loAnew.f k a0) (spec_loAnew.f (k + 1) a0) := by
  intro a0 k
  obtain ⟨ih0, ih1⟩ := spec_loAnew.mono_l k
  unfold spec_loAnew.f
  repeat' first
      | (with_reducible exact ih0 _ _ _ _)
      | (with_reducible exact ih1 _ _ _ _ _ _)
      | (with_reducible exact LeO.refl _)
      | (with_reducible exact LeO.none _)
      | (with_reducible refine LeO.ite ?_ ?_)
      | (with_reducible refine LeO.bind ?_ (fun _ => ?_))
      | exact ih0 _ _ _ _
      | exact ih1 _ _ _ _ _ _
      | exact LeO.none _
      | refine LeO.ite ?_ ?_
      | refine LeO.bind ?_ (fun _ => ?_)
set_option maxHeartbeats 8000000 in
set_option maxRecDepth 100000 in
theorem spec_loAnew.calls (k : Nat) (a0 : ByteArray) (r : ByteArray) (w : World) (h : spec_loAnew.f k a0 = some r) :
    Calls Tryd.prog 32 #[.string a0] w fun e w' => e = .returned (.string r) ∧ Drawn0 w w' := by
  have H : (spec_loAnew.l0 k a0 (⟨#[]⟩ : ByteArray) (⟨#[]⟩ : ByteArray) 0) = some r := h
  clear h
  have H' := Aside0.mk H
  clear H
  go_enter Tryd.func32, Tryd.ntmps32
  go_wp2
  repeat (go_quiet (fail); try go_wp2)
  go_loopg [3, 4, 5] k (fun kq v3 v4 v5 w' => ∃ (x3_1 : ByteArray) (x4_1 : ByteArray) (x5_1 : Int), v3 = .string x3_1 ∧ v4 = .string x4_1 ∧ v5 = .int .i64 x5_1 ∧ Aside0 (spec_loAnew.l0 kq a0 x3_1 x4_1 x5_1 = some r) ∧ Aside0 (kq ≤ k) ∧ Drawn0 w w')
  case atStart => exact ⟨((⟨#[]⟩ : ByteArray)), ((⟨#[]⟩ : ByteArray)), (0), (by first | rfl | (simp; done) | (simp [*]; done)), (by first | rfl | (simp; done) | (simp [*]; done)), (by first | rfl | (simp; done) | (simp [*]; done)), H', ⟨Nat.le_refl _⟩, by repeat (first | exact Drawn0.refl _ | apply Drawn0.step)⟩
  case round =>
    clear H'
    obtain ⟨x3_1, x4_1, x5_1, rfl, rfl, rfl, HA, HK1, ⟨m1, rfl⟩⟩ := hrel
    cases gk with
    | zero => exact absurd HA.out (by simp [spec_loAnew.l0])
    | succ k1 =>
      have H := HA.out
      clear HA
      simp only [spec_loAnew.l0] at H
      by_cases c2 : x5_1 < (a0.size : Int)
      · rw [if_pos c2] at H
        have c2b0 : decide (x5_1 < (a0.size : Int)) = true := decide_eq_true c2
        clear c2
        have H' := Aside0.mk H
        clear H
        go_wp2
        repeat (go_quiet (fail); try go_wp2)
        go_loopg [6, 7] k1 (fun kq v6 v7 w' => ∃ (x6_2 : Int) (x7_2 : Int), v6 = .int .i64 x6_2 ∧ v7 = .int .i64 x7_2 ∧ Aside0 (spec_loAnew.l1 kq a0 x3_1 x4_1 x5_1 x6_2 x7_2 = some r) ∧ Aside0 (kq ≤ k1) ∧ Drawn0 w w')
        case atStart => exact ⟨((-1)), (0), (by first | rfl | (simp; done) | (simp [*]; done)), (by first | rfl | (simp; done) | (simp [*]; done)), H', ⟨Nat.le_refl _⟩, by repeat (first | exact Drawn0.refl _ | apply Drawn0.step)⟩
        case round =>
          clear H'
          try clear c2
          try clear c2b0
          try clear p2
          obtain ⟨x6_2, x7_2, rfl, rfl, HA, HK2, ⟨m2, rfl⟩⟩ := hrel
          cases gk with
          | zero => exact absurd HA.out (by simp [spec_loAnew.l1])
          | succ k2 =>
            have H := HA.out
            clear HA
            simp only [spec_loAnew.l1] at H
            by_cases c3 : x7_2 < (x3_1.size : Int)
            · rw [if_pos c3] at H
              have c3b0 : decide (x7_2 < (x3_1.size : Int)) = true := decide_eq_true c3
              clear c3
              by_cases c4 : 0 ≤ x7_2
              · rw [if_pos c4] at H
                have c4b0 : decide (0 ≤ x7_2) = true := decide_eq_true c4
                clear c4
                by_cases c6 : 0 ≤ x5_1
                · rw [if_pos c6] at H
                  have c6b0 : decide (0 ≤ x5_1) = true := decide_eq_true c6
                  clear c6
                  by_cases c7 : x5_1 < (a0.size : Int)
                  · rw [if_pos c7] at H
                    have c7b0 : decide (x5_1 < (a0.size : Int)) = true := decide_eq_true c7
                    clear c7
                    by_cases c9 : (bt x3_1 x7_2) = (bt a0 x5_1)
                    · rw [if_pos c9] at H
                      have c9b0 : ((bt x3_1 x7_2) == (bt a0 x5_1)) = true := beq_iff_eq.mpr c9
                      have c9b1 : ((bt x3_1 x7_2) != (bt a0 x5_1)) = false := bne_eq_false_iff_eq.mpr c9
                      clear c9
                      have H' := Aside0.mk H
                      clear H
                      have p5 : 0 ≤ (x7_2 : Int) := of_decide_eq_true (by first | (with_reducible assumption) | assumption)
                      have q5 : x7_2 < (x3_1.size : Int) := of_decide_eq_true (by first | (with_reducible assumption) | assumption)
                      have hx5 := bt_at x3_1 x7_2
                      replace p5 := eq_true p5
                      replace q5 := eq_true q5
                      have p8 : 0 ≤ (x5_1 : Int) := of_decide_eq_true (by first | (with_reducible assumption) | assumption)
                      have q8 : x5_1 < (a0.size : Int) := of_decide_eq_true (by first | (with_reducible assumption) | assumption)
                      have hx8 := bt_at a0 x5_1
                      replace p8 := eq_true p8
                      replace q8 := eq_true q8
                      go_wp2
                      repeat (go_quiet (fail); try go_wp2)
                      go_roundg k2
                      case measure => have := HK1.out; have := HK2.out; omega
                      case rel => exact ⟨(x7_2), (wrap64 (x7_2 + 1)), (by first | rfl | (simp; done) | (simp [*]; done)), (by first | rfl | (simp; done) | (simp [*]; done)), H', ⟨by have := HK1.out; have := HK2.out; omega⟩, by repeat (first | exact Drawn0.refl _ | apply Drawn0.step)⟩
                    · rw [if_neg c9] at H
                      have c9b0 : ((bt x3_1 x7_2) == (bt a0 x5_1)) = false := beq_eq_false_iff_ne.mpr c9
                      have c9b1 : ((bt x3_1 x7_2) != (bt a0 x5_1)) = true := bne_iff_ne.mpr c9
                      have H' := Aside0.mk H
                      clear H
                      have p5 : 0 ≤ (x7_2 : Int) := of_decide_eq_true (by first | (with_reducible assumption) | assumption)
                      have q5 : x7_2 < (x3_1.size : Int) := of_decide_eq_true (by first | (with_reducible assumption) | assumption)
                      have hx5 := bt_at x3_1 x7_2
                      replace p5 := eq_true p5
                      replace q5 := eq_true q5
                      have p8 : 0 ≤ (x5_1 : Int) := of_decide_eq_true (by first | (with_reducible assumption) | assumption)
                      have q8 : x5_1 < (a0.size : Int) := of_decide_eq_true (by first | (with_reducible assumption) | assumption)
                      have hx8 := bt_at a0 x5_1
                      replace p8 := eq_true p8
                      replace q8 := eq_true q8
                      go_wp2
                      repeat (go_quiet (fail); try go_wp2)
                      go_roundg k2
                      case measure => have := HK1.out; have := HK2.out; omega
                      case rel => exact ⟨(x6_2), (wrap64 (x7_2 + 1)), (by first | rfl | (simp; done) | (simp [*]; done)), (by first | rfl | (simp; done) | (simp [*]; done)), H', ⟨by have := HK1.out; have := HK2.out; omega⟩, by repeat (first | exact Drawn0.refl _ | apply Drawn0.step)⟩
                  · rw [if_neg c7] at H
                    exact absurd H (by simp)
                · rw [if_neg c6] at H
                  exact absurd H (by simp)
              · rw [if_neg c4] at H
                exact absurd H (by simp)
            · rw [if_neg c3] at H
              have c3b0 : decide (x7_2 < (x3_1.size : Int)) = false := decide_eq_false c3
              clear c3
              by_cases c10 : x6_2 < 0
              · rw [if_pos c10] at H
                have c10b0 : decide (x6_2 < 0) = true := decide_eq_true c10
                clear c10
                by_cases c11 : 0 ≤ x5_1
                · rw [if_pos c11] at H
                  have c11b0 := eq_true c11
                  have c11b1 : decide (0 ≤ x5_1) = true := decide_eq_true c11
                  clear c11
                  by_cases c12 : x5_1 ≤ (wrap64 (x5_1 + 1))
                  · rw [if_pos c12] at H
                    have c12b0 := eq_true c12
                    have c12b1 : decide (x5_1 ≤ (wrap64 (x5_1 + 1))) = true := decide_eq_true c12
                    by_cases c13 : (wrap64 (x5_1 + 1)) ≤ (a0.size : Int)
                    · rw [if_pos c13] at H
                      have c13b0 := eq_true c13
                      have c13b1 : decide ((wrap64 (x5_1 + 1)) ≤ (a0.size : Int)) = true := decide_eq_true c13
                      by_cases c14 : x3_1.size + (a0.extract (x5_1 : Int).toNat ((wrap64 (x5_1 + 1)) : Int).toNat).size ≤ 9223372036854775807
                      · rw [if_pos c14] at H
                        have c14b0 := eq_true c14
                        have c14b1 : decide (x3_1.size + (a0.extract (x5_1 : Int).toNat ((wrap64 (x5_1 + 1)) : Int).toNat).size ≤ 9223372036854775807) = true := decide_eq_true c14
                        try have c14b2 : (9223372036854775807 < x3_1.size + (a0.extract (x5_1 : Int).toNat ((wrap64 (x5_1 + 1)) : Int).toNat).size) = False := eq_false (Nat.not_lt.2 c14)
                        by_cases c15 : 0 ≤ (x3_1.size : Int)
                        · rw [if_pos c15] at H
                          have c15b0 := eq_true c15
                          have c15b1 : decide (0 ≤ (x3_1.size : Int)) = true := decide_eq_true c15
                          clear c15
                          by_cases c16 : (x3_1.size : Int) ≤ (wrap64 ((x3_1.size : Int) + 1))
                          · rw [if_pos c16] at H
                            have c16b0 := eq_true c16
                            have c16b1 : decide ((x3_1.size : Int) ≤ (wrap64 ((x3_1.size : Int) + 1))) = true := decide_eq_true c16
                            have hwc16_ : wrap64 ((x3_1.size : Int) + 1) = (x3_1.size : Int) + 1 := by clear H; unfold wrap64 at c16 ⊢; omega
                            by_cases c17 : (wrap64 ((x3_1.size : Int) + 1)) ≤ 16
                            · rw [if_pos c17] at H
                              have c17b0 := eq_true c17
                              have c17b1 : decide ((wrap64 ((x3_1.size : Int) + 1)) ≤ 16) = true := decide_eq_true c17
                              by_cases c18 : x4_1.size + ((⟨#[97, 98, 99, 100, 101, 102, 103, 104, 105, 106, 107, 108, 109, 110, 111, 112]⟩ : ByteArray).extract ((x3_1.size : Int) : Int).toNat ((wrap64 ((x3_1.size : Int) + 1)) : Int).toNat).size ≤ 9223372036854775807
                              · rw [if_pos c18] at H
                                have c18b0 := eq_true c18
                                have c18b1 : decide (x4_1.size + ((⟨#[97, 98, 99, 100, 101, 102, 103, 104, 105, 106, 107, 108, 109, 110, 111, 112]⟩ : ByteArray).extract ((x3_1.size : Int) : Int).toNat ((wrap64 ((x3_1.size : Int) + 1)) : Int).toNat).size ≤ 9223372036854775807) = true := decide_eq_true c18
                                try have c18b2 : (9223372036854775807 < x4_1.size + ((⟨#[97, 98, 99, 100, 101, 102, 103, 104, 105, 106, 107, 108, 109, 110, 111, 112]⟩ : ByteArray).extract ((x3_1.size : Int) : Int).toNat ((wrap64 ((x3_1.size : Int) + 1)) : Int).toNat).size) = False := eq_false (Nat.not_lt.2 c18)
                                try have c18b3 : (9223372036854775807 < x4_1.size + (min (x3_1.size + 1) 16 - x3_1.size)) = False := eq_false (by have h1_ := c18; simp only [hwc16_, Int.toNat_natCast, Int.toNat_natCast_add_one, ByteArray.size_extract] at h1_; exact Nat.not_lt.2 h1_)
                                try simp only [hwc16_, Int.toNat_natCast, Int.toNat_natCast_add_one] at c16b0
                                try simp only [hwc16_, Int.toNat_natCast, Int.toNat_natCast_add_one] at c16b1
                                try simp only [hwc16_, Int.toNat_natCast, Int.toNat_natCast_add_one] at c17b0
                                try simp only [hwc16_, Int.toNat_natCast, Int.toNat_natCast_add_one] at c17b1
                                try simp only [hwc16_, Int.toNat_natCast, Int.toNat_natCast_add_one] at c18b0
                                try simp only [hwc16_, Int.toNat_natCast, Int.toNat_natCast_add_one] at c18b1
                                try simp only [hwc16_, Int.toNat_natCast, Int.toNat_natCast_add_one] at c18b2
                                have H' := Aside0.mk H
                                clear H
                                go_wp2
                                repeat (go_quiet (fail); try go_wp2)
                                go_roundg k2
                                case measure => have := HK1.out; have := HK2.out; omega
                                case rel => exact ⟨(x3_1 ++ (a0.extract (x5_1 : Int).toNat ((wrap64 (x5_1 + 1)) : Int).toNat)), (x4_1 ++ ((⟨#[97, 98, 99, 100, 101, 102, 103, 104, 105, 106, 107, 108, 109, 110, 111, 112]⟩ : ByteArray).extract ((x3_1.size : Int) : Int).toNat ((wrap64 ((x3_1.size : Int) + 1)) : Int).toNat)), (wrap64 (x5_1 + 1)), (by first | rfl | (simp; done) | (simp [*]; done)), (by first | rfl | (simp; done) | (simp [*]; done)), (by first | rfl | (simp; done) | (simp [*]; done)), H', ⟨by have := HK1.out; have := HK2.out; omega⟩, by repeat (first | exact Drawn0.refl _ | apply Drawn0.step)⟩
                              · rw [if_neg c18] at H
                                exact absurd H (by simp)
                            · rw [if_neg c17] at H
                              exact absurd H (by simp)
                          · rw [if_neg c16] at H
                            exact absurd H (by simp)
                        · rw [if_neg c15] at H
                          exact absurd H (by simp)
                      · rw [if_neg c14] at H
                        exact absurd H (by simp)
                    · rw [if_neg c13] at H
                      exact absurd H (by simp)
                  · rw [if_neg c12] at H
                    exact absurd H (by simp)
                · rw [if_neg c11] at H
                  exact absurd H (by simp)
              · rw [if_neg c10] at H
                have c10b0 : decide (x6_2 < 0) = false := decide_eq_false c10
                clear c10
                by_cases c19 : 0 ≤ x6_2
                · rw [if_pos c19] at H
                  have c19b0 := eq_true c19
                  have c19b1 : decide (0 ≤ x6_2) = true := decide_eq_true c19
                  clear c19
                  by_cases c20 : x6_2 ≤ (wrap64 (x6_2 + 1))
                  · rw [if_pos c20] at H
                    have c20b0 := eq_true c20
                    have c20b1 : decide (x6_2 ≤ (wrap64 (x6_2 + 1))) = true := decide_eq_true c20
                    by_cases c21 : (wrap64 (x6_2 + 1)) ≤ 16
                    · rw [if_pos c21] at H
                      have c21b0 := eq_true c21
                      have c21b1 : decide ((wrap64 (x6_2 + 1)) ≤ 16) = true := decide_eq_true c21
                      by_cases c22 : x4_1.size + ((⟨#[97, 98, 99, 100, 101, 102, 103, 104, 105, 106, 107, 108, 109, 110, 111, 112]⟩ : ByteArray).extract (x6_2 : Int).toNat ((wrap64 (x6_2 + 1)) : Int).toNat).size ≤ 9223372036854775807
                      · rw [if_pos c22] at H
                        have c22b0 := eq_true c22
                        have c22b1 : decide (x4_1.size + ((⟨#[97, 98, 99, 100, 101, 102, 103, 104, 105, 106, 107, 108, 109, 110, 111, 112]⟩ : ByteArray).extract (x6_2 : Int).toNat ((wrap64 (x6_2 + 1)) : Int).toNat).size ≤ 9223372036854775807) = true := decide_eq_true c22
                        try have c22b2 : (9223372036854775807 < x4_1.size + ((⟨#[97, 98, 99, 100, 101, 102, 103, 104, 105, 106, 107, 108, 109, 110, 111, 112]⟩ : ByteArray).extract (x6_2 : Int).toNat ((wrap64 (x6_2 + 1)) : Int).toNat).size) = False := eq_false (Nat.not_lt.2 c22)
                        have H' := Aside0.mk H
                        clear H
                        go_wp2
                        repeat (go_quiet (fail); try go_wp2)
                        go_roundg k2
                        case measure => have := HK1.out; have := HK2.out; omega
                        case rel => exact ⟨(x3_1), (x4_1 ++ ((⟨#[97, 98, 99, 100, 101, 102, 103, 104, 105, 106, 107, 108, 109, 110, 111, 112]⟩ : ByteArray).extract (x6_2 : Int).toNat ((wrap64 (x6_2 + 1)) : Int).toNat)), (wrap64 (x5_1 + 1)), (by first | rfl | (simp; done) | (simp [*]; done)), (by first | rfl | (simp; done) | (simp [*]; done)), (by first | rfl | (simp; done) | (simp [*]; done)), H', ⟨by have := HK1.out; have := HK2.out; omega⟩, by repeat (first | exact Drawn0.refl _ | apply Drawn0.step)⟩
                      · rw [if_neg c22] at H
                        exact absurd H (by simp)
                    · rw [if_neg c21] at H
                      exact absurd H (by simp)
                  · rw [if_neg c20] at H
                    exact absurd H (by simp)
                · rw [if_neg c19] at H
                  exact absurd H (by simp)
      · rw [if_neg c2] at H
        have c2b0 : decide (x5_1 < (a0.size : Int)) = false := decide_eq_false c2
        clear c2
        obtain rfl := Option.some.inj H
        go_wp2
        repeat (go_quiet (fail); try go_wp2)
        go_ret
        exact ⟨by first | rfl | (simp; done) | (simp [*]; done), by repeat (first | exact Drawn0.refl _ | apply Drawn0.step)⟩

end Go.Proofs.YtkfllbbpclgffaaDoor.Pr

-- Written by a program for this claim.
namespace Go.Proofs.YtkfllbbpclgffaaDoor.Pr
open Go.RowKit Go.Proofs.YtkfllbbpclgffaaDoorW.PrintWords Go.Proofs.YtkfllbbpclgffaaDoorW.PrintLast Go.Proofs.YtkfllbbpclgffaaDoorW.PrintMore
attribute [local go_sem] max2_int min2_int max_two min_two max_three min_three max_four min_four   -- for this text's walks alone
set_option linter.unusedVariables false
set_option linter.unusedSimpArgs false

/-! ### spec_loGood: function 18 -/
mutual
def spec_loGood.j0 : Nat → ByteArray → Bool → Option (Bool)
  | 0, _, _ => none
  | k + 1, x0, x14 => if x14 = true then (some false) else (spec_loGood.l0 k x0 0)
def spec_loGood.l0 : Nat → ByteArray → Int → Option (Bool)
  | 0, _, _ => none
  | k + 1, x0, x3 => if x3 < (x0.size : Int) then (spec_loGood.l1 k x0 x3 0 0) else ((spec_loAnew.f k x0).bind fun t116 => (some (t116.toList == x0.toList)))
def spec_loGood.l1 : Nat → ByteArray → Int → Int → Int → Option (Bool)
  | 0, _, _, _, _ => none
  | k + 1, x0, x3, x4, x5 => if x5 < (x0.size : Int) then (if 0 ≤ x5 then (if 0 ≤ x3 then (if x3 < (x0.size : Int) then (if (bt x0 x5) = (bt x0 x3) then (spec_loGood.l1 k x0 x3 (wrap64 (x4 + 1)) (wrap64 (x5 + 1))) else (spec_loGood.l1 k x0 x3 x4 (wrap64 (x5 + 1)))) else (none)) else (none)) else (none)) else (if x4 = 2 then (spec_loGood.l0 k x0 (wrap64 (x3 + 1))) else (some false))
end
def spec_loGood.f (k : Nat) (a0 : ByteArray) : Option (Bool) := if (a0.size : Int) > 16 then (spec_loGood.j0 k a0 true) else (spec_loGood.j0 k a0 (((a0.size : Int) % 2) != 0))
theorem spec_loGood.mono_l : ∀ k, (∀ y0 y1, LeO (spec_loGood.j0 k y0 y1) (spec_loGood.j0 (k + 1) y0 y1)) ∧ (∀ y0 y1, LeO (spec_loGood.l0 k y0 y1) (spec_loGood.l0 (k + 1) y0 y1)) ∧ (∀ y0 y1 y2 y3, LeO (spec_loGood.l1 k y0 y1 y2 y3) (spec_loGood.l1 (k + 1) y0 y1 y2 y3))
  | 0 => ⟨fun _ _ r h => by simp [spec_loGood.j0] at h, fun _ _ r h => by simp [spec_loGood.l0] at h, fun _ _ _ _ r h => by simp [spec_loGood.l1] at h⟩
  | k + 1 => by
    obtain ⟨ih0, ih1, ih2⟩ := spec_loGood.mono_l k
    refine ⟨?_, ?_, ?_⟩
    · intro y0 y1
      unfold spec_loGood.j0
      repeat' first
      | (with_reducible exact ih0 _ _)
      | (with_reducible exact ih1 _ _)
      | (with_reducible exact ih2 _ _ _ _)
      | (with_reducible exact spec_loAnew.mono _ _)
      | (with_reducible exact LeO.refl _)
      | (with_reducible exact LeO.none _)
      | (with_reducible refine LeO.ite ?_ ?_)
      | (with_reducible refine LeO.bind ?_ (fun _ => ?_))
      | exact ih0 _ _
      | exact ih1 _ _
      | exact ih2 _ _ _ _
      | exact spec_loAnew.mono _ _
      | exact LeO.none _
      | refine LeO.ite ?_ ?_
      | refine LeO.bind ?_ (fun _ => ?_)
    · intro y0 y1
      unfold spec_loGood.l0
      repeat' first
      | (with_reducible exact ih0 _ _)
      | (with_reducible exact ih1 _ _)
      | (with_reducible exact ih2 _ _ _ _)
      | (with_reducible exact spec_loAnew.mono _ _)
      | (with_reducible exact LeO.refl _)
      | (with_reducible exact LeO.none _)
      | (with_reducible refine LeO.ite ?_ ?_)
      | (with_reducible refine LeO.bind ?_ (fun _ => ?_))
      | exact ih0 _ _
      | exact ih1 _ _
      | exact ih2 _ _ _ _
      | exact spec_loAnew.mono _ _
      | exact LeO.none _
      | refine LeO.ite ?_ ?_
      | refine LeO.bind ?_ (fun _ => ?_)
    · intro y0 y1 y2 y3
      unfold spec_loGood.l1
      repeat' first
      | (with_reducible exact ih0 _ _)
      | (with_reducible exact ih1 _ _)
      | (with_reducible exact ih2 _ _ _ _)
      | (with_reducible exact spec_loAnew.mono _ _)
      | (with_reducible exact LeO.refl _)
      | (with_reducible exact LeO.none _)
      | (with_reducible refine LeO.ite ?_ ?_)
      | (with_reducible refine LeO.bind ?_ (fun _ => ?_))
      | exact ih0 _ _
      | exact ih1 _ _
      | exact ih2 _ _ _ _
      | exact spec_loAnew.mono _ _
      | exact LeO.none _
      | refine LeO.ite ?_ ?_
      | refine LeO.bind ?_ (fun _ => ?_)
theorem spec_loGood.mono : ∀ a0 k, LeO (spec_loGood.f k a0) (spec_loGood.f (k + 1) a0) := by
  intro a0 k
  obtain ⟨ih0, ih1, ih2⟩ := spec_loGood.mono_l k
  unfold spec_loGood.f
  repeat' first
      | (with_reducible exact ih0 _ _)
      | (with_reducible exact ih1 _ _)
      | (with_reducible exact ih2 _ _ _ _)
      | (with_reducible exact spec_loAnew.mono _ _)
      | (with_reducible exact LeO.refl _)
      | (with_reducible exact LeO.none _)
      | (with_reducible refine LeO.ite ?_ ?_)
      | (with_reducible refine LeO.bind ?_ (fun _ => ?_))
      | exact ih0 _ _
      | exact ih1 _ _
      | exact ih2 _ _ _ _
      | exact spec_loAnew.mono _ _
      | exact LeO.none _
      | refine LeO.ite ?_ ?_
      | refine LeO.bind ?_ (fun _ => ?_)
set_option maxHeartbeats 8000000 in
set_option maxRecDepth 100000 in
theorem spec_loGood.calls (k : Nat) (a0 : ByteArray) (r : Bool) (w : World) (h : spec_loGood.f k a0 = some r) :
    Calls Tryd.prog 18 #[.string a0] w fun e w' => e = .returned (.bool r) ∧ Drawn0 w w' := by
  have H : (if (a0.size : Int) > 16 then (spec_loGood.j0 k a0 true) else (spec_loGood.j0 k a0 (((a0.size : Int) % 2) != 0))) = some r := h
  clear h
  have HC2 := Aside0.mk H
  clear H
  go_enter Tryd.func18, Tryd.ntmps18
  go_upto_region 1 with (fail)
  repeat (go_quiet (fail); go_upto_region 1 with (fail))
  go_cut [14] (fun v14 wc => ∃ (kq : Nat) (x14_1 : Bool), v14 = .bool x14_1 ∧ Aside0 (spec_loGood.j0 kq a0 x14_1 = some r) ∧ Aside0 (kq ≤ k) ∧ Drawn0 w wc)
  case first =>
    have H := HC2.out
    clear HC2
    by_cases c3 : (a0.size : Int) > 16
    · rw [if_pos c3] at H
      have c3b0 : decide (16 < (a0.size : Int)) = true := decide_eq_true c3
      have c3b1 : decide (16 < a0.size) = true := decide_eq_true (by omega)
      clear c3
      (first | rw [c3b0] | (simp only [i64_w, i32_w]; rw [c3b0]) | skip)
      have H' := Aside0.mk H
      clear H
      go_wp2
      repeat (go_quiet (fail); try go_wp2)
      go_meet
      case rel => exact ⟨_, (true), (by first | rfl | (simp; done) | (simp [*]; done)), H', ⟨by first | omega | exact Nat.le_refl _⟩, by repeat (first | exact Drawn0.refl _ | apply Drawn0.step)⟩
    · rw [if_neg c3] at H
      have c3b0 : decide (16 < (a0.size : Int)) = false := decide_eq_false c3
      have c3b1 : decide (16 < a0.size) = false := decide_eq_false (by omega)
      clear c3
      (first | rw [c3b0] | (simp only [i64_w, i32_w]; rw [c3b0]) | skip)
      have H' := Aside0.mk H
      clear H
      go_wp2
      repeat (go_quiet (fail); try go_wp2)
      go_meet
      case rel => exact ⟨_, ((((a0.size : Int) % 2) != 0)), (by first | rfl | (simp; done) | (simp [*]; done)), H', ⟨by first | omega | exact Nat.le_refl _⟩, by repeat (first | exact Drawn0.refl _ | apply Drawn0.step)⟩
  case rest =>
    clear HC2
    try clear c1
    try clear p2
    try clear c3
    try clear c3b0
    try clear c3b1
    obtain ⟨kq, x14_1, rfl, HA, HJ1, ⟨mc1, rfl⟩⟩ := hcut
    cases kq with
    | zero => exact absurd HA.out (by simp [spec_loGood.j0])
    | succ kj1 =>
      have H := HA.out
      clear HA
      simp only [spec_loGood.j0] at H
      by_cases c4 : x14_1 = true
      · subst c4
        have H1 : (some false) = some r := by rw [if_pos rfl] at H; exact H
        clear H
        have H := H1
        clear H1
        obtain rfl := Option.some.inj H
        go_wp2
        repeat (go_quiet (fail); try go_wp2)
        go_ret
        exact ⟨by first | rfl | (simp; done) | (simp [*]; done), by repeat (first | exact Drawn0.refl _ | apply Drawn0.step)⟩
      · replace c4 := Bool.eq_false_iff.mpr c4
        subst c4
        have H1 : (spec_loGood.l0 kj1 a0 0) = some r := by rw [if_neg (show ¬ (false = true) by decide)] at H; exact H
        clear H
        have H := H1
        clear H1
        have H' := Aside0.mk H
        clear H
        go_wp2
        repeat (go_quiet (fail); try go_wp2)
        go_loopg [3] kj1 (fun kq v3 w' => ∃ (x3_2 : Int), v3 = .int .i64 x3_2 ∧ Aside0 (spec_loGood.l0 kq a0 x3_2 = some r) ∧ Aside0 (kq ≤ kj1) ∧ Drawn0 w w')
        case atStart => exact ⟨(0), (by first | rfl | (simp; done) | (simp [*]; done)), H', ⟨Nat.le_refl _⟩, by repeat (first | exact Drawn0.refl _ | apply Drawn0.step)⟩
        case round =>
          clear H'
          try clear c1
          try clear p2
          try clear c3
          try clear c3b0
          try clear c3b1
          try clear c4
          try clear p2
          obtain ⟨x3_2, rfl, HA, HK2, ⟨m2, rfl⟩⟩ := hrel
          cases gk with
          | zero => exact absurd HA.out (by simp [spec_loGood.l0])
          | succ k2 =>
            have H := HA.out
            clear HA
            simp only [spec_loGood.l0] at H
            by_cases c5 : x3_2 < (a0.size : Int)
            · rw [if_pos c5] at H
              have c5b0 : decide (x3_2 < (a0.size : Int)) = true := decide_eq_true c5
              clear c5
              have H' := Aside0.mk H
              clear H
              go_wp2
              repeat (go_quiet (fail); try go_wp2)
              go_loopg [4, 5] k2 (fun kq v4 v5 w' => ∃ (x4_3 : Int) (x5_3 : Int), v4 = .int .i64 x4_3 ∧ v5 = .int .i64 x5_3 ∧ Aside0 (spec_loGood.l1 kq a0 x3_2 x4_3 x5_3 = some r) ∧ Aside0 (kq ≤ k2) ∧ Drawn0 w w')
              case atStart => exact ⟨(0), (0), (by first | rfl | (simp; done) | (simp [*]; done)), (by first | rfl | (simp; done) | (simp [*]; done)), H', ⟨Nat.le_refl _⟩, by repeat (first | exact Drawn0.refl _ | apply Drawn0.step)⟩
              case round =>
                clear H'
                try clear c1
                try clear p2
                try clear c3
                try clear c3b0
                try clear c3b1
                try clear c4
                try clear c5
                try clear c5b0
                try clear p2
                obtain ⟨x4_3, x5_3, rfl, rfl, HA, HK3, ⟨m3, rfl⟩⟩ := hrel
                cases gk with
                | zero => exact absurd HA.out (by simp [spec_loGood.l1])
                | succ k3 =>
                  have H := HA.out
                  clear HA
                  simp only [spec_loGood.l1] at H
                  by_cases c6 : x5_3 < (a0.size : Int)
                  · rw [if_pos c6] at H
                    have c6b0 : decide (x5_3 < (a0.size : Int)) = true := decide_eq_true c6
                    clear c6
                    by_cases c7 : 0 ≤ x5_3
                    · rw [if_pos c7] at H
                      have c7b0 : decide (0 ≤ x5_3) = true := decide_eq_true c7
                      clear c7
                      by_cases c9 : 0 ≤ x3_2
                      · rw [if_pos c9] at H
                        have c9b0 : decide (0 ≤ x3_2) = true := decide_eq_true c9
                        clear c9
                        by_cases c10 : x3_2 < (a0.size : Int)
                        · rw [if_pos c10] at H
                          have c10b0 : decide (x3_2 < (a0.size : Int)) = true := decide_eq_true c10
                          clear c10
                          by_cases c12 : (bt a0 x5_3) = (bt a0 x3_2)
                          · rw [if_pos c12] at H
                            have c12b0 : ((bt a0 x5_3) == (bt a0 x3_2)) = true := beq_iff_eq.mpr c12
                            have c12b1 : ((bt a0 x5_3) != (bt a0 x3_2)) = false := bne_eq_false_iff_eq.mpr c12
                            clear c12
                            have H' := Aside0.mk H
                            clear H
                            have p8 : 0 ≤ (x5_3 : Int) := of_decide_eq_true (by first | (with_reducible assumption) | assumption)
                            have q8 : x5_3 < (a0.size : Int) := of_decide_eq_true (by first | (with_reducible assumption) | assumption)
                            have hx8 := bt_at a0 x5_3
                            replace p8 := eq_true p8
                            replace q8 := eq_true q8
                            have p11 : 0 ≤ (x3_2 : Int) := of_decide_eq_true (by first | (with_reducible assumption) | assumption)
                            have q11 : x3_2 < (a0.size : Int) := of_decide_eq_true (by first | (with_reducible assumption) | assumption)
                            have hx11 := bt_at a0 x3_2
                            replace p11 := eq_true p11
                            replace q11 := eq_true q11
                            go_wp2
                            repeat (go_quiet (fail); try go_wp2)
                            go_roundg k3
                            case measure => have := HJ1.out; have := HK2.out; have := HK3.out; omega
                            case rel => exact ⟨(wrap64 (x4_3 + 1)), (wrap64 (x5_3 + 1)), (by first | rfl | (simp; done) | (simp [*]; done)), (by first | rfl | (simp; done) | (simp [*]; done)), H', ⟨by have := HJ1.out; have := HK2.out; have := HK3.out; omega⟩, by repeat (first | exact Drawn0.refl _ | apply Drawn0.step)⟩
                          · rw [if_neg c12] at H
                            have c12b0 : ((bt a0 x5_3) == (bt a0 x3_2)) = false := beq_eq_false_iff_ne.mpr c12
                            have c12b1 : ((bt a0 x5_3) != (bt a0 x3_2)) = true := bne_iff_ne.mpr c12
                            have H' := Aside0.mk H
                            clear H
                            have p8 : 0 ≤ (x5_3 : Int) := of_decide_eq_true (by first | (with_reducible assumption) | assumption)
                            have q8 : x5_3 < (a0.size : Int) := of_decide_eq_true (by first | (with_reducible assumption) | assumption)
                            have hx8 := bt_at a0 x5_3
                            replace p8 := eq_true p8
                            replace q8 := eq_true q8
                            have p11 : 0 ≤ (x3_2 : Int) := of_decide_eq_true (by first | (with_reducible assumption) | assumption)
                            have q11 : x3_2 < (a0.size : Int) := of_decide_eq_true (by first | (with_reducible assumption) | assumption)
                            have hx11 := bt_at a0 x3_2
                            replace p11 := eq_true p11
                            replace q11 := eq_true q11
                            go_wp2
                            repeat (go_quiet (fail); try go_wp2)
                            go_roundg k3
                            case measure => have := HJ1.out; have := HK2.out; have := HK3.out; omega
                            case rel => exact ⟨(x4_3), (wrap64 (x5_3 + 1)), (by first | rfl | (simp; done) | (simp [*]; done)), (by first | rfl | (simp; done) | (simp [*]; done)), H', ⟨by have := HJ1.out; have := HK2.out; have := HK3.out; omega⟩, by repeat (first | exact Drawn0.refl _ | apply Drawn0.step)⟩
                        · rw [if_neg c10] at H
                          exact absurd H (by simp)
                      · rw [if_neg c9] at H
                        exact absurd H (by simp)
                    · rw [if_neg c7] at H
                      exact absurd H (by simp)
                  · rw [if_neg c6] at H
                    have c6b0 : decide (x5_3 < (a0.size : Int)) = false := decide_eq_false c6
                    clear c6
                    by_cases c13 : x4_3 = 2
                    · rw [if_pos c13] at H
                      have c13b0 : (x4_3 == 2) = true := beq_iff_eq.mpr c13
                      have c13b1 : (x4_3 != 2) = false := bne_eq_false_iff_eq.mpr c13
                      clear c13
                      have H' := Aside0.mk H
                      clear H
                      go_wp2
                      repeat (go_quiet (fail); try go_wp2)
                      go_roundg k3
                      case measure => have := HJ1.out; have := HK2.out; have := HK3.out; omega
                      case rel => exact ⟨(wrap64 (x3_2 + 1)), (by first | rfl | (simp; done) | (simp [*]; done)), H', ⟨by have := HJ1.out; have := HK2.out; have := HK3.out; omega⟩, by repeat (first | exact Drawn0.refl _ | apply Drawn0.step)⟩
                    · rw [if_neg c13] at H
                      have c13b0 : (x4_3 == 2) = false := beq_eq_false_iff_ne.mpr c13
                      have c13b1 : (x4_3 != 2) = true := bne_iff_ne.mpr c13
                      obtain rfl := Option.some.inj H
                      go_wp2
                      repeat (go_quiet (fail); try go_wp2)
                      go_ret
                      exact ⟨by first | rfl | (simp; done) | (simp [*]; done), by repeat (first | exact Drawn0.refl _ | apply Drawn0.step)⟩
            · rw [if_neg c5] at H
              have c5b0 : decide (x3_2 < (a0.size : Int)) = false := decide_eq_false c5
              clear c5
              replace H := Option.bind_eq_some_iff.mp H
              obtain ⟨t116, A140, H⟩ := H
              replace H : (some (t116.toList == a0.toList)) = some r := H
              have A14 := Aside0.mk A140
              clear A140
              obtain rfl := Option.some.inj H
              go_wp2_with (first | (go_at_call 32; (with_reducible refine (spec_loAnew.calls k2 a0 t116 _ A14.out).mono ?_); rintro e w' ⟨rfl, ⟨nd, rfl⟩⟩; (try first | exact ⟨rfl, _, World.drewN_drewN _ _ _⟩ | exact ⟨rfl, _, Eq.trans (World.drewN_drewN _ _ _) (congrArg (World.drewN _) (Nat.add_assoc _ _ _))⟩)))
              repeat (go_quiet (first | (go_at_call 32; (with_reducible refine (spec_loAnew.calls k2 a0 t116 _ A14.out).mono ?_); rintro e w' ⟨rfl, ⟨nd, rfl⟩⟩; (try first | exact ⟨rfl, _, World.drewN_drewN _ _ _⟩ | exact ⟨rfl, _, Eq.trans (World.drewN_drewN _ _ _) (congrArg (World.drewN _) (Nat.add_assoc _ _ _))⟩))); try go_wp2_with (first | (go_at_call 32; (with_reducible refine (spec_loAnew.calls k2 a0 t116 _ A14.out).mono ?_); rintro e w' ⟨rfl, ⟨nd, rfl⟩⟩; (try first | exact ⟨rfl, _, World.drewN_drewN _ _ _⟩ | exact ⟨rfl, _, Eq.trans (World.drewN_drewN _ _ _) (congrArg (World.drewN _) (Nat.add_assoc _ _ _))⟩))))
              go_ret
              exact ⟨by first | rfl | (simp; done) | (simp [*]; done), by repeat (first | exact Drawn0.refl _ | apply Drawn0.step)⟩

end Go.Proofs.YtkfllbbpclgffaaDoor.Pr

-- Written by a program for this claim.
namespace Go.Proofs.YtkfllbbpclgffaaDoor.Pr
open Go.RowKit Go.Proofs.YtkfllbbpclgffaaDoorW.PrintWords Go.Proofs.YtkfllbbpclgffaaDoorW.PrintLast Go.Proofs.YtkfllbbpclgffaaDoorW.PrintMore
attribute [local go_sem] max2_int min2_int max_two min_two max_three min_three max_four min_four   -- for this text's walks alone
set_option linter.unusedVariables false
set_option linter.unusedSimpArgs false

/-! ### spec_loWays: function 28 -/
mutual
def spec_loWays.j0 : Nat → Int → Int → Bool → Option (Int)
  | 0, _, _, _ => none
  | k + 1, x0, x1, x11 => if x11 = true then (some 1) else (if x0 > 0 then ((spec_loWays.f k (wrap64 (x0 - 1)) x1).bind fun t119 => (if x1 > 0 then ((spec_loWays.f k (wrap64 (x0 + 1)) (wrap64 (x1 - 1))).bind fun t120 => (some (wrap64 ((wrap64 (0 + (wrap64 (x0 * t119)))) + t120)))) else (some (wrap64 (0 + (wrap64 (x0 * t119))))))) else (if x1 > 0 then ((spec_loWays.f k (wrap64 (x0 + 1)) (wrap64 (x1 - 1))).bind fun t121 => (some (wrap64 (0 + t121)))) else (some 0)))
def spec_loWays.f : Nat → Int → Int → Option (Int)
  | 0, _, _ => none
  | k + 1, a0, a1 => if a0 = 0 then (spec_loWays.j0 k a0 a1 (a1 == 0)) else (spec_loWays.j0 k a0 a1 false)
end
theorem spec_loWays.mono_l : ∀ k, (∀ y0 y1, LeO (spec_loWays.f k y0 y1) (spec_loWays.f (k + 1) y0 y1)) ∧ (∀ y0 y1 y2, LeO (spec_loWays.j0 k y0 y1 y2) (spec_loWays.j0 (k + 1) y0 y1 y2))
  | 0 => ⟨fun _ _ r h => by simp [spec_loWays.f] at h, fun _ _ _ r h => by simp [spec_loWays.j0] at h⟩
  | k + 1 => by
    obtain ⟨ih0, ih1⟩ := spec_loWays.mono_l k
    refine ⟨?_, ?_⟩
    · intro y0 y1
      unfold spec_loWays.f
      repeat' first
      | (with_reducible exact ih0 _ _)
      | (with_reducible exact ih1 _ _ _)
      | (with_reducible exact LeO.refl _)
      | (with_reducible exact LeO.none _)
      | (with_reducible refine LeO.ite ?_ ?_)
      | (with_reducible refine LeO.bind ?_ (fun _ => ?_))
      | exact ih0 _ _
      | exact ih1 _ _ _
      | exact LeO.none _
      | refine LeO.ite ?_ ?_
      | refine LeO.bind ?_ (fun _ => ?_)
    · intro y0 y1 y2
      unfold spec_loWays.j0
      repeat' first
      | (with_reducible exact ih0 _ _)
      | (with_reducible exact ih1 _ _ _)
      | (with_reducible exact LeO.refl _)
      | (with_reducible exact LeO.none _)
      | (with_reducible refine LeO.ite ?_ ?_)
      | (with_reducible refine LeO.bind ?_ (fun _ => ?_))
      | exact ih0 _ _
      | exact ih1 _ _ _
      | exact LeO.none _
      | refine LeO.ite ?_ ?_
      | refine LeO.bind ?_ (fun _ => ?_)
theorem spec_loWays.mono : ∀ a0 a1 k, LeO (spec_loWays.f k a0 a1) (spec_loWays.f (k + 1) a0 a1) := by
  intro a0 a1 k
  obtain ⟨ih0, ih1⟩ := spec_loWays.mono_l k
  exact ih0 a0 a1
set_option maxHeartbeats 8000000 in
set_option maxRecDepth 100000 in
theorem spec_loWays.calls (k : Nat) : ∀ (a0 : Int) (a1 : Int) (r : Int) (w : World) (h : spec_loWays.f k a0 a1 = some r),
    Calls Tryd.prog 28 #[.int .i64 a0, .int .i64 a1] w fun e w' => e = .returned (.int .i64 r) ∧ Drawn0 w w' := by
  induction k using Nat.strongRecOn with
  | _ k ih =>
  intro a0 a1 r w h
  cases k with
  | zero => exact absurd h (by simp [spec_loWays.f])
  | succ k =>
  simp only [spec_loWays.f] at h
  have H : (if a0 = 0 then (spec_loWays.j0 k a0 a1 (a1 == 0)) else (spec_loWays.j0 k a0 a1 false)) = some r := h
  clear h
  have HC3 := Aside0.mk H
  clear H
  go_enter Tryd.func28, Tryd.ntmps28
  go_upto_region 1 with (fail)
  go_cut [11] (fun v11 wc => ∃ (kq : Nat) (x11_2 : Bool), v11 = .bool x11_2 ∧ Aside0 (spec_loWays.j0 kq a0 a1 x11_2 = some r) ∧ Aside0 (kq ≤ k) ∧ Drawn0 w wc)
  case first =>
    have H := HC3.out
    clear HC3
    by_cases c4 : a0 = 0
    · rw [if_pos c4] at H
      have c4b0 : (a0 == 0) = true := beq_iff_eq.mpr c4
      have c4b1 : (a0 != 0) = false := bne_eq_false_iff_eq.mpr c4
      clear c4
      (first | rw [c4b0] | (simp only [i64_w, i32_w]; rw [c4b0]) | skip)
      have H' := Aside0.mk H
      clear H
      go_wp2
      go_meet
      case rel => exact ⟨_, ((a1 == 0)), (by first | rfl | (simp; done) | (simp [*]; done)), H', ⟨by first | omega | exact Nat.le_refl _⟩, by repeat (first | exact Drawn0.refl _ | apply Drawn0.step)⟩
    · rw [if_neg c4] at H
      have c4b0 : (a0 == 0) = false := beq_eq_false_iff_ne.mpr c4
      have c4b1 : (a0 != 0) = true := bne_iff_ne.mpr c4
      (first | rw [c4b0] | (simp only [i64_w, i32_w]; rw [c4b0]) | skip)
      have H' := Aside0.mk H
      clear H
      go_wp2
      go_meet
      case rel => exact ⟨_, (false), (by first | rfl | (simp; done) | (simp [*]; done)), H', ⟨by first | omega | exact Nat.le_refl _⟩, by repeat (first | exact Drawn0.refl _ | apply Drawn0.step)⟩
  case rest =>
    clear HC3
    try clear c2
    try clear p2
    try clear c4
    try clear c4b0
    try clear c4b1
    obtain ⟨kq, x11_2, rfl, HA, HJ2, ⟨mc2, rfl⟩⟩ := hcut
    cases kq with
    | zero => exact absurd HA.out (by simp [spec_loWays.j0])
    | succ kj2 =>
      have H := HA.out
      clear HA
      simp only [spec_loWays.j0] at H
      by_cases c5 : x11_2 = true
      · subst c5
        have H1 : (some 1) = some r := by rw [if_pos rfl] at H; exact H
        clear H
        have H := H1
        clear H1
        obtain rfl := Option.some.inj H
        go_wp2
        go_ret
        exact ⟨by first | rfl | (simp; done) | (simp [*]; done), by repeat (first | exact Drawn0.refl _ | apply Drawn0.step)⟩
      · replace c5 := Bool.eq_false_iff.mpr c5
        subst c5
        have H1 : (if a0 > 0 then ((spec_loWays.f kj2 (wrap64 (a0 - 1)) a1).bind fun t119 => (if a1 > 0 then ((spec_loWays.f kj2 (wrap64 (a0 + 1)) (wrap64 (a1 - 1))).bind fun t120 => (some (wrap64 ((wrap64 (0 + (wrap64 (a0 * t119)))) + t120)))) else (some (wrap64 (0 + (wrap64 (a0 * t119))))))) else (if a1 > 0 then ((spec_loWays.f kj2 (wrap64 (a0 + 1)) (wrap64 (a1 - 1))).bind fun t121 => (some (wrap64 (0 + t121)))) else (some 0))) = some r := by rw [if_neg (show ¬ (false = true) by decide)] at H; exact H
        clear H
        have H := H1
        clear H1
        by_cases c6 : a0 > 0
        · rw [if_pos c6] at H
          have c6b0 : decide (0 < a0) = true := decide_eq_true c6
          clear c6
          replace H := Option.bind_eq_some_iff.mp H
          obtain ⟨t119, A70, H⟩ := H
          replace H : (if a1 > 0 then ((spec_loWays.f kj2 (wrap64 (a0 + 1)) (wrap64 (a1 - 1))).bind fun t120 => (some (wrap64 ((wrap64 (0 + (wrap64 (a0 * t119)))) + t120)))) else (some (wrap64 (0 + (wrap64 (a0 * t119)))))) = some r := H
          have A7 := Aside0.mk A70
          clear A70
          by_cases c8 : a1 > 0
          · rw [if_pos c8] at H
            have c8b0 : decide (0 < a1) = true := decide_eq_true c8
            clear c8
            replace H := Option.bind_eq_some_iff.mp H
            obtain ⟨t120, A90, H⟩ := H
            replace H : (some (wrap64 ((wrap64 (0 + (wrap64 (a0 * t119)))) + t120))) = some r := H
            have A9 := Aside0.mk A90
            clear A90
            obtain rfl := Option.some.inj H
            go_wp2_with (first | ((with_reducible refine gate_callee (f := 28) rfl ?_); refine goesL_ (some 19) rfl rfl Tryd.func28 (by kernel_rfl) rfl #[.int .i64 (wrap64 (a0 - 1)), .int .i64 a1] rfl (by (try simp only [List.map_toArray, List.map_cons, List.map_nil]); first | done | rfl | (simp only [List.length_drop, List.length_take]; rfl)) ?_; (with_reducible refine (ih kj2 (by have := HJ2.out; omega) (wrap64 (a0 - 1)) a1 t119 _ A7.out).mono ?_); rintro e w' ⟨rfl, ⟨nd, rfl⟩⟩; refine ⟨_, rfl, ?_⟩) | ((with_reducible refine gate_callee (f := 28) rfl ?_); refine goesL_ (some 29) rfl rfl Tryd.func28 (by kernel_rfl) rfl #[.int .i64 (wrap64 (a0 + 1)), .int .i64 (wrap64 (a1 - 1))] rfl (by (try simp only [List.map_toArray, List.map_cons, List.map_nil]); first | done | rfl | (simp only [List.length_drop, List.length_take]; rfl)) ?_; (with_reducible refine (ih kj2 (by have := HJ2.out; omega) (wrap64 (a0 + 1)) (wrap64 (a1 - 1)) t120 _ A9.out).mono ?_); rintro e w' ⟨rfl, ⟨nd, rfl⟩⟩; refine ⟨_, rfl, ?_⟩))
            go_ret
            exact ⟨by first | rfl | (simp; done) | (simp [*]; done), by repeat (first | exact Drawn0.refl _ | apply Drawn0.step)⟩
          · rw [if_neg c8] at H
            have c8b0 : decide (0 < a1) = false := decide_eq_false c8
            clear c8
            obtain rfl := Option.some.inj H
            go_wp2_with (first | ((with_reducible refine gate_callee (f := 28) rfl ?_); refine goesL_ (some 19) rfl rfl Tryd.func28 (by kernel_rfl) rfl #[.int .i64 (wrap64 (a0 - 1)), .int .i64 a1] rfl (by (try simp only [List.map_toArray, List.map_cons, List.map_nil]); first | done | rfl | (simp only [List.length_drop, List.length_take]; rfl)) ?_; (with_reducible refine (ih kj2 (by have := HJ2.out; omega) (wrap64 (a0 - 1)) a1 t119 _ A7.out).mono ?_); rintro e w' ⟨rfl, ⟨nd, rfl⟩⟩; refine ⟨_, rfl, ?_⟩))
            go_ret
            exact ⟨by first | rfl | (simp; done) | (simp [*]; done), by repeat (first | exact Drawn0.refl _ | apply Drawn0.step)⟩
        · rw [if_neg c6] at H
          have c6b0 : decide (0 < a0) = false := decide_eq_false c6
          clear c6
          by_cases c10 : a1 > 0
          · rw [if_pos c10] at H
            have c10b0 : decide (0 < a1) = true := decide_eq_true c10
            clear c10
            replace H := Option.bind_eq_some_iff.mp H
            obtain ⟨t121, A110, H⟩ := H
            replace H : (some (wrap64 (0 + t121))) = some r := H
            have A11 := Aside0.mk A110
            clear A110
            obtain rfl := Option.some.inj H
            go_wp2_with (first | ((with_reducible refine gate_callee (f := 28) rfl ?_); refine goesL_ (some 29) rfl rfl Tryd.func28 (by kernel_rfl) rfl #[.int .i64 (wrap64 (a0 + 1)), .int .i64 (wrap64 (a1 - 1))] rfl (by (try simp only [List.map_toArray, List.map_cons, List.map_nil]); first | done | rfl | (simp only [List.length_drop, List.length_take]; rfl)) ?_; (with_reducible refine (ih kj2 (by have := HJ2.out; omega) (wrap64 (a0 + 1)) (wrap64 (a1 - 1)) t121 _ A11.out).mono ?_); rintro e w' ⟨rfl, ⟨nd, rfl⟩⟩; refine ⟨_, rfl, ?_⟩))
            go_ret
            exact ⟨by first | rfl | (simp; done) | (simp [*]; done), by repeat (first | exact Drawn0.refl _ | apply Drawn0.step)⟩
          · rw [if_neg c10] at H
            have c10b0 : decide (0 < a1) = false := decide_eq_false c10
            clear c10
            obtain rfl := Option.some.inj H
            go_wp2
            go_ret
            exact ⟨by first | rfl | (simp; done) | (simp [*]; done), by repeat (first | exact Drawn0.refl _ | apply Drawn0.step)⟩

end Go.Proofs.YtkfllbbpclgffaaDoor.Pr

-- Written by a program for this claim.
namespace Go.Proofs.YtkfllbbpclgffaaDoor.Pr
open Go.RowKit Go.Proofs.YtkfllbbpclgffaaDoorW.PrintWords Go.Proofs.YtkfllbbpclgffaaDoorW.PrintLast Go.Proofs.YtkfllbbpclgffaaDoorW.PrintMore
attribute [local go_sem] max2_int min2_int max_two min_two max_three min_three max_four min_four   -- for this text's walks alone
set_option linter.unusedVariables false
set_option linter.unusedSimpArgs false

/-! ### spec_RankOfLoop: function 14 -/
mutual
def spec_RankOfLoop.l0 : Nat → ByteArray → Int → ByteArray → Int → Int → Option (Int × Bool)
  | 0, _, _, _, _, _ => none
  | k + 1, x0, x4, x5, x6, x7 => if x7 < (x0.size : Int) then (spec_RankOfLoop.l1 k x0 x4 x5 x6 x7 false 0) else (some (x4, true))
def spec_RankOfLoop.l1 : Nat → ByteArray → Int → ByteArray → Int → Int → Bool → Int → Option (Int × Bool)
  | 0, _, _, _, _, _, _, _ => none
  | k + 1, x0, x4, x5, x6, x7, x8, x9 => if x9 < (x5.size : Int) then (spec_RankOfLoop.j2 k x0 x4 x5 x6 x7 x8 x9 (!x8)) else (spec_RankOfLoop.j2 k x0 x4 x5 x6 x7 x8 x9 false)
def spec_RankOfLoop.j2 : Nat → ByteArray → Int → ByteArray → Int → Int → Bool → Int → Bool → Option (Int × Bool)
  | 0, _, _, _, _, _, _, _, _ => none
  | k + 1, x0, x4, x5, x6, x7, x8, x9, x26 => if x26 = true then (if 0 ≤ x9 then (if x9 < (x5.size : Int) then (if 0 ≤ x7 then (if x7 < (x0.size : Int) then (if (bt x5 x9) = (bt x0 x7) then (if x9 ≤ (x5.size : Int) then (if 0 ≤ (wrap64 (x9 + 1)) then (if (wrap64 (x9 + 1)) ≤ (x5.size : Int) then (if (x5.extract 0 (x9 : Int).toNat).size + (x5.extract ((wrap64 (x9 + 1)) : Int).toNat x5.size).size ≤ 9223372036854775807 then (spec_RankOfLoop.l1 k x0 x4 ((x5.extract 0 (x9 : Int).toNat) ++ (x5.extract ((wrap64 (x9 + 1)) : Int).toNat x5.size)) x6 x7 true (wrap64 (x9 + 1))) else (none)) else (none)) else (none)) else (none)) else ((spec_loWays.f k (wrap64 ((x5.size : Int) - 1)) (wrap64 ((wrap64 ((x0.size : Int) / 2)) - x6))).bind fun t123 => (spec_RankOfLoop.l1 k x0 (wrap64 (x4 + t123)) x5 x6 x7 x8 (wrap64 (x9 + 1))))) else (none)) else (none)) else (none)) else (none)) else (if x8 = true then (spec_RankOfLoop.l0 k x0 x4 x5 x6 (wrap64 (x7 + 1))) else (if 0 ≤ x7 then (if x7 ≤ (wrap64 (x7 + 1)) then (if (wrap64 (x7 + 1)) ≤ (x0.size : Int) then (if x5.size + (x0.extract (x7 : Int).toNat ((wrap64 (x7 + 1)) : Int).toNat).size ≤ 9223372036854775807 then (spec_RankOfLoop.l0 k x0 x4 (x5 ++ (x0.extract (x7 : Int).toNat ((wrap64 (x7 + 1)) : Int).toNat)) (wrap64 (x6 + 1)) (wrap64 (x7 + 1))) else (none)) else (none)) else (none)) else (none)))
end
def spec_RankOfLoop.f (k : Nat) (a0 : ByteArray) : Option (Int × Bool) := (spec_loGood.f k a0).bind fun t122 => (if t122 = true then (spec_RankOfLoop.l0 k a0 0 (⟨#[]⟩ : ByteArray) 0 0) else (some (0, false)))
theorem spec_RankOfLoop.mono_l : ∀ k, (∀ y0 y1 y2 y3 y4, LeO (spec_RankOfLoop.l0 k y0 y1 y2 y3 y4) (spec_RankOfLoop.l0 (k + 1) y0 y1 y2 y3 y4)) ∧ (∀ y0 y1 y2 y3 y4 y5 y6, LeO (spec_RankOfLoop.l1 k y0 y1 y2 y3 y4 y5 y6) (spec_RankOfLoop.l1 (k + 1) y0 y1 y2 y3 y4 y5 y6)) ∧ (∀ y0 y1 y2 y3 y4 y5 y6 y7, LeO (spec_RankOfLoop.j2 k y0 y1 y2 y3 y4 y5 y6 y7) (spec_RankOfLoop.j2 (k + 1) y0 y1 y2 y3 y4 y5 y6 y7))
  | 0 => ⟨fun _ _ _ _ _ r h => by simp [spec_RankOfLoop.l0] at h, fun _ _ _ _ _ _ _ r h => by simp [spec_RankOfLoop.l1] at h, fun _ _ _ _ _ _ _ _ r h => by simp [spec_RankOfLoop.j2] at h⟩
  | k + 1 => by
    obtain ⟨ih0, ih1, ih2⟩ := spec_RankOfLoop.mono_l k
    refine ⟨?_, ?_, ?_⟩
    · intro y0 y1 y2 y3 y4
      unfold spec_RankOfLoop.l0
      repeat' first
      | (with_reducible exact ih0 _ _ _ _ _)
      | (with_reducible exact ih1 _ _ _ _ _ _ _)
      | (with_reducible exact ih2 _ _ _ _ _ _ _ _)
      | (with_reducible exact spec_loGood.mono _ _)
      | (with_reducible exact spec_loWays.mono _ _ _)
      | (with_reducible exact LeO.refl _)
      | (with_reducible exact LeO.none _)
      | (with_reducible refine LeO.ite ?_ ?_)
      | (with_reducible refine LeO.bind ?_ (fun _ => ?_))
      | exact ih0 _ _ _ _ _
      | exact ih1 _ _ _ _ _ _ _
      | exact ih2 _ _ _ _ _ _ _ _
      | exact spec_loGood.mono _ _
      | exact spec_loWays.mono _ _ _
      | exact LeO.none _
      | refine LeO.ite ?_ ?_
      | refine LeO.bind ?_ (fun _ => ?_)
    · intro y0 y1 y2 y3 y4 y5 y6
      unfold spec_RankOfLoop.l1
      repeat' first
      | (with_reducible exact ih0 _ _ _ _ _)
      | (with_reducible exact ih1 _ _ _ _ _ _ _)
      | (with_reducible exact ih2 _ _ _ _ _ _ _ _)
      | (with_reducible exact spec_loGood.mono _ _)
      | (with_reducible exact spec_loWays.mono _ _ _)
      | (with_reducible exact LeO.refl _)
      | (with_reducible exact LeO.none _)
      | (with_reducible refine LeO.ite ?_ ?_)
      | (with_reducible refine LeO.bind ?_ (fun _ => ?_))
      | exact ih0 _ _ _ _ _
      | exact ih1 _ _ _ _ _ _ _
      | exact ih2 _ _ _ _ _ _ _ _
      | exact spec_loGood.mono _ _
      | exact spec_loWays.mono _ _ _
      | exact LeO.none _
      | refine LeO.ite ?_ ?_
      | refine LeO.bind ?_ (fun _ => ?_)
    · intro y0 y1 y2 y3 y4 y5 y6 y7
      unfold spec_RankOfLoop.j2
      repeat' first
      | (with_reducible exact ih0 _ _ _ _ _)
      | (with_reducible exact ih1 _ _ _ _ _ _ _)
      | (with_reducible exact ih2 _ _ _ _ _ _ _ _)
      | (with_reducible exact spec_loGood.mono _ _)
      | (with_reducible exact spec_loWays.mono _ _ _)
      | (with_reducible exact LeO.refl _)
      | (with_reducible exact LeO.none _)
      | (with_reducible refine LeO.ite ?_ ?_)
      | (with_reducible refine LeO.bind ?_ (fun _ => ?_))
      | exact ih0 _ _ _ _ _
      | exact ih1 _ _ _ _ _ _ _
      | exact ih2 _ _ _ _ _ _ _ _
      | exact spec_loGood.mono _ _
      | exact spec_loWays.mono _ _ _
      | exact LeO.none _
      | refine LeO.ite ?_ ?_
      | refine LeO.bind ?_ (fun _ => ?_)
theorem spec_RankOfLoop.mono : ∀ a0 k, LeO (spec_RankOfLoop.f k a0) (spec_RankOfLoop.f (k + 1) a0) := by
  intro a0 k
  obtain ⟨ih0, ih1, ih2⟩ := spec_RankOfLoop.mono_l k
  unfold spec_RankOfLoop.f
  repeat' first
      | (with_reducible exact ih0 _ _ _ _ _)
      | (with_reducible exact ih1 _ _ _ _ _ _ _)
      | (with_reducible exact ih2 _ _ _ _ _ _ _ _)
      | (with_reducible exact spec_loGood.mono _ _)
      | (with_reducible exact spec_loWays.mono _ _ _)
      | (with_reducible exact LeO.refl _)
      | (with_reducible exact LeO.none _)
      | (with_reducible refine LeO.ite ?_ ?_)
      | (with_reducible refine LeO.bind ?_ (fun _ => ?_))
      | exact ih0 _ _ _ _ _
      | exact ih1 _ _ _ _ _ _ _
      | exact ih2 _ _ _ _ _ _ _ _
      | exact spec_loGood.mono _ _
      | exact spec_loWays.mono _ _ _
      | exact LeO.none _
      | refine LeO.ite ?_ ?_
      | refine LeO.bind ?_ (fun _ => ?_)
set_option maxHeartbeats 8000000 in
set_option maxRecDepth 100000 in
theorem spec_RankOfLoop.calls (k : Nat) (a0 : ByteArray) (r1 : Int) (r2 : Bool) (w : World) (h : spec_RankOfLoop.f k a0 = some (r1, r2)) :
    Calls Tryd.prog 14 #[.string a0] w fun e w' => e = .returned (.tuple #[.int .i64 r1, .bool r2]) ∧ Drawn0 w w' := by
  have H : ((spec_loGood.f k a0).bind fun t122 => (if t122 = true then (spec_RankOfLoop.l0 k a0 0 (⟨#[]⟩ : ByteArray) 0 0) else (some (0, false)))) = some (r1, r2) := h
  clear h
  replace H := Option.bind_eq_some_iff.mp H
  obtain ⟨t122, A20, H⟩ := H
  replace H : (if t122 = true then (spec_RankOfLoop.l0 k a0 0 (⟨#[]⟩ : ByteArray) 0 0) else (some (0, false))) = some (r1, r2) := H
  have A2 := Aside0.mk A20
  clear A20
  by_cases c3 : t122 = true
  · subst c3
    have H1 : (spec_RankOfLoop.l0 k a0 0 (⟨#[]⟩ : ByteArray) 0 0) = some (r1, r2) := by rw [if_pos rfl] at H; exact H
    clear H
    have H := H1
    clear H1
    have H' := Aside0.mk H
    clear H
    go_enter Tryd.func14, Tryd.ntmps14
    go_wp2_with (first | (go_at_call 18; (with_reducible refine (spec_loGood.calls k a0 true _ A2.out).mono ?_); rintro e w' ⟨rfl, ⟨nd, rfl⟩⟩; (try first | exact ⟨rfl, _, World.drewN_drewN _ _ _⟩ | exact ⟨rfl, _, Eq.trans (World.drewN_drewN _ _ _) (congrArg (World.drewN _) (Nat.add_assoc _ _ _))⟩)))
    repeat (go_quiet (first | (go_at_call 18; (with_reducible refine (spec_loGood.calls k a0 true _ A2.out).mono ?_); rintro e w' ⟨rfl, ⟨nd, rfl⟩⟩; (try first | exact ⟨rfl, _, World.drewN_drewN _ _ _⟩ | exact ⟨rfl, _, Eq.trans (World.drewN_drewN _ _ _) (congrArg (World.drewN _) (Nat.add_assoc _ _ _))⟩))); try go_wp2_with (first | (go_at_call 18; (with_reducible refine (spec_loGood.calls k a0 true _ A2.out).mono ?_); rintro e w' ⟨rfl, ⟨nd, rfl⟩⟩; (try first | exact ⟨rfl, _, World.drewN_drewN _ _ _⟩ | exact ⟨rfl, _, Eq.trans (World.drewN_drewN _ _ _) (congrArg (World.drewN _) (Nat.add_assoc _ _ _))⟩))))
    go_loopg [4, 5, 6, 7] k (fun kq v4 v5 v6 v7 w' => ∃ (x4_1 : Int) (x5_1 : ByteArray) (x6_1 : Int) (x7_1 : Int), v4 = .int .i64 x4_1 ∧ v5 = .string x5_1 ∧ v6 = .int .i64 x6_1 ∧ v7 = .int .i64 x7_1 ∧ Aside0 (spec_RankOfLoop.l0 kq a0 x4_1 x5_1 x6_1 x7_1 = some (r1, r2)) ∧ Aside0 (kq ≤ k) ∧ Drawn0 w w')
    case atStart => exact ⟨(0), ((⟨#[]⟩ : ByteArray)), (0), (0), (by first | rfl | (simp; done) | (simp [*]; done)), (by first | rfl | (simp; done) | (simp [*]; done)), (by first | rfl | (simp; done) | (simp [*]; done)), (by first | rfl | (simp; done) | (simp [*]; done)), H', ⟨Nat.le_refl _⟩, by repeat (first | exact Drawn0.refl _ | apply Drawn0.step)⟩
    case round =>
      clear H'
      try clear c1
      try clear p2
      try clear c3
      obtain ⟨x4_1, x5_1, x6_1, x7_1, rfl, rfl, rfl, rfl, HA, HK1, ⟨m1, rfl⟩⟩ := hrel
      cases gk with
      | zero => exact absurd HA.out (by simp [spec_RankOfLoop.l0])
      | succ k1 =>
        have H := HA.out
        clear HA
        simp only [spec_RankOfLoop.l0] at H
        by_cases c4 : x7_1 < (a0.size : Int)
        · rw [if_pos c4] at H
          have c4b0 : decide (x7_1 < (a0.size : Int)) = true := decide_eq_true c4
          clear c4
          have H' := Aside0.mk H
          clear H
          go_wp2
          repeat (go_quiet (fail); try go_wp2)
          go_loopg [4, 5, 8, 9] k1 (fun kq v4 v5 v8 v9 w' => ∃ (x4_2 : Int) (x5_2 : ByteArray) (x8_2 : Bool) (x9_2 : Int), v4 = .int .i64 x4_2 ∧ v5 = .string x5_2 ∧ v8 = .bool x8_2 ∧ v9 = .int .i64 x9_2 ∧ Aside0 (spec_RankOfLoop.l1 kq a0 x4_2 x5_2 x6_1 x7_1 x8_2 x9_2 = some (r1, r2)) ∧ Aside0 (kq ≤ k1) ∧ Drawn0 w w')
          case atStart => exact ⟨(x4_1), (x5_1), (false), (0), (by first | rfl | (simp; done) | (simp [*]; done)), (by first | rfl | (simp; done) | (simp [*]; done)), (by first | rfl | (simp; done) | (simp [*]; done)), (by first | rfl | (simp; done) | (simp [*]; done)), H', ⟨Nat.le_refl _⟩, by repeat (first | exact Drawn0.refl _ | apply Drawn0.step)⟩
          case round =>
            clear H'
            try clear c1
            try clear p2
            try clear c3
            try clear c4
            try clear c4b0
            try clear p2
            obtain ⟨x4_2, x5_2, x8_2, x9_2, rfl, rfl, rfl, rfl, HA, HK2, ⟨m2, rfl⟩⟩ := hrel
            cases gk with
            | zero => exact absurd HA.out (by simp [spec_RankOfLoop.l1])
            | succ k2 =>
              have H := HA.out
              clear HA
              simp only [spec_RankOfLoop.l1] at H
              have HC5 := Aside0.mk H
              clear H
              go_upto_region 11 with (fail)
              repeat (go_quiet (fail); go_upto_region 11 with (fail))
              go_cut [26] (fun v26 wc => ∃ (kq : Nat) (x26_4 : Bool), v26 = .bool x26_4 ∧ Aside0 (spec_RankOfLoop.j2 kq a0 x4_2 x5_2 x6_1 x7_1 x8_2 x9_2 x26_4 = some (r1, r2)) ∧ Aside0 (kq ≤ k2) ∧ Drawn0 w wc)
              case first =>
                have H := HC5.out
                clear HC5
                by_cases c6 : x9_2 < (x5_2.size : Int)
                · rw [if_pos c6] at H
                  have c6b0 : decide (x9_2 < (x5_2.size : Int)) = true := decide_eq_true c6
                  clear c6
                  (first | rw [c6b0] | (simp only [i64_w, i32_w]; rw [c6b0]) | skip)
                  have H' := Aside0.mk H
                  clear H
                  go_wp2
                  repeat (go_quiet (fail); try go_wp2)
                  go_meet
                  case rel => exact ⟨_, (!x8_2), (by first | rfl | (simp; done) | (simp [*]; done)), H', ⟨by have := HK1.out; have := HK2.out; first | omega | exact Nat.le_refl _⟩, by repeat (first | exact Drawn0.refl _ | apply Drawn0.step)⟩
                · rw [if_neg c6] at H
                  have c6b0 : decide (x9_2 < (x5_2.size : Int)) = false := decide_eq_false c6
                  clear c6
                  (first | rw [c6b0] | (simp only [i64_w, i32_w]; rw [c6b0]) | skip)
                  have H' := Aside0.mk H
                  clear H
                  go_wp2
                  repeat (go_quiet (fail); try go_wp2)
                  go_meet
                  case rel => exact ⟨_, (false), (by first | rfl | (simp; done) | (simp [*]; done)), H', ⟨by have := HK1.out; have := HK2.out; first | omega | exact Nat.le_refl _⟩, by repeat (first | exact Drawn0.refl _ | apply Drawn0.step)⟩
              case rest =>
                clear HC5
                try clear c1
                try clear p2
                try clear c3
                try clear c4
                try clear c4b0
                try clear c6
                try clear c6b0
                try clear p2
                obtain ⟨kq, x26_4, rfl, HA, HJ4, ⟨mc4, rfl⟩⟩ := hcut
                cases kq with
                | zero => exact absurd HA.out (by simp [spec_RankOfLoop.j2])
                | succ kj4 =>
                  have H := HA.out
                  clear HA
                  simp only [spec_RankOfLoop.j2] at H
                  by_cases c7 : x26_4 = true
                  · subst c7
                    have H1 : (if 0 ≤ x9_2 then (if x9_2 < (x5_2.size : Int) then (if 0 ≤ x7_1 then (if x7_1 < (a0.size : Int) then (if (bt x5_2 x9_2) = (bt a0 x7_1) then (if x9_2 ≤ (x5_2.size : Int) then (if 0 ≤ (wrap64 (x9_2 + 1)) then (if (wrap64 (x9_2 + 1)) ≤ (x5_2.size : Int) then (if (x5_2.extract 0 (x9_2 : Int).toNat).size + (x5_2.extract ((wrap64 (x9_2 + 1)) : Int).toNat x5_2.size).size ≤ 9223372036854775807 then (spec_RankOfLoop.l1 kj4 a0 x4_2 ((x5_2.extract 0 (x9_2 : Int).toNat) ++ (x5_2.extract ((wrap64 (x9_2 + 1)) : Int).toNat x5_2.size)) x6_1 x7_1 true (wrap64 (x9_2 + 1))) else (none)) else (none)) else (none)) else (none)) else ((spec_loWays.f kj4 (wrap64 ((x5_2.size : Int) - 1)) (wrap64 ((wrap64 ((a0.size : Int) / 2)) - x6_1))).bind fun t123 => (spec_RankOfLoop.l1 kj4 a0 (wrap64 (x4_2 + t123)) x5_2 x6_1 x7_1 x8_2 (wrap64 (x9_2 + 1))))) else (none)) else (none)) else (none)) else (none)) = some (r1, r2) := by rw [if_pos rfl] at H; exact H
                    clear H
                    have H := H1
                    clear H1
                    by_cases c8 : 0 ≤ x9_2
                    · rw [if_pos c8] at H
                      have c8b0 : decide (0 ≤ x9_2) = true := decide_eq_true c8
                      clear c8
                      by_cases c9 : x9_2 < (x5_2.size : Int)
                      · rw [if_pos c9] at H
                        have c9b0 : decide (x9_2 < (x5_2.size : Int)) = true := decide_eq_true c9
                        clear c9
                        by_cases c11 : 0 ≤ x7_1
                        · rw [if_pos c11] at H
                          have c11b0 : decide (0 ≤ x7_1) = true := decide_eq_true c11
                          clear c11
                          by_cases c12 : x7_1 < (a0.size : Int)
                          · rw [if_pos c12] at H
                            have c12b0 : decide (x7_1 < (a0.size : Int)) = true := decide_eq_true c12
                            clear c12
                            by_cases c14 : (bt x5_2 x9_2) = (bt a0 x7_1)
                            · rw [if_pos c14] at H
                              have c14b0 : ((bt x5_2 x9_2) == (bt a0 x7_1)) = true := beq_iff_eq.mpr c14
                              have c14b1 : ((bt x5_2 x9_2) != (bt a0 x7_1)) = false := bne_eq_false_iff_eq.mpr c14
                              clear c14
                              have c15b0 := eq_true (of_decide_eq_true (by first | (with_reducible assumption) | assumption) : 0 ≤ x9_2)
                              by_cases c16 : x9_2 ≤ (x5_2.size : Int)
                              · rw [if_pos c16] at H
                                have c16b0 := eq_true c16
                                have c16b1 : decide (x9_2 ≤ (x5_2.size : Int)) = true := decide_eq_true c16
                                clear c16
                                obtain ⟨ji17, hji17⟩ : ∃ j_ : Int, (wrap64 (x9_2 + 1)) = j_ := ⟨_, rfl⟩
                                replace H : (if 0 ≤ (ji17) then (if (ji17) ≤ (x5_2.size : Int) then (if (x5_2.extract 0 (x9_2 : Int).toNat).size + (x5_2.extract ((ji17) : Int).toNat x5_2.size).size ≤ 9223372036854775807 then (spec_RankOfLoop.l1 kj4 a0 x4_2 ((x5_2.extract 0 (x9_2 : Int).toNat) ++ (x5_2.extract ((ji17) : Int).toNat x5_2.size)) x6_1 x7_1 true ji17) else (none)) else (none)) else (none)) = some (r1, r2) := by first | (rw [hji17] at H; exact H) | (simp only [hji17] at H ⊢; exact H)
                                have hji17w : (IntKind.i64.wrap (x9_2 + 1)) = ji17 := (i64_w _).trans hji17
                                by_cases c18 : 0 ≤ (ji17)
                                · rw [if_pos c18] at H
                                  have c18b0 := eq_true c18
                                  have c18b1 : decide (0 ≤ (ji17)) = true := decide_eq_true c18
                                  clear c18
                                  by_cases c19 : (ji17) ≤ (x5_2.size : Int)
                                  · rw [if_pos c19] at H
                                    have c19b0 := eq_true c19
                                    have c19b1 : decide ((ji17) ≤ (x5_2.size : Int)) = true := decide_eq_true c19
                                    clear c19
                                    by_cases c20 : (x5_2.extract 0 (x9_2 : Int).toNat).size + (x5_2.extract ((ji17) : Int).toNat x5_2.size).size ≤ 9223372036854775807
                                    · rw [if_pos c20] at H
                                      have c20b0 := eq_true c20
                                      have c20b1 : decide ((x5_2.extract 0 (x9_2 : Int).toNat).size + (x5_2.extract ((ji17) : Int).toNat x5_2.size).size ≤ 9223372036854775807) = true := decide_eq_true c20
                                      try have c20b2 : (9223372036854775807 < (x5_2.extract 0 (x9_2 : Int).toNat).size + (x5_2.extract ((ji17) : Int).toNat x5_2.size).size) = False := eq_false (Nat.not_lt.2 c20)
                                      have H' := Aside0.mk H
                                      clear H
                                      have p10 : 0 ≤ (x9_2 : Int) := of_decide_eq_true (by first | (with_reducible assumption) | assumption)
                                      have q10 : x9_2 < (x5_2.size : Int) := of_decide_eq_true (by first | (with_reducible assumption) | assumption)
                                      have hx10 := bt_at x5_2 x9_2
                                      replace p10 := eq_true p10
                                      replace q10 := eq_true q10
                                      have p13 : 0 ≤ (x7_1 : Int) := of_decide_eq_true (by first | (with_reducible assumption) | assumption)
                                      have q13 : x7_1 < (a0.size : Int) := of_decide_eq_true (by first | (with_reducible assumption) | assumption)
                                      have hx13 := bt_at a0 x7_1
                                      replace p13 := eq_true p13
                                      replace q13 := eq_true q13
                                      go_wp2
                                      repeat (go_quiet (fail); try go_wp2)
                                      go_roundg kj4
                                      case measure => have := HK1.out; have := HK2.out; have := HJ4.out; omega
                                      case rel => exact ⟨(x4_2), ((x5_2.extract 0 (x9_2 : Int).toNat) ++ (x5_2.extract ((ji17) : Int).toNat x5_2.size)), (true), (ji17), (by first | rfl | (simp; done) | (simp [*]; done)), (by first | rfl | (simp; done) | (simp only [← hji17] <;> (first | rfl | simp)) | (simp [*]; done)), (by first | rfl | (simp; done) | (simp [*]; done)), (by first | rfl | (simp; done) | (simp only [← hji17] <;> (first | rfl | simp)) | (simp [*]; done)), H', ⟨by have := HK1.out; have := HK2.out; have := HJ4.out; omega⟩, by repeat (first | exact Drawn0.refl _ | apply Drawn0.step)⟩
                                    · rw [if_neg c20] at H
                                      exact absurd H (by simp)
                                  · rw [if_neg c19] at H
                                    exact absurd H (by simp)
                                · rw [if_neg c18] at H
                                  exact absurd H (by simp)
                              · rw [if_neg c16] at H
                                exact absurd H (by simp)
                            · rw [if_neg c14] at H
                              have c14b0 : ((bt x5_2 x9_2) == (bt a0 x7_1)) = false := beq_eq_false_iff_ne.mpr c14
                              have c14b1 : ((bt x5_2 x9_2) != (bt a0 x7_1)) = true := bne_iff_ne.mpr c14
                              replace H := Option.bind_eq_some_iff.mp H
                              obtain ⟨t123, A210, H⟩ := H
                              replace H : (spec_RankOfLoop.l1 kj4 a0 (wrap64 (x4_2 + t123)) x5_2 x6_1 x7_1 x8_2 (wrap64 (x9_2 + 1))) = some (r1, r2) := H
                              have A21 := Aside0.mk A210
                              clear A210
                              have H' := Aside0.mk H
                              clear H
                              have p10 : 0 ≤ (x9_2 : Int) := of_decide_eq_true (by first | (with_reducible assumption) | assumption)
                              have q10 : x9_2 < (x5_2.size : Int) := of_decide_eq_true (by first | (with_reducible assumption) | assumption)
                              have hx10 := bt_at x5_2 x9_2
                              replace p10 := eq_true p10
                              replace q10 := eq_true q10
                              have p13 : 0 ≤ (x7_1 : Int) := of_decide_eq_true (by first | (with_reducible assumption) | assumption)
                              have q13 : x7_1 < (a0.size : Int) := of_decide_eq_true (by first | (with_reducible assumption) | assumption)
                              have hx13 := bt_at a0 x7_1
                              replace p13 := eq_true p13
                              replace q13 := eq_true q13
                              go_wp2_with (first | (go_at_call 28; (with_reducible refine (spec_loWays.calls kj4 (wrap64 ((x5_2.size : Int) - 1)) (wrap64 ((wrap64 ((a0.size : Int) / 2)) - x6_1)) t123 _ A21.out).mono ?_); rintro e w' ⟨rfl, ⟨nd, rfl⟩⟩; (try first | exact ⟨rfl, _, World.drewN_drewN _ _ _⟩ | exact ⟨rfl, _, Eq.trans (World.drewN_drewN _ _ _) (congrArg (World.drewN _) (Nat.add_assoc _ _ _))⟩)))
                              repeat (go_quiet (first | (go_at_call 28; (with_reducible refine (spec_loWays.calls kj4 (wrap64 ((x5_2.size : Int) - 1)) (wrap64 ((wrap64 ((a0.size : Int) / 2)) - x6_1)) t123 _ A21.out).mono ?_); rintro e w' ⟨rfl, ⟨nd, rfl⟩⟩; (try first | exact ⟨rfl, _, World.drewN_drewN _ _ _⟩ | exact ⟨rfl, _, Eq.trans (World.drewN_drewN _ _ _) (congrArg (World.drewN _) (Nat.add_assoc _ _ _))⟩))); try go_wp2_with (first | (go_at_call 28; (with_reducible refine (spec_loWays.calls kj4 (wrap64 ((x5_2.size : Int) - 1)) (wrap64 ((wrap64 ((a0.size : Int) / 2)) - x6_1)) t123 _ A21.out).mono ?_); rintro e w' ⟨rfl, ⟨nd, rfl⟩⟩; (try first | exact ⟨rfl, _, World.drewN_drewN _ _ _⟩ | exact ⟨rfl, _, Eq.trans (World.drewN_drewN _ _ _) (congrArg (World.drewN _) (Nat.add_assoc _ _ _))⟩))))
                              go_roundg kj4
                              case measure => have := HK1.out; have := HK2.out; have := HJ4.out; omega
                              case rel => exact ⟨(wrap64 (x4_2 + t123)), (x5_2), (x8_2), (wrap64 (x9_2 + 1)), (by first | rfl | (simp; done) | (simp [*]; done)), (by first | rfl | (simp; done) | (simp [*]; done)), (by first | rfl | (simp; done) | (simp [*]; done)), (by first | rfl | (simp; done) | (simp [*]; done)), H', ⟨by have := HK1.out; have := HK2.out; have := HJ4.out; omega⟩, by repeat (first | exact Drawn0.refl _ | apply Drawn0.step)⟩
                          · rw [if_neg c12] at H
                            exact absurd H (by simp)
                        · rw [if_neg c11] at H
                          exact absurd H (by simp)
                      · rw [if_neg c9] at H
                        exact absurd H (by simp)
                    · rw [if_neg c8] at H
                      exact absurd H (by simp)
                  · replace c7 := Bool.eq_false_iff.mpr c7
                    subst c7
                    have H1 : (if x8_2 = true then (spec_RankOfLoop.l0 kj4 a0 x4_2 x5_2 x6_1 (wrap64 (x7_1 + 1))) else (if 0 ≤ x7_1 then (if x7_1 ≤ (wrap64 (x7_1 + 1)) then (if (wrap64 (x7_1 + 1)) ≤ (a0.size : Int) then (if x5_2.size + (a0.extract (x7_1 : Int).toNat ((wrap64 (x7_1 + 1)) : Int).toNat).size ≤ 9223372036854775807 then (spec_RankOfLoop.l0 kj4 a0 x4_2 (x5_2 ++ (a0.extract (x7_1 : Int).toNat ((wrap64 (x7_1 + 1)) : Int).toNat)) (wrap64 (x6_1 + 1)) (wrap64 (x7_1 + 1))) else (none)) else (none)) else (none)) else (none))) = some (r1, r2) := by rw [if_neg (show ¬ (false = true) by decide)] at H; exact H
                    clear H
                    have H := H1
                    clear H1
                    by_cases c22 : x8_2 = true
                    · subst c22
                      have H1 : (spec_RankOfLoop.l0 kj4 a0 x4_2 x5_2 x6_1 (wrap64 (x7_1 + 1))) = some (r1, r2) := by rw [if_pos rfl] at H; exact H
                      clear H
                      have H := H1
                      clear H1
                      have H' := Aside0.mk H
                      clear H
                      go_wp2
                      repeat (go_quiet (fail); try go_wp2)
                      go_roundg kj4
                      case measure => have := HK1.out; have := HK2.out; have := HJ4.out; omega
                      case rel => exact ⟨(x4_2), (x5_2), (x6_1), (wrap64 (x7_1 + 1)), (by first | rfl | (simp; done) | (simp [*]; done)), (by first | rfl | (simp; done) | (simp [*]; done)), (by first | rfl | (simp; done) | (simp [*]; done)), (by first | rfl | (simp; done) | (simp [*]; done)), H', ⟨by have := HK1.out; have := HK2.out; have := HJ4.out; omega⟩, by repeat (first | exact Drawn0.refl _ | apply Drawn0.step)⟩
                    · replace c22 := Bool.eq_false_iff.mpr c22
                      subst c22
                      have H1 : (if 0 ≤ x7_1 then (if x7_1 ≤ (wrap64 (x7_1 + 1)) then (if (wrap64 (x7_1 + 1)) ≤ (a0.size : Int) then (if x5_2.size + (a0.extract (x7_1 : Int).toNat ((wrap64 (x7_1 + 1)) : Int).toNat).size ≤ 9223372036854775807 then (spec_RankOfLoop.l0 kj4 a0 x4_2 (x5_2 ++ (a0.extract (x7_1 : Int).toNat ((wrap64 (x7_1 + 1)) : Int).toNat)) (wrap64 (x6_1 + 1)) (wrap64 (x7_1 + 1))) else (none)) else (none)) else (none)) else (none)) = some (r1, r2) := by rw [if_neg (show ¬ (false = true) by decide)] at H; exact H
                      clear H
                      have H := H1
                      clear H1
                      by_cases c23 : 0 ≤ x7_1
                      · rw [if_pos c23] at H
                        have c23b0 := eq_true c23
                        have c23b1 : decide (0 ≤ x7_1) = true := decide_eq_true c23
                        clear c23
                        by_cases c24 : x7_1 ≤ (wrap64 (x7_1 + 1))
                        · rw [if_pos c24] at H
                          have c24b0 := eq_true c24
                          have c24b1 : decide (x7_1 ≤ (wrap64 (x7_1 + 1))) = true := decide_eq_true c24
                          by_cases c25 : (wrap64 (x7_1 + 1)) ≤ (a0.size : Int)
                          · rw [if_pos c25] at H
                            have c25b0 := eq_true c25
                            have c25b1 : decide ((wrap64 (x7_1 + 1)) ≤ (a0.size : Int)) = true := decide_eq_true c25
                            by_cases c26 : x5_2.size + (a0.extract (x7_1 : Int).toNat ((wrap64 (x7_1 + 1)) : Int).toNat).size ≤ 9223372036854775807
                            · rw [if_pos c26] at H
                              have c26b0 := eq_true c26
                              have c26b1 : decide (x5_2.size + (a0.extract (x7_1 : Int).toNat ((wrap64 (x7_1 + 1)) : Int).toNat).size ≤ 9223372036854775807) = true := decide_eq_true c26
                              try have c26b2 : (9223372036854775807 < x5_2.size + (a0.extract (x7_1 : Int).toNat ((wrap64 (x7_1 + 1)) : Int).toNat).size) = False := eq_false (Nat.not_lt.2 c26)
                              have H' := Aside0.mk H
                              clear H
                              go_wp2
                              repeat (go_quiet (fail); try go_wp2)
                              go_roundg kj4
                              case measure => have := HK1.out; have := HK2.out; have := HJ4.out; omega
                              case rel => exact ⟨(x4_2), (x5_2 ++ (a0.extract (x7_1 : Int).toNat ((wrap64 (x7_1 + 1)) : Int).toNat)), (wrap64 (x6_1 + 1)), (wrap64 (x7_1 + 1)), (by first | rfl | (simp; done) | (simp [*]; done)), (by first | rfl | (simp; done) | (simp [*]; done)), (by first | rfl | (simp; done) | (simp [*]; done)), (by first | rfl | (simp; done) | (simp [*]; done)), H', ⟨by have := HK1.out; have := HK2.out; have := HJ4.out; omega⟩, by repeat (first | exact Drawn0.refl _ | apply Drawn0.step)⟩
                            · rw [if_neg c26] at H
                              exact absurd H (by simp)
                          · rw [if_neg c25] at H
                            exact absurd H (by simp)
                        · rw [if_neg c24] at H
                          exact absurd H (by simp)
                      · rw [if_neg c23] at H
                        exact absurd H (by simp)
        · rw [if_neg c4] at H
          have c4b0 : decide (x7_1 < (a0.size : Int)) = false := decide_eq_false c4
          clear c4
          simp only [Option.some.injEq, Prod.mk.injEq] at H
          obtain ⟨rfl, rfl⟩ := H
          go_wp2
          repeat (go_quiet (fail); try go_wp2)
          go_ret2
          exact ⟨by first | rfl | (simp; done) | (simp [*]; done), by repeat (first | exact Drawn0.refl _ | apply Drawn0.step)⟩
  · replace c3 := Bool.eq_false_iff.mpr c3
    subst c3
    have H1 : (some (0, false)) = some (r1, r2) := by rw [if_neg (show ¬ (false = true) by decide)] at H; exact H
    clear H
    have H := H1
    clear H1
    simp only [Option.some.injEq, Prod.mk.injEq] at H
    obtain ⟨rfl, rfl⟩ := H
    go_enter Tryd.func14, Tryd.ntmps14
    go_wp2_with (first | (go_at_call 18; (with_reducible refine (spec_loGood.calls k a0 false _ A2.out).mono ?_); rintro e w' ⟨rfl, ⟨nd, rfl⟩⟩; (try first | exact ⟨rfl, _, World.drewN_drewN _ _ _⟩ | exact ⟨rfl, _, Eq.trans (World.drewN_drewN _ _ _) (congrArg (World.drewN _) (Nat.add_assoc _ _ _))⟩)))
    repeat (go_quiet (first | (go_at_call 18; (with_reducible refine (spec_loGood.calls k a0 false _ A2.out).mono ?_); rintro e w' ⟨rfl, ⟨nd, rfl⟩⟩; (try first | exact ⟨rfl, _, World.drewN_drewN _ _ _⟩ | exact ⟨rfl, _, Eq.trans (World.drewN_drewN _ _ _) (congrArg (World.drewN _) (Nat.add_assoc _ _ _))⟩))); try go_wp2_with (first | (go_at_call 18; (with_reducible refine (spec_loGood.calls k a0 false _ A2.out).mono ?_); rintro e w' ⟨rfl, ⟨nd, rfl⟩⟩; (try first | exact ⟨rfl, _, World.drewN_drewN _ _ _⟩ | exact ⟨rfl, _, Eq.trans (World.drewN_drewN _ _ _) (congrArg (World.drewN _) (Nat.add_assoc _ _ _))⟩))))
    go_ret2
    exact ⟨by first | rfl | (simp; done) | (simp [*]; done), by repeat (first | exact Drawn0.refl _ | apply Drawn0.step)⟩

end Go.Proofs.YtkfllbbpclgffaaDoor.Pr

/- What is asked of a predicate that is handed to the library, and the place of the first element for which it holds. -/
namespace Go.Proofs.YtkfllbbpclgffaaDoor.Pr
open Go.RowKit Go.Proofs.YtkfllbbpclgffaaDoorW.PrintWords Go.Proofs.YtkfllbbpclgffaaDoorW.PrintLast Go.Proofs.YtkfllbbpclgffaaDoorW.PrintMore
set_option linter.unusedVariables false
set_option linter.unusedSimpArgs false

/-- A function value that tells p of the elements of a list, in any world in which what was there is as it was. -/
def PredB {α : Type} (g : Nat) (lb : Array Value) (enc : α → Value) (p : α → Bool) (zs : List α) (w : World) : Prop :=
  ∀ (W : World) (x : α), x ∈ zs → Below w.heap.size w W → Calls Tryd.prog g (#[enc x] ++ lb) W fun e w' => e = .returned (.bool (p x)) ∧ Below W.heap.size W w'
/-- The place of the first element for which p holds, or -1. -/
def idxP {α : Type} (p : α → Bool) : List α → Int
  | [] => -1
  | x :: r => if p x = true then 0 else if idxP p r < 0 then -1 else idxP p r + 1
theorem idxP_ge {α : Type} (p : α → Bool) : ∀ l : List α, -1 ≤ idxP p l
  | [] => by simp [idxP]
  | x :: r => by
    have := idxP_ge p r
    unfold idxP
    split
    · omega
    · split <;> omega
theorem idxP_nonneg {α : Type} (p : α → Bool) : ∀ l : List α, decide (idxP p l ≥ 0) = l.any p
  | [] => by simp [idxP]
  | x :: r => by
    have ih := idxP_nonneg p r
    unfold idxP
    rw [List.any_cons, ← ih]
    cases hx : p x with
    | true => simp
    | false =>
      simp only [Bool.false_eq_true, if_false, Bool.false_or]
      split
      · rename_i h; simp; omega
      · rename_i h; simp; omega
theorem idxP_none {α : Type} (p : α → Bool) : ∀ l : List α, (∀ x ∈ l, p x = false) → idxP p l = -1
  | [], _ => rfl
  | x :: r, h => by
    unfold idxP
    rw [if_neg (by rw [h x (List.mem_cons_self ..)]; simp), idxP_none p r (fun y hy => h y (List.mem_cons_of_mem _ hy))]
    simp
theorem idxP_at {α : Type} (p : α → Bool) : ∀ (l : List α) (i : Nat) (h : i < l.length), p l[i] = true → (∀ j (hj : j < i), p (l[j]'(by omega)) = false) → idxP p l = i
  | [], i, h, _, _ => by simp at h
  | x :: r, 0, h, hp, _ => by
    unfold idxP
    rw [if_pos (by simpa using hp)]
    rfl
  | x :: r, i + 1, h, hp, hn => by
    have h0 := hn 0 (by omega)
    have ih := idxP_at p r i (by simpa using h) (by simpa using hp) (fun j hj => by simpa using hn (j + 1) (by omega))
    unfold idxP
    rw [if_neg (by simp at h0; rw [h0]; simp), ih, if_neg (by omega)]
    omega

end Go.Proofs.YtkfllbbpclgffaaDoor.Pr

/- What slices.IndexFunc and slices.ContainsFunc compute on bytes, for any predicate that leaves old memory as it was. -/
namespace Go.Proofs.YtkfllbbpclgffaaDoor.Pr
open Go.RowKit Go.Proofs.YtkfllbbpclgffaaDoorW.PrintWords Go.Proofs.YtkfllbbpclgffaaDoorW.PrintLast Go.Proofs.YtkfllbbpclgffaaDoorW.PrintMore
set_option linter.unusedVariables false
set_option linter.unusedSimpArgs false

def encB (x : Int) : Value := .int .u8 x
theorem rdB (l : List Int) (i : Nat) (h : i < l.length) : rd l (i : Int) = l[i] := by
  unfold rd
  simp [List.getD_eq_getElem?_getD, List.getElem?_eq_getElem h]

set_option maxHeartbeats 2000000 in
set_option maxRecDepth 100000 in
theorem indexFunc_byte (A : Option Addr) (c : Nat) (zs : List Int) (p : Int → Bool) (g : Nat) (lb : Array Value) (eg : ∀ args w, (callFunc g args).run Tryd.prog w = .ok (.enter g args) w) (w : World)
    (hr : Kd.C (Kd.int .u8) w A zs.length zs) (hc : zs.length ≤ c) (hp : PredB g lb encB p zs w) :
    Calls Tryd.prog 63 #[.slice A zs.length c, .func (.func g) #[] lb] w fun e w' => e = .returned (.int .i64 (idxP p zs)) ∧ Below w.heap.size w w' := by
  have hbig : zs.length ≤ 9223372036854775807 := hr.2.1
  have HR := Aside0.mk hr
  have HP := Aside0.mk hp
  clear hr hp hc
  go_enter Tryd.func63, Tryd.ntmps63
  go_wp2
  go_loopg [5, 8] zs.length (fun gg _ s8 wr => ∃ i : Nat, s8 = .int .i64 i ∧ Aside0 (i ≤ zs.length) ∧ Aside0 (zs.length - i ≤ gg) ∧ Aside0 (Below w.heap.size w wr) ∧ Aside0 (∀ j (hj : j < zs.length), j < i → p zs[j] = false))
  case atStart => exact ⟨0, rfl, ⟨Nat.zero_le _⟩, ⟨by omega⟩, ⟨Below.refl _ w⟩, ⟨fun j _ hj => absurd hj (Nat.not_lt_zero _)⟩⟩
  case round =>
    obtain ⟨i, rfl, HI, HG, HB, HA⟩ := hrel
    by_cases hlt : i < zs.length
    · have c4b0 : decide ((i : Int) < (zs.length : Int)) = true := decide_eq_true (by omega)
      have c5b0 : decide (i < zs.length) = true := decide_eq_true hlt
      obtain ⟨ad, e, h0⟩ := Kd.at_int HR.out (i : Int) (by omega) (by omega)
      cases e
      rw [rdB zs i hlt, Int.toNat_natCast] at h0
      replace h0 := (HB.out.cell (World.block_lt_of_cell? w _ h0)).trans h0
      have hcall := HP.out wr zs[i] (List.getElem_mem hlt) HB.out
      have hn := HA.out
      obtain ⟨y, hy⟩ : ∃ y, zs[i] = y := ⟨_, rfl⟩
      have HY := Aside0.mk hy
      rw [hy] at h0 hcall
      have HN := Aside0.mk hn
      clear hn hy
      cases hq : p y with
      | true =>
        rw [hq] at hcall
        have HQ := Aside0.mk hq
        clear hq
        go_wp2_with (go_at_fn g; refine hcall.mono ?_; rintro e w' ⟨rfl, hb1⟩)
        have hb' := HB.out.trans (hb1.mono HB.out.size)
        go_ret
        exact ⟨congrArg (fun z => Ending.returned (Value.int .i64 z)) (idxP_at p zs i hlt (by rw [HY.out]; exact HQ.out) (fun j hj => HN.out j (by omega) hj)).symm, hb'⟩
      | false =>
        rw [hq] at hcall
        have HQ := Aside0.mk hq
        clear hq
        go_wp2_with (go_at_fn g; refine hcall.mono ?_; rintro e w' ⟨rfl, hb1⟩)
        have hb' := HB.out.trans (hb1.mono HB.out.size)
        go_roundg (zs.length - (i + 1))
        case measure => have := HG.out; omega
        case rel =>
          refine ⟨i + 1, by go_num, ⟨by omega⟩, ⟨by omega⟩, ⟨hb'⟩, ⟨fun j hj hji => ?_⟩⟩
          by_cases e : j = i
          · subst e
            rw [HY.out]; exact HQ.out
          · exact HN.out j hj (by omega)
    · have c4b0 : decide ((i : Int) < (zs.length : Int)) = false := decide_eq_false (by omega)
      have c5b0 : decide (i < zs.length) = false := decide_eq_false hlt
      have hall := Aside0.mk (idxP_none p zs (fun x hx => by
        obtain ⟨j, hj, rfl⟩ := List.getElem_of_mem hx
        exact HA.out j hj (by omega)))
      have HB2 := HB
      clear HA HP HR
      go_wp2
      go_ret
      exact ⟨congrArg (fun z => Ending.returned (Value.int .i64 z)) hall.out.symm, HB2.out⟩

set_option maxHeartbeats 2000000 in
theorem containsFunc_byte (A : Option Addr) (c : Nat) (zs : List Int) (p : Int → Bool) (g : Nat) (lb : Array Value) (eg : ∀ args w, (callFunc g args).run Tryd.prog w = .ok (.enter g args) w) (w : World)
    (hr : Kd.C (Kd.int .u8) w A zs.length zs) (hc : zs.length ≤ c) (hp : PredB g lb encB p zs w) :
    Calls Tryd.prog 43 #[.slice A zs.length c, .func (.func g) #[] lb] w fun e w' => e = .returned (.bool (zs.any p)) ∧ Below w.heap.size w w' := by
  rw [← idxP_nonneg p zs]
  have hcon := indexFunc_byte A c zs p g lb eg w hr hc hp
  clear hr hp
  generalize idxP p zs = r at hcon ⊢
  go_enter Tryd.func43, Tryd.ntmps43
  go_wp2_with (go_at_call 63; refine hcon.mono ?_; rintro e w' ⟨rfl, hb'⟩)
  go_ret
  exact ⟨by simp, hb'⟩
end Go.Proofs.YtkfllbbpclgffaaDoor.Pr

/- A text's bytes as a row. -/
namespace Go.Proofs.YtkfllbbpclgffaaDoor.Pr
open Go.RowKit Go.Proofs.YtkfllbbpclgffaaDoorW.PrintWords Go.Proofs.YtkfllbbpclgffaaDoorW.PrintLast Go.Proofs.YtkfllbbpclgffaaDoorW.PrintMore
set_option linter.unusedVariables false
set_option linter.unusedSimpArgs false

theorem bytes_C (W : World) (e : Nat) (s : ByteArray) (hs : s.size ≤ 9223372036854775807) : Kd.C (Kd.int .u8) (Lib.bytesWorld W e s) (some ⟨W.heap.size, 0, none⟩) (bytesOf s).length (bytesOf s) := by
  have h := bytes_reads W e s hs
  refine ⟨rfl, by rw [bytesOf_length]; exact hs, fun hn => ?_⟩
  obtain ⟨ad, e1, hc⟩ := h.2.2 (by rwa [bytesOf_length] at hn)
  refine ⟨ad, e1, fun j p hj => ?_⟩
  obtain ⟨hjl, hp⟩ := List.getElem?_eq_some_iff.1 hj
  have h2 := hc j (by rwa [bytesOf_length] at hjl)
  rw [List.getD_eq_getElem?_getD, hj] at h2
  refine ⟨[.int .u8 p], rfl, rfl, fun i u hi => ?_⟩
  have hi2 : i = 0 := by have := (List.getElem?_eq_some_iff.1 hi).1; simp at this; exact this
  subst hi2
  obtain rfl : Value.int .u8 p = u := by simpa using hi
  show (Lib.bytesWorld W e s).cell? (ad.add (j * 1 + 0)) = _
  rw [show j * 1 + 0 = j by omega]
  exact h2
theorem cell_keep {W w' : World} {B : Nat} {v : Value} (hb : Below W.heap.size W w') (hB : B < W.heap.size) (h : W.cell? ⟨B, 0, none⟩ = some v) : w'.cell? ⟨B, 0, none⟩ = some v := (hb.cell (p := ⟨B, 0, none⟩) hB).trans h
theorem lt_keep {W w' : World} {B : Nat} (hb : Below W.heap.size W w') (hB : B < W.heap.size) : B < w'.heap.size := Nat.lt_of_lt_of_le hB hb.size
theorem below_keep {w W w' : World} (hb : Below W.heap.size W w') (h : Below w.heap.size w W) : Below w.heap.size w w' := h.trans (hb.mono h.size)
theorem toList_ne {s t : ByteArray} (h : s ≠ t) : s.toList ≠ t.toList := fun e => h (by
  rw [ByteArray.toList_eq, ByteArray.toList_eq] at e
  exact ByteArray.ext (Array.toList_inj.1 e))
end Go.Proofs.YtkfllbbpclgffaaDoor.Pr

/- Loops as lists of letters: letters named anew, and what a loop is. Plain lists, no program. -/
namespace Go.Proofs.YtkfllbbpclgffaaDoor.M
set_option linter.unusedVariables false
set_option linter.unusedSimpArgs false

/-- Letters named anew in the order in which they come; ns are those that have come. -/
def anew : List Int → List Int → List Int
  | _, [] => []
  | ns, x :: r => (97 + (ns.idxOf x : Int)) :: anew (if x ∈ ns then ns else ns ++ [x]) r
/-- Letters in the order in which they come, after ns. -/
def newN : List Int → List Int → List Int
  | ns, [] => ns
  | ns, x :: r => newN (if x ∈ ns then ns else ns ++ [x]) r
theorem anew_length : ∀ (w ns : List Int), (anew ns w).length = w.length
  | [], _ => rfl
  | x :: r, ns => by simp [anew, anew_length r]
theorem newN_length : ∀ (w ns : List Int), (newN ns w).length ≤ ns.length + w.length
  | [], _ => by simp [newN]
  | x :: r, ns => by
    unfold newN
    by_cases h : x ∈ ns
    · rw [if_pos h]
      have := newN_length r ns
      simp; omega
    · rw [if_neg h]
      have := newN_length r (ns ++ [x])
      simp at this ⊢; omega
/-- Another naming of the letters changes nothing. -/
theorem anew_map (f : Int → Int) : ∀ (w ns : List Int), (∀ x ∈ ns ++ w, ∀ y ∈ ns ++ w, f x = f y → x = y) → anew (ns.map f) (w.map f) = anew ns w
  | [], _, _ => rfl
  | x :: r, ns, h => by
    have hi : (ns.map f).idxOf (f x) = ns.idxOf x := by
      have : ∀ l : List Int, (∀ y ∈ l, f y = f x → y = x) → (l.map f).idxOf (f x) = l.idxOf x := by
        intro l
        induction l with
        | nil => intro _; rfl
        | cons y l ih =>
          intro hl
          simp only [List.map_cons, List.idxOf_cons]
          by_cases e : y = x
          · subst e; simp
          · have hne : f y ≠ f x := fun e2 => e (hl y (List.mem_cons_self ..) e2)
            rw [ih (fun z hz => hl z (List.mem_cons_of_mem _ hz)), show (f y == f x) = false by simpa using hne, show (y == x) = false by simpa using e]
      refine this ns (fun y hy e => h y (by simp [hy]) x (by simp) e)
    have hm : f x ∈ ns.map f ↔ x ∈ ns := by
      constructor
      · intro hx
        obtain ⟨y, hy, e⟩ := List.mem_map.1 hx
        have := h y (by simp [hy]) x (by simp) e
        exact this ▸ hy
      · exact fun hx => List.mem_map.2 ⟨x, hx, rfl⟩
    rw [List.map_cons, anew, anew, hi]
    congr 1
    by_cases hx : x ∈ ns
    · rw [if_pos hx, if_pos (hm.2 hx)]
      exact anew_map f r ns (fun a ha b hb => h a (by simp at ha ⊢; rcases ha with ha | ha <;> simp [ha]) b (by simp at hb ⊢; rcases hb with hb | hb <;> simp [hb]))
    · rw [if_neg hx, if_neg (fun e => hx (hm.1 e)), ← List.map_singleton (f := f), ← List.map_append]
      exact anew_map f r (ns ++ [x]) (fun a ha b hb => h a (by simpa using ha) b (by simpa using hb))

/-- A loop whose letters come in order: j have come; how many have come at the end. -/
def runL : Nat → List Int → Option Nat
  | j, [] => some j
  | j, x :: r => if 97 ≤ x ∧ x < 97 + j then runL j r else if x = 97 + j then runL (j + 1) r else none
def abcL (j : Nat) : List Int := (List.range j).map fun (i : Nat) => (97 : Int) + (i : Int)
theorem mem_abc (j : Nat) (x : Int) : x ∈ abcL j ↔ 97 ≤ x ∧ x < 97 + j := by
  simp only [abcL, List.mem_map, List.mem_range]
  constructor
  · rintro ⟨i, hi, rfl⟩; omega
  · intro h; exact ⟨(x - 97).toNat, by omega, by omega⟩
theorem abc_succ (j : Nat) : abcL j ++ [97 + (j : Int)] = abcL (j + 1) := by simp [abcL, List.range_succ]
theorem abc_length (j : Nat) : (abcL j).length = j := by simp [abcL]
theorem idx_abc : ∀ (j : Nat) (x : Int), x ∈ abcL j → 97 + ((abcL j).idxOf x : Int) = x
  | 0, x, h => by simp [abcL] at h
  | j + 1, x, h => by
    rw [← abc_succ] at h ⊢
    by_cases hx : x ∈ abcL j
    · rw [List.idxOf_append, if_pos hx]; exact idx_abc j x hx
    · have e : x = 97 + (j : Int) := by
        rcases List.mem_append.1 h with h | h
        · exact absurd h hx
        · simpa using h
      rw [List.idxOf_append, if_neg hx, abc_length, e]
      simp
theorem idx_none (l : List Int) (x : Int) (h : x ∉ l) : l.idxOf x = l.length := List.idxOf_eq_length h
theorem anew_run : ∀ (w : List Int) (j : Nat), anew (abcL j) w = w ↔ (runL j w).isSome = true
  | [], j => by simp [anew, runL]
  | x :: r, j => by
    unfold anew runL
    by_cases hx : x ∈ abcL j
    · have hx2 := (mem_abc j x).1 hx
      rw [if_pos hx, if_pos hx2, idx_abc j x hx, List.cons.injEq]
      simp [anew_run r j]
    · have hx2 : ¬ (97 ≤ x ∧ x < 97 + (j : Int)) := fun h => hx ((mem_abc j x).2 h)
      rw [if_neg hx, if_neg hx2, idx_none _ _ hx, abc_length, List.cons.injEq]
      by_cases e : x = 97 + (j : Int)
      · rw [if_pos e, e, abc_succ]
        simp [anew_run r (j + 1)]
      · rw [if_neg e]
        constructor
        · intro h; exact absurd h.1.symm e
        · intro h; simp at h
theorem run_mono : ∀ (w : List Int) (j J : Nat), runL j w = some J → j ≤ J ∧ J ≤ j + w.length
  | [], j, J, h => by simp [runL] at h; simp; omega
  | x :: r, j, J, h => by
    unfold runL at h
    split at h
    · have := run_mono r j J h; simp; omega
    · split at h
      · have := run_mono r (j + 1) J h; simp; omega
      · cases h
theorem run_mem : ∀ (w : List Int) (j J : Nat), runL j w = some J → (∀ x ∈ w, 97 ≤ x ∧ x < 97 + (J : Int)) ∧ ∀ i : Nat, j ≤ i → i < J → 97 + (i : Int) ∈ w
  | [], j, J, h => by simp [runL] at h; subst h; exact ⟨by simp, fun i h1 h2 => by omega⟩
  | x :: r, j, J, h => by
    unfold runL at h
    split at h
    · rename_i hx
      have hm := run_mono r j J h
      obtain ⟨h1, h2⟩ := run_mem r j J h
      exact ⟨fun y hy => by rcases List.mem_cons.1 hy with e | hy; (· subst e; omega); exact h1 y hy, fun i a b => List.mem_cons_of_mem _ (h2 i a b)⟩
    · split at h
      · rename_i hx e
        have hm := run_mono r (j + 1) J h
        obtain ⟨h1, h2⟩ := run_mem r (j + 1) J h
        refine ⟨fun y hy => by rcases List.mem_cons.1 hy with e | hy; (· subst e; omega); exact h1 y hy, fun i a b => ?_⟩
        by_cases ei : i = j
        · subst ei; rw [e]; exact List.mem_cons_self ..
        · exact List.mem_cons_of_mem _ (h2 i (by omega) b)
      · cases h

/-- How many letters of w are among the first J. -/
def totL (w : List Int) : Nat → Nat
  | 0 => 0
  | J + 1 => totL w J + w.count (97 + (J : Int))
theorem tot_cons (x : Int) (w : List Int) : ∀ J : Nat, totL (x :: w) J = totL w J + if 97 ≤ x ∧ x < 97 + (J : Int) then 1 else 0
  | 0 => by
    rw [if_neg (by omega)]
    rfl
  | J + 1 => by
    rw [totL, totL, tot_cons x w J, List.count_cons]
    simp only [beq_iff_eq]
    split <;> split <;> split <;> omega
theorem tot_all : ∀ (w : List Int) (J : Nat), (∀ x ∈ w, 97 ≤ x ∧ x < 97 + (J : Int)) → totL w J = w.length
  | [], J, _ => by
    induction J with
    | zero => rfl
    | succ J ih => simp [totL]; simpa using ih
  | x :: w, J, h => by
    rw [tot_cons, if_pos (h x (List.mem_cons_self ..)), tot_all w J (fun y hy => h y (List.mem_cons_of_mem _ hy))]
    rfl
theorem tot_two (w : List Int) : ∀ J : Nat, (∀ i : Nat, i < J → w.count (97 + (i : Int)) = 2) → totL w J = 2 * J
  | 0, _ => rfl
  | J + 1, h => by
    rw [totL, tot_two w J (fun i hi => h i (by omega)), h J (by omega)]
    omega

/-- A loop. -/
def goodL (w : List Int) : Bool := decide (w.length ≤ 16) && (anew [] w == w) && w.all (fun x => w.count x == 2)
/-- What a loop is: twice m letters, the first m ones, each twice. -/
structure Loop (w : List Int) (m : Nat) : Prop where
  len : w.length = 2 * m
  few : m ≤ 8
  run : runL 0 w = some m
  lo : ∀ x ∈ w, 97 ≤ x
  hi : ∀ x ∈ w, x < 97 + (m : Int)
  two : ∀ i : Nat, i < m → w.count (97 + (i : Int)) = 2
theorem loop_of {w : List Int} (h : goodL w = true) : ∃ m, Loop w m := by
  simp only [goodL, Bool.and_eq_true, decide_eq_true_eq, beq_iff_eq, List.all_eq_true] at h
  obtain ⟨⟨h1, h2⟩, h3⟩ := h
  have h4 := (anew_run w 0).1 h2
  obtain ⟨m, hm⟩ := Option.isSome_iff_exists.1 h4
  obtain ⟨h5, h6⟩ := run_mem w 0 m hm
  have h7 : ∀ i : Nat, i < m → w.count (97 + (i : Int)) = 2 := fun i hi => h3 _ (h6 i (by omega) hi)
  have h8 := tot_all w m h5
  rw [tot_two w m h7] at h8
  exact ⟨m, h8.symm, by omega, hm, fun x hx => (h5 x hx).1, fun x hx => (h5 x hx).2, h7⟩
theorem Loop.half {w : List Int} {m : Nat} (h : Loop w m) : w.length / 2 = m := by have := h.len; omega
theorem Loop.cnt {w : List Int} {m : Nat} (h : Loop w m) {x : Int} (h1 : 97 ≤ x) (h2 : x < 97 + (m : Int)) : w.count x = 2 := by
  have := h.two (x - 97).toNat (by omega)
  rwa [show (97 : Int) + ((x - 97).toNat : Int) = x by omega] at this
theorem Loop.good {w : List Int} {m : Nat} (h : Loop w m) : goodL w = true := by
  simp only [goodL, Bool.and_eq_true, decide_eq_true_eq, beq_iff_eq, List.all_eq_true]
  refine ⟨⟨by have := h.len; have := h.few; omega, (anew_run w 0).2 (by rw [h.run]; rfl)⟩, fun x hx => h.cnt (h.lo x hx) (h.hi x hx)⟩
/-- All letters are among the first eight. -/
theorem good_letters {w : List Int} (h : goodL w = true) : ∀ x ∈ w, 97 ≤ x ∧ x ≤ 104 := fun x hx => by
  obtain ⟨m, hm⟩ := loop_of h
  have := hm.lo x hx
  have := hm.hi x hx
  have := hm.few
  omega
theorem good_even {w : List Int} (h : goodL w = true) : w.length % 2 = 0 := by
  obtain ⟨m, hm⟩ := loop_of h
  have := hm.len
  omega
end Go.Proofs.YtkfllbbpclgffaaDoor.M

/- The two places of a letter of a loop, and what stands between them. Plain lists, no program. -/
namespace Go.Proofs.YtkfllbbpclgffaaDoor.M
set_option linter.unusedVariables false
set_option linter.unusedSimpArgs false

/-- A list with a letter at just two places. -/
theorem two_parts (x : Int) : ∀ (w : List Int), w.count x = 2 → ∃ p q r, w = p ++ x :: (q ++ x :: r) ∧ x ∉ p ∧ x ∉ q ∧ x ∉ r := by
  have one : ∀ (w : List Int), w.count x = 1 → ∃ q r, w = q ++ x :: r ∧ x ∉ q ∧ x ∉ r := by
    intro w
    induction w with
    | nil => intro h; simp at h
    | cons y w ih =>
      intro h
      rw [List.count_cons] at h
      by_cases e : y = x
      · subst e
        simp at h
        exact ⟨[], w, rfl, by simp, List.count_eq_zero.1 h⟩
      · rw [if_neg (by simpa using e)] at h
        obtain ⟨q, r, rfl, h1, h2⟩ := ih (by omega)
        exact ⟨y :: q, r, rfl, by simp [h1, Ne.symm e], h2⟩
  intro w
  induction w with
  | nil => intro h; simp at h
  | cons y w ih =>
    intro h
    rw [List.count_cons] at h
    by_cases e : y = x
    · subst e
      simp at h
      obtain ⟨q, r, rfl, h1, h2⟩ := one w h
      exact ⟨[], q, r, rfl, by simp, h1, h2⟩
    · rw [if_neg (by simpa using e)] at h
      obtain ⟨p, q, r, rfl, h1, h2, h3⟩ := ih (by omega)
      exact ⟨y :: p, q, r, rfl, by simp [h1, Ne.symm e], h2, h3⟩
/-- What stands between the two places of a letter. -/
def midL (x : Int) (w : List Int) : List Int := (w.drop (w.idxOf x + 1)).takeWhile (fun y => y != x)
theorem idx_parts {x : Int} {p t : List Int} (h : x ∉ p) : (p ++ x :: t).idxOf x = p.length := by
  rw [List.idxOf_append, if_neg h]
  simp
theorem mid_parts {x : Int} {p q r : List Int} (h1 : x ∉ p) (h2 : x ∉ q) : midL x (p ++ x :: (q ++ x :: r)) = q := by
  unfold midL
  rw [idx_parts h1, show p.length + 1 = (p ++ [x]).length by simp, show p ++ x :: (q ++ x :: r) = (p ++ [x]) ++ (q ++ x :: r) by simp, List.drop_left]
  rw [List.takeWhile_append_of_pos (fun y hy => by simpa using fun e : y = x => h2 (e ▸ hy))]
  simp
/-- Two letters of a loop that are interlaced. -/
def lacedL (w : List Int) (a b : Int) : Bool := (midL a w).count b == 1
theorem laced_self {w : List Int} {a : Int} (h : w.count a = 2) : lacedL w a a = false := by
  obtain ⟨p, q, r, rfl, h1, h2, h3⟩ := two_parts a w h
  unfold lacedL
  rw [mid_parts h1 h2, List.count_eq_zero.2 h2]
  rfl
theorem laced_comm1 {w : List Int} {a b : Int} (ha : w.count a = 2) (hb : w.count b = 2) (h : lacedL w a b = true) : lacedL w b a = true := by
  have hne : a ≠ b := fun e => by subst e; rw [laced_self ha] at h; cases h
  obtain ⟨p, q, r, rfl, h1, h2, h3⟩ := two_parts a w ha
  unfold lacedL at h ⊢
  rw [mid_parts h1 h2, beq_iff_eq] at h
  have split1 : ∀ l : List Int, l.count b = 1 → ∃ u v, l = u ++ b :: v ∧ b ∉ u ∧ b ∉ v := by
    intro l hl
    have hm : b ∈ l := List.count_pos_iff.1 (by omega)
    obtain ⟨u, v, rfl⟩ := List.append_of_mem hm
    rw [List.count_append, List.count_cons_self] at hl
    exact ⟨u, v, rfl, List.count_eq_zero.1 (by omega), List.count_eq_zero.1 (by omega)⟩
  have hab : (a == b) = false := by simpa using hne
  rw [List.count_append, List.count_cons, List.count_append, List.count_cons, hab] at hb
  simp only [Bool.false_eq_true, if_false, Nat.add_zero] at hb
  obtain ⟨q1, q2, rfl, hq1, hq2⟩ := split1 q h
  have ca : ∀ l : List Int, a ∉ l → l.count a = 0 := fun l hl => List.count_eq_zero.2 hl
  simp only [List.mem_append, List.mem_cons, not_or] at h2
  by_cases hp : p.count b = 1
  · obtain ⟨p1, p2, rfl, hp1, hp2⟩ := split1 p hp
    simp only [List.mem_append, List.mem_cons, not_or] at h1
    rw [show p1 ++ b :: p2 ++ a :: (q1 ++ b :: q2 ++ a :: r) = p1 ++ b :: ((p2 ++ a :: q1) ++ b :: (q2 ++ a :: r)) by simp]
    rw [mid_parts hp1 (by simp [hp2, hq1, Ne.symm hne]), List.count_append, List.count_cons_self, ca _ h1.2.2, ca _ h2.1]
    rfl
  · obtain ⟨r1, r2, rfl, hr1, hr2⟩ := split1 r (by omega)
    simp only [List.mem_append, List.mem_cons, not_or] at h3
    have hp0 : b ∉ p := List.count_eq_zero.1 (by omega)
    rw [show p ++ a :: (q1 ++ b :: q2 ++ a :: (r1 ++ b :: r2)) = (p ++ a :: q1) ++ b :: ((q2 ++ a :: r1) ++ b :: r2) by simp]
    rw [mid_parts (by simp [hp0, hq1, Ne.symm hne]) (by simp [hq2, hr1, Ne.symm hne]), List.count_append, List.count_cons_self, ca _ h2.2.2, ca _ h3.1]
    rfl
theorem laced_comm {w : List Int} {a b : Int} (ha : w.count a = 2) (hb : w.count b = 2) : lacedL w a b = lacedL w b a := by
  cases h : lacedL w a b with
  | true => exact (laced_comm1 ha hb h).symm
  | false =>
    cases h2 : lacedL w b a with
    | true => rw [laced_comm1 hb ha h2] at h; cases h
    | false => rfl

/-- The letters from x on, d of them, for which p holds. -/
def lettP (p : Int → Bool) (x : Int) : Nat → List Int
  | 0 => []
  | d + 1 => if p x = true then x :: lettP p (x + 1) d else lettP p (x + 1) d
theorem lettP_length (p : Int → Bool) : ∀ (d : Nat) (x : Int), (lettP p x d).length ≤ d
  | 0, _ => by simp [lettP]
  | d + 1, x => by
    have := lettP_length p d (x + 1)
    unfold lettP
    split <;> simp <;> omega
theorem lettP_congr (p q : Int → Bool) : ∀ (d : Nat) (x : Int), (∀ y, x ≤ y → y < x + d → p y = q y) → lettP p x d = lettP q x d
  | 0, _, _ => rfl
  | d + 1, x, h => by
    rw [lettP, lettP, h x (by omega) (by omega), lettP_congr p q d (x + 1) (fun y h1 h2 => h y (by omega) (by omega))]
theorem lettP_nil (p : Int → Bool) : ∀ (d : Nat) (x : Int), lettP p x d = [] ↔ ∀ y, x ≤ y → y < x + d → p y = false
  | 0, x => by simp [lettP]; intro y h1 h2; omega
  | d + 1, x => by
    unfold lettP
    cases hp : p x with
    | true => simp; exact ⟨x, by omega, by omega, hp⟩
    | false =>
      simp only [Bool.false_eq_true, if_false]
      rw [lettP_nil p d (x + 1)]
      constructor
      · intro h y h1 h2
        by_cases e : y = x
        · subst e; exact hp
        · exact h y (by omega) (by omega)
      · intro h y h1 h2; exact h y (by omega) (by omega)
/-- All letters that are interlaced with one. -/
def withL (w : List Int) (m : Nat) (a : Int) : List Int := lettP (fun c => lacedL w a c) 97 m
/-- How many letters are interlaced with both of two. -/
def bothL (w : List Int) (m : Nat) (a b : Int) : Nat := (lettP (fun c => lacedL w a c && lacedL w b c) 97 m).length
theorem both_comm (w : List Int) (m : Nat) (a b : Int) : bothL w m a b = bothL w m b a := by
  unfold bothL
  rw [lettP_congr _ (fun c => lacedL w b c && lacedL w a c) m 97 (fun y _ _ => Bool.and_comm _ _)]
def evenL (w : List Int) (m : Nat) : Bool := (lettP (fun c => (withL w m c).length % 2 == 1) 97 m) == []
end Go.Proofs.YtkfllbbpclgffaaDoor.M

-- Written by a program for this claim.
namespace Go.Proofs.YtkfllbbpclgffaaDoor.Pr
open Go.RowKit Go.Proofs.YtkfllbbpclgffaaDoorW.PrintWords Go.Proofs.YtkfllbbpclgffaaDoorW.PrintLast Go.Proofs.YtkfllbbpclgffaaDoorW.PrintMore
attribute [local go_sem] max2_int min2_int max_two min_two max_three min_three max_four min_four   -- for this text's walks alone
set_option linter.unusedVariables false
set_option linter.unusedSimpArgs false

/-! ### impl_lettersOf: function 48 -/
def impl_lettersOf.f (a0 : ByteArray) : Option (ByteArray) := if 0 ≤ (wrap64 ((a0.size : Int) / 2)) then (if (wrap64 ((a0.size : Int) / 2)) ≤ 8 then (some ((⟨#[97, 98, 99, 100, 101, 102, 103, 104]⟩ : ByteArray).extract 0 ((wrap64 ((a0.size : Int) / 2)) : Int).toNat)) else (none)) else (none)
set_option maxHeartbeats 8000000 in
set_option maxRecDepth 100000 in
theorem impl_lettersOf.calls (a0 : ByteArray) (r : ByteArray) (w : World) (h : impl_lettersOf.f a0 = some r) :
    Calls Tryd.prog 48 #[.string a0] w fun e w' => e = .returned (.string r) ∧ Drawn0 w w' := by
  have H : (if 0 ≤ (wrap64 ((a0.size : Int) / 2)) then (if (wrap64 ((a0.size : Int) / 2)) ≤ 8 then (some ((⟨#[97, 98, 99, 100, 101, 102, 103, 104]⟩ : ByteArray).extract 0 ((wrap64 ((a0.size : Int) / 2)) : Int).toNat)) else (none)) else (none)) = some r := h
  clear h
  obtain ⟨ji2, hji2⟩ : ∃ j_ : Int, (wrap64 ((a0.size : Int) / 2)) = j_ := ⟨_, rfl⟩
  replace H : (if 0 ≤ (ji2) then (if (ji2) ≤ 8 then (some ((⟨#[97, 98, 99, 100, 101, 102, 103, 104]⟩ : ByteArray).extract 0 ((ji2) : Int).toNat)) else (none)) else (none)) = some r := by first | (rw [hji2] at H; exact H) | (simp only [hji2] at H ⊢; exact H)
  have hji2w : (IntKind.i64.wrap ((a0.size : Int) / 2)) = ji2 := (i64_w _).trans hji2
  by_cases c3 : 0 ≤ (ji2)
  · rw [if_pos c3] at H
    have c3b0 := eq_true c3
    have c3b1 : decide (0 ≤ (ji2)) = true := decide_eq_true c3
    clear c3
    by_cases c4 : (ji2) ≤ 8
    · rw [if_pos c4] at H
      have c4b0 := eq_true c4
      have c4b1 : decide ((ji2) ≤ 8) = true := decide_eq_true c4
      clear c4
      obtain rfl := Option.some.inj H
      go_enter Tryd.func48, Tryd.ntmps48
      go_wp2
      go_ret
      exact ⟨by first | rfl | (simp; done) | (simp only [← hji2] <;> (first | rfl | simp)) | (simp [*]; done), by repeat (first | exact Drawn0.refl _ | apply Drawn0.step)⟩
    · rw [if_neg c4] at H
      exact absurd H (by simp)
  · rw [if_neg c3] at H
    exact absurd H (by simp)

end Go.Proofs.YtkfllbbpclgffaaDoor.Pr

/- What the program's lettersWith computes, for any predicate that leaves old memory as it was: the letters for which it holds. -/
namespace Go.Proofs.YtkfllbbpclgffaaDoor.Pr
open Go.RowKit Go.Proofs.YtkfllbbpclgffaaDoorW.PrintWords Go.Proofs.YtkfllbbpclgffaaDoorW.PrintLast Go.Proofs.YtkfllbbpclgffaaDoorW.PrintMore
set_option linter.unusedVariables false
set_option linter.unusedSimpArgs false

def lettS (m : Nat) : ByteArray := (⟨#[97, 98, 99, 100, 101, 102, 103, 104]⟩ : ByteArray).extract 0 m
theorem lettS_facts : ∀ m : Fin 9, bytesOf (lettS m.val) = M.abcL m.val ∧ (lettS m.val).size = m.val := by decide +kernel
theorem lettersOf_eq (w : ByteArray) (m : Nat) (h : w.size / 2 = m) (hm : m ≤ 8) : impl_lettersOf.f w = some (lettS m) := by
  unfold impl_lettersOf.f
  have e : wrap64 ((w.size : Int) / 2) = m := by unfold wrap64; omega
  rw [e, if_pos (by omega), if_pos (by omega)]
  rfl
theorem abc_get (m i : Nat) (h : i < m) : (M.abcL m)[i]? = some (97 + (i : Int)) := by
  unfold M.abcL
  simp [h]

theorem cell_grown {w w1 : World} {row : Option Nat} {B : Nat} (hg : w.grownBy w1 row) (hB : B < w.heap.size) (hne : some B ≠ row) (j : Nat) : w1.cell? ⟨B, j, none⟩ = w.cell? ⟨B, j, none⟩ := by
  have h := hg.block B hB hne
  unfold World.cell?
  simp only [h]
theorem own_ne_append {w : World} {v v1 : Value} {B : Nat} (hat : v1.ownBlock = v.ownBlock ∨ ∃ b, v1.ownBlock = some b ∧ w.heap.size ≤ b) (hn : v.ownBlock ≠ some B) (hB : B < w.heap.size) : v1.ownBlock ≠ some B := by
  rcases hat with h | ⟨b, h, hb⟩
  · rw [h]; exact hn
  · rw [h]
    intro e
    injection e with e
    omega

set_option maxHeartbeats 8000000 in
set_option maxRecDepth 100000 in
theorem lettersWith_calls (w0 : ByteArray) (m : Nat) (hm0 : w0.size / 2 = m) (hm : m ≤ 8) (p : Int → Bool) (g : Nat) (lb : Array Value) (eg : ∀ args w, (callFunc g args).run Tryd.prog w = .ok (.enter g args) w) (w : World)
    (hp : ∀ (W : World) (x : Int), 97 ≤ x → x < 97 + (m : Int) → Below w.heap.size w W → Calls Tryd.prog g (#[.int .u8 x] ++ lb) W fun e w' => e = .returned (.bool (p x)) ∧ Below W.heap.size W w') :
    Calls Tryd.prog 39 #[.string w0, .func (.func g) #[] lb] w fun e w' => e = .returned (.string (strOfNums (M.lettP p 97 m))) ∧ Below w.heap.size w w' := by
  have HP := Aside0.mk hp
  have HL := Aside0.mk (fun (W : World) => impl_lettersOf.calls w0 (lettS m) W (lettersOf_eq w0 m hm0 hm))
  obtain ⟨hbl, hls⟩ : bytesOf (lettS m) = M.abcL m ∧ (lettS m).size = m := lettS_facts ⟨m, by omega⟩
  have HBL := Aside0.mk hbl
  have HCC := Aside0.mk (fun (W : World) => bytes_C W 5 (lettS m) (by omega))
  clear hp hm0 hbl
  have HB := Aside0.mk (Below.refl w.heap.size w)
  go_enter Tryd.func39, Tryd.ntmps39
  go_wp2_with (first | (go_at_call 48; refine (HL.out _).mono ?_; rintro e w1 ⟨rfl, ⟨nd, rfl⟩⟩) | ((with_reducible refine gate_dst (N := 8) rfl ?_); refine Kd.R_lit (Kd.int .u8) _ 5 ?hg (N := 8) ?hd (xs := ([] : List Int)) (inner := []) (ok := fun _ => True) (okp := fun _ => True) ?hr ?hp (fun _ hk => hk) trivial (Below.refl _ _) (Nat.le_refl _) (by simp) ?_; (case hd => rfl); (case hg => rfl); (case hr => first | (go_simp; done) | (go_simp; rfl)); (case hp => exact (Reps.none _ _)); intro v244 w6 ho7 hb hg_ hnew_; clear hg_ hnew_; have n0_ := Aside0.mk (Kd.R_lower ho7 (below_size (by repeat (first | (with_reducible first | exact HB.out | apply below_alloc | apply pw_below_drewN | apply below_drew1) | exact HB.out)))); have n1_ := Aside0.mk (below_step (by repeat (first | (with_reducible first | exact HB.out | apply below_alloc | apply pw_below_drewN | apply below_drew1) | exact HB.out)) hb); clear HB; have HO0 := n0_; have HB := n1_; clear n0_ n1_; clear hb ho7))
  rw [print_bytes 9 35 5 Tryd.underlying9 Tryd.underlying35 Tryd.underlying5]
  simp only [Result.andThen]
  rw [Oper.upon_value]
  rw [hls]
  have hc0 := HCC.out (w6.drewN nd)
  have hb0 : Below w.heap.size w (Lib.bytesWorld (w6.drewN nd) 5 (lettS m)) := bytes_below (pw_below_drewN HB.out nd) (by show w.heap.size ≤ w6.heap.size; exact HB.out.size) 5 (lettS m)
  have hn0 : v244.ownBlock ≠ some w6.heap.size := fun e => by
    obtain ⟨inner, ho, _⟩ := HO0.out.2
    exact absurd (own_lt ho _ e) (by omega)
  have hlt0 : w6.heap.size < (Lib.bytesWorld (w6.drewN nd) 5 (lettS m)).heap.size := by
    rw [Lib.bytesWorld_size]
    show w6.heap.size < w6.heap.size + 1
    omega
  have ho0 : Kd.R (Kd.int .u8) 5 (Lib.bytesWorld (w6.drewN nd) 5 (lettS m)) w.heap.size (fun _ => True) v244 [] := Kd.R_below (Kd.R_drewN HO0.out nd) (bytes_below (Below.refl _ _) (Nat.le_refl _) 5 (lettS m))
  rw [HBL.out, M.abc_length] at hc0
  rw [show (w6.drewN nd).heap.size = w6.heap.size from rfl] at hc0 ⊢
  generalize grownCap (w6.drewN nd) m 0 5 = cp
  generalize Lib.bytesWorld (w6.drewN nd) 5 (lettS m) = W1 at hc0 hb0 ho0 hlt0 ⊢
  generalize w6.heap.size = B1 at hc0 hn0 hlt0 ⊢
  clear HO0 HB HCC HL HBL hls
  have hcells : ∀ j : Nat, j < m → W1.cell? ⟨B1, j, none⟩ = some (.int .u8 (97 + (j : Int))) := fun i hlt => by
    obtain ⟨ad, e1, hc⟩ := hc0.2.2 (by omega)
    injection e1 with e1
    subst e1
    obtain ⟨cs, h1, h2, h3⟩ := hc i (97 + (i : Int)) (abc_get m i hlt)
    have h4 := h3 0 (.int .u8 (97 + (i : Int))) (by rw [show cs = [Value.int .u8 (97 + (i : Int))] from h2]; rfl)
    have ha : (⟨B1, 0, none⟩ : Addr).add (i * (Kd.int .u8).sz + 0) = ⟨B1, i, none⟩ := by
      rw [add_plain]
      show (⟨B1, i * 1 + 0, none⟩ : Addr) = _
      rw [show i * 1 + 0 = i by omega]
    rwa [ha] at h4
  have HC1 := Aside0.mk hcells
  have HN1 := Aside0.mk hn0
  have HLT1 := Aside0.mk hlt0
  clear hcells hn0 hlt0
  have HB := Aside0.mk hb0
  have HO := Aside0.mk ho0
  clear hc0 hb0 ho0
  go_wp2
  go_loopg [5, 7, 13] m (fun gg v5 v7 v13 w' => ∃ (i : Nat) (xs : List Int), v13 = .int .i64 i ∧ Aside0 (i + gg = m) ∧ Aside0 (M.lettP p 97 m = xs ++ M.lettP p (97 + (i : Int)) gg) ∧ Aside0 (xs.length ≤ i) ∧ Aside0 (Kd.R (Kd.int .u8) 5 w' w.heap.size (fun _ => True) v5 xs) ∧ Aside0 (Below w.heap.size w w') ∧ Aside0 (∀ j : Nat, j < m → w'.cell? ⟨B1, j, none⟩ = some (.int .u8 (97 + (j : Int)))) ∧ Aside0 (v5.ownBlock ≠ some B1) ∧ Aside0 (B1 < w'.heap.size))
  case atStart => exact ⟨0, [], by first | rfl | (simp; done) | (simp [*]; done), ⟨by omega⟩, ⟨by simp⟩, ⟨by simp⟩, HO, HB, HC1, HN1, HLT1⟩
  case round =>
    obtain ⟨i, xs, rfl, HG, HX, HLen, HO2, HB2, HW2, HNB2, HLB2⟩ := hrel
    clear HB HO HC1 HN1 HLT1
    have HB := HB2
    have HO := HO2
    have HW := HW2
    have HNB := HNB2
    have HLB := HLB2
    clear HB2 HO2 HW2 HNB2 HLB2
    by_cases hlt : i < m
    · have c4b0 : decide ((i : Int) < (m : Int)) = true := decide_eq_true (by omega)
      have c5b0 : decide (i < m) = true := decide_eq_true hlt
      obtain ⟨gm, rfl⟩ : ∃ gm, gk = gm + 1 := ⟨gk - 1, by have := HG.out; omega⟩
      have h0 := HW.out i hlt
      have hcall := HP.out wr (97 + (i : Int)) (by omega) (by omega) HB.out
      have HN := Aside0.mk (show M.lettP p (97 + (i : Int)) (gm + 1) = if p (97 + (i : Int)) = true then (97 + (i : Int)) :: M.lettP p (97 + (i : Int) + 1) gm else M.lettP p (97 + (i : Int) + 1) gm from rfl)
      have hx0 : (0 : Int) ≤ 97 + (i : Int) := by omega
      have hx1 : 97 + (i : Int) < 128 := by omega
      cases hq : p (97 + (i : Int)) with
      | true =>
        rw [hq] at hcall
        have HQ := Aside0.mk hq
        clear hq
        go_wp2_with (first | (go_at_fn g; refine hcall.mono ?_; rintro e w1 ⟨rfl, hb1⟩; have HO1 := Aside0.mk (Kd.R_below HO.out hb1); have HBx := Aside0.mk (HB.out.trans (hb1.mono HB.out.size)); have HWx := Aside0.mk (fun (j : Nat) (hj : j < m) => (hb1.cell (p := ⟨B1, j, none⟩) HLB.out).trans (HW.out j hj)); have HLx := Aside0.mk (Nat.lt_of_lt_of_le HLB.out hb1.size); clear HO HB HW HLB; have HO := HO1; have HB := HBx; have HW := HWx; have HLB := HLx; clear HO1 HBx HWx HLx hb1) | ((with_reducible refine gate_builtin (b := .append) (xs := #[.tmp 20, .tmp 22]) rfl ?_); at_builtin; refine Kd.R_append (Kd.int .u8) (w0 := w) w.heap.size rfl (.tmp 20) (.tmp 22) 35 5 (.int .u8 0) 1 rfl Tryd.underlying35 info5 rfl (by decide) (by omega) u5 xs (97 + (i : Int)) [.int .u8 (97 + (i : Int))] (fun _ => True) (fun _ => False) rfl rfl ?aP (fun _ hk => hk.elim) ?aF ?aO ?aB ?aS ?aL ?_; (case aP => exact rfl); (case aB => exact (by repeat (first | (with_reducible first | exact HB.out | apply below_alloc | apply pw_below_drewN | apply below_drew1) | exact HB.out))); (case aF => exact (fun _ _ => trivial)); (case aO => exact (by (with_reducible repeat (first | apply Kd.R_alloc | apply Kd.R_drewN | apply Kd.R_drew)); exact HO.out)); (case aS => exact (below_size (by repeat (first | (with_reducible first | exact HB.out | apply below_alloc | apply pw_below_drewN | apply below_drew1) | exact HB.out)))); (case aL => have := HLen.out; omega); intro v361 w25 ho hb hg hat; have n0_ := Aside0.mk (hb); have n1_ := Aside0.mk (ho); have HWx := Aside0.mk (fun (j : Nat) (hj : j < m) => (cell_grown hg HLB.out (fun e => HNB.out e.symm) j).trans (HW.out j hj)); have HLx := Aside0.mk (Nat.lt_of_lt_of_le HLB.out hg.size); have HNx := Aside0.mk (own_ne_append hat HNB.out HLB.out); clear HB HO HW HLB HNB; have HB := n0_; have HO := n1_; have HW := HWx; have HLB := HLx; have HNB := HNx; clear n0_ n1_ HWx HLx HNx; clear ho hat hb hg))
        go_roundg gm
        case measure => omega
        case rel => exact ⟨i + 1, xs ++ [97 + (i : Int)], by first | rfl | (simp; done) | (simp [*]; done), ⟨by have := HG.out; omega⟩, ⟨by rw [HX.out, HN.out, if_pos HQ.out, List.append_assoc, show (97 : Int) + ((i + 1 : Nat) : Int) = 97 + (i : Int) + 1 by omega]; rfl⟩, ⟨by have := HLen.out; simp; omega⟩, HO, HB, HW, HNB, HLB⟩
      | false =>
        rw [hq] at hcall
        have HQ := Aside0.mk hq
        clear hq
        go_wp2_with (first | (go_at_fn g; refine hcall.mono ?_; rintro e w1 ⟨rfl, hb1⟩; have HO1 := Aside0.mk (Kd.R_below HO.out hb1); have HBx := Aside0.mk (HB.out.trans (hb1.mono HB.out.size)); have HWx := Aside0.mk (fun (j : Nat) (hj : j < m) => (hb1.cell (p := ⟨B1, j, none⟩) HLB.out).trans (HW.out j hj)); have HLx := Aside0.mk (Nat.lt_of_lt_of_le HLB.out hb1.size); clear HO HB HW HLB; have HO := HO1; have HB := HBx; have HW := HWx; have HLB := HLx; clear HO1 HBx HWx HLx hb1))
        go_roundg gm
        case measure => omega
        case rel => exact ⟨i + 1, xs, by first | rfl | (simp; done) | (simp [*]; done), ⟨by have := HG.out; omega⟩, ⟨by rw [HX.out, HN.out, if_neg (by rw [HQ.out]; simp), show (97 : Int) + ((i + 1 : Nat) : Int) = 97 + (i : Int) + 1 by omega]⟩, ⟨by have := HLen.out; omega⟩, HO, HB, HW, HNB, HLB⟩
    · have c4b0 : decide ((i : Int) < (m : Int)) = false := decide_eq_false (by omega)
      have c5b0 : decide (i < m) = false := decide_eq_false hlt
      have HE := Aside0.mk (show M.lettP p 97 m = xs from by
        have h0 : gk = 0 := by have := HG.out; omega
        rw [HX.out, h0]
        simp [M.lettP])
      have hcv := own_string (P := Tryd.prog) Tryd.underlying35 Tryd.underlying5 Tryd.underlying9 (Kd.own_of_R HO.out)
      clear HX HG HLen
      go_wp2
      go_ret
      exact ⟨by rw [HE.out]; rfl, HB.out⟩
end Go.Proofs.YtkfllbbpclgffaaDoor.Pr

/-
  DERIVED: THE SHELF's CONTRACTS AT THIS DUMP, IN PLAIN WORDS (tools/lay-plain.mjs out of 'YtkfllbbpclgffaaDoorStrLay.lean', which tools/lay-shelf.mjs wrote): THE SAME DECLARATIONS UNDER THE SAME NAMES: 'import', 'namespace', 'open', 'def', 'theorem' AND NOTHING ELSE: no command of the shelf's: FOR A HAND-IN. Each laying: the table of numbers ('.._ren') and one theorem, a field a fact of the dump's own or the kernel's comparison; each contract: ONE APPLICATION.
-/
namespace Go.Proofs
open Go.Shelf
def Tryd.l137_ren : Go.Shelf.Ren := ⟨fun | 137 => 36 | 217 => 52 | 266 => 66 | n => n, fun | 9 => 9 | 5 => 5 | 3 => 3 | n => n, fun | n => n⟩
theorem Tryd.l137 : Go.Proofs.Lays.n137 Tryd.prog Tryd.l137_ren := {
  mixed := by kernel_rfl
  f137 := Tryd.func36.trans (congrArg some (by kernel_rfl))
  f217 := Tryd.func52.trans (congrArg some (by kernel_rfl))
  f266 := Tryd.func66.trans (congrArg some (by kernel_rfl))
  t3 := Tryd.underlying3
  a3 := Tryd.isAgg3
  z3 := Tryd.sizeOf3
  v3 := Tryd.zeroValue3
  t5 := Tryd.underlying5
  a5 := Tryd.isAgg5
  z5 := Tryd.sizeOf5
  v5 := Tryd.zeroValue5
  t9 := Tryd.underlying9
  a9 := Tryd.isAgg9
  z9 := Tryd.sizeOf9
  v9 := Tryd.zeroValue9 }
def Tryd.l149_ren : Go.Shelf.Ren := ⟨fun | 149 => 37 | 222 => 53 | n => n, fun | 9 => 9 | 5 => 5 | 3 => 3 | 4 => 4 | n => n, fun | n => n⟩
theorem Tryd.l149 : Go.Proofs.Lays.n149 Tryd.prog Tryd.l149_ren := {
  mixed := by kernel_rfl
  f149 := Tryd.func37.trans (congrArg some (by kernel_rfl))
  f222 := Tryd.func53.trans (congrArg some (by kernel_rfl))
  t3 := Tryd.underlying3
  a3 := Tryd.isAgg3
  z3 := Tryd.sizeOf3
  v3 := Tryd.zeroValue3
  t4 := Tryd.underlying4
  a4 := Tryd.isAgg4
  z4 := Tryd.sizeOf4
  v4 := Tryd.zeroValue4
  t5 := Tryd.underlying5
  a5 := Tryd.isAgg5
  z5 := Tryd.sizeOf5
  v5 := Tryd.zeroValue5
  t9 := Tryd.underlying9
  a9 := Tryd.isAgg9
  z9 := Tryd.sizeOf9
  v9 := Tryd.zeroValue9 }
def Tryd.l160_ren : Go.Shelf.Ren := ⟨fun | 160 => 41 | 232 => 57 | 231 => 56 | 227 => 58 | 234 => 60 | 233 => 59 | 236 => 62 | 235 => 61 | 228 => 67 | 271 => 70 | 151 => 69 | 197 => 68 | 120 => 76 | 152 => 75 | 260 => 74 | 137 => 36 | 119 => 78 | 224 => 72 | 225 => 71 | 217 => 52 | 266 => 66 | n => n, fun | 9 => 9 | 4 => 4 | 3 => 3 | 5 => 5 | 117 => 53 | 116 => 52 | 0 => 0 | 124 => 56 | 21 => 21 | 105 => 58 | 46 => 62 | 119 => 67 | 139 => 70 | 138 => 69 | n => n, fun | 3 => 1 | 4 => 2 | n => n⟩
theorem Tryd.l160 : Go.Proofs.Lays.n160 Tryd.prog Tryd.l160_ren := {
  mixed := by kernel_rfl
  f119 := Tryd.func78.trans (congrArg some (by kernel_rfl))
  f120 := Tryd.func76.trans (congrArg some (by kernel_rfl))
  f137 := Tryd.func36.trans (congrArg some (by kernel_rfl))
  f151 := Tryd.func69.trans (congrArg some (by kernel_rfl))
  f152 := Tryd.func75.trans (congrArg some (by kernel_rfl))
  f160 := Tryd.func41.trans (congrArg some (by kernel_rfl))
  f197 := Tryd.func68.trans (congrArg some (by kernel_rfl))
  f217 := Tryd.func52.trans (congrArg some (by kernel_rfl))
  f224 := Tryd.func72.trans (congrArg some (by kernel_rfl))
  f225 := Tryd.func71.trans (congrArg some (by kernel_rfl))
  f227 := Tryd.func58.trans (congrArg some (by kernel_rfl))
  f228 := Tryd.func67.trans (congrArg some (by kernel_rfl))
  f231 := Tryd.func56.trans (congrArg some (by kernel_rfl))
  f232 := Tryd.func57.trans (congrArg some (by kernel_rfl))
  f233 := Tryd.func59.trans (congrArg some (by kernel_rfl))
  f234 := Tryd.func60.trans (congrArg some (by kernel_rfl))
  f235 := Tryd.func61.trans (congrArg some (by kernel_rfl))
  f236 := Tryd.func62.trans (congrArg some (by kernel_rfl))
  f260 := Tryd.func74.trans (congrArg some (by kernel_rfl))
  f266 := Tryd.func66.trans (congrArg some (by kernel_rfl))
  f271 := Tryd.func70.trans (congrArg some (by kernel_rfl))
  t0 := Tryd.underlying0
  a0 := Tryd.isAgg0
  z0 := Tryd.sizeOf0
  v0 := Tryd.zeroValue0
  t3 := Tryd.underlying3
  a3 := Tryd.isAgg3
  z3 := Tryd.sizeOf3
  v3 := Tryd.zeroValue3
  t4 := Tryd.underlying4
  a4 := Tryd.isAgg4
  z4 := Tryd.sizeOf4
  v4 := Tryd.zeroValue4
  t5 := Tryd.underlying5
  a5 := Tryd.isAgg5
  z5 := Tryd.sizeOf5
  v5 := Tryd.zeroValue5
  t9 := Tryd.underlying9
  a9 := Tryd.isAgg9
  z9 := Tryd.sizeOf9
  v9 := Tryd.zeroValue9
  t21 := Tryd.underlying21
  a21 := Tryd.isAgg21
  z21 := Tryd.sizeOf21
  v21 := Tryd.zeroValue21
  t46 := Tryd.underlying62
  a46 := Tryd.isAgg62
  z46 := Tryd.sizeOf62
  v46 := Tryd.zeroValue62
  t105 := Tryd.underlying58
  a105 := Tryd.isAgg58
  z105 := Tryd.sizeOf58
  v105 := Tryd.zeroValue58
  t116 := Tryd.underlying52
  a116 := Tryd.isAgg52
  z116 := Tryd.sizeOf52
  t117 := Tryd.underlying53
  a117 := Tryd.isAgg53
  z117 := Tryd.sizeOf53
  v117 := Tryd.zeroValue53
  t119 := Tryd.underlying67
  a119 := Tryd.isAgg67
  z119 := Tryd.sizeOf67
  t124 := Tryd.underlying56
  a124 := Tryd.isAgg56
  z124 := Tryd.sizeOf56
  v124 := Tryd.zeroValue56
  t138 := Tryd.underlying69
  a138 := Tryd.isAgg69
  z138 := Tryd.sizeOf69
  v138 := Tryd.zeroValue69
  t139 := Tryd.underlying70
  a139 := Tryd.isAgg70
  z139 := Tryd.sizeOf70
  v139 := Tryd.zeroValue70
  g3 := by kernel_rfl
  g4 := by kernel_rfl }
def Tryd.l138_ren : Go.Shelf.Ren := ⟨fun | 138 => 38 | 195 => 54 | 218 => 55 | 143 => 51 | 219 => 65 | 217 => 52 | 225 => 71 | 224 => 72 | 267 => 73 | 266 => 66 | 314 => 77 | n => n, fun | 9 => 9 | 3 => 3 | 4 => 4 | 5 => 5 | 0 => 0 | 46 => 62 | 146 => 65 | 51 => 64 | n => n, fun | 1 => 0 | n => n⟩
theorem Tryd.l138 : Go.Proofs.Lays.n138 Tryd.prog Tryd.l138_ren := {
  mixed := by kernel_rfl
  f138 := Tryd.func38.trans (congrArg some (by kernel_rfl))
  f143 := Tryd.func51.trans (congrArg some (by kernel_rfl))
  f195 := Tryd.func54.trans (congrArg some (by kernel_rfl))
  f217 := Tryd.func52.trans (congrArg some (by kernel_rfl))
  f218 := Tryd.func55.trans (congrArg some (by kernel_rfl))
  f219 := Tryd.func65.trans (congrArg some (by kernel_rfl))
  f224 := Tryd.func72.trans (congrArg some (by kernel_rfl))
  f225 := Tryd.func71.trans (congrArg some (by kernel_rfl))
  f266 := Tryd.func66.trans (congrArg some (by kernel_rfl))
  f267 := Tryd.func73.trans (congrArg some (by kernel_rfl))
  f314 := Tryd.func77.trans (congrArg some (by kernel_rfl))
  t0 := Tryd.underlying0
  a0 := Tryd.isAgg0
  z0 := Tryd.sizeOf0
  v0 := Tryd.zeroValue0
  t3 := Tryd.underlying3
  a3 := Tryd.isAgg3
  z3 := Tryd.sizeOf3
  v3 := Tryd.zeroValue3
  t4 := Tryd.underlying4
  a4 := Tryd.isAgg4
  z4 := Tryd.sizeOf4
  v4 := Tryd.zeroValue4
  t5 := Tryd.underlying5
  a5 := Tryd.isAgg5
  z5 := Tryd.sizeOf5
  v5 := Tryd.zeroValue5
  t9 := Tryd.underlying9
  a9 := Tryd.isAgg9
  z9 := Tryd.sizeOf9
  v9 := Tryd.zeroValue9
  t46 := Tryd.underlying62
  a46 := Tryd.isAgg62
  z46 := Tryd.sizeOf62
  v46 := Tryd.zeroValue62
  t51 := Tryd.underlying64
  a51 := Tryd.isAgg64
  z51 := Tryd.sizeOf64
  v51 := Tryd.zeroValue64
  t146 := Tryd.underlying65
  a146 := Tryd.isAgg65
  z146 := Tryd.sizeOf65
  v146 := Tryd.zeroValue65
  g1 := by kernel_rfl }
def Tryd.l144_ren : Go.Shelf.Ren := ⟨fun | 144 => 35 | 143 => 51 | 219 => 65 | 217 => 52 | 225 => 71 | 224 => 72 | 267 => 73 | 266 => 66 | 314 => 77 | n => n, fun | 9 => 9 | 4 => 4 | 3 => 3 | 5 => 5 | 46 => 62 | 146 => 65 | 51 => 64 | n => n, fun | 1 => 0 | n => n⟩
theorem Tryd.l144 : Go.Proofs.Lays.n144 Tryd.prog Tryd.l144_ren := {
  mixed := by kernel_rfl
  f143 := Tryd.func51.trans (congrArg some (by kernel_rfl))
  f144 := Tryd.func35.trans (congrArg some (by kernel_rfl))
  f217 := Tryd.func52.trans (congrArg some (by kernel_rfl))
  f219 := Tryd.func65.trans (congrArg some (by kernel_rfl))
  f224 := Tryd.func72.trans (congrArg some (by kernel_rfl))
  f225 := Tryd.func71.trans (congrArg some (by kernel_rfl))
  f266 := Tryd.func66.trans (congrArg some (by kernel_rfl))
  f267 := Tryd.func73.trans (congrArg some (by kernel_rfl))
  f314 := Tryd.func77.trans (congrArg some (by kernel_rfl))
  t3 := Tryd.underlying3
  a3 := Tryd.isAgg3
  z3 := Tryd.sizeOf3
  v3 := Tryd.zeroValue3
  t4 := Tryd.underlying4
  a4 := Tryd.isAgg4
  z4 := Tryd.sizeOf4
  v4 := Tryd.zeroValue4
  t5 := Tryd.underlying5
  a5 := Tryd.isAgg5
  z5 := Tryd.sizeOf5
  v5 := Tryd.zeroValue5
  t9 := Tryd.underlying9
  a9 := Tryd.isAgg9
  z9 := Tryd.sizeOf9
  v9 := Tryd.zeroValue9
  t46 := Tryd.underlying62
  a46 := Tryd.isAgg62
  z46 := Tryd.sizeOf62
  v46 := Tryd.zeroValue62
  t51 := Tryd.underlying64
  a51 := Tryd.isAgg64
  z51 := Tryd.sizeOf64
  v51 := Tryd.zeroValue64
  t146 := Tryd.underlying65
  a146 := Tryd.isAgg65
  z146 := Tryd.sizeOf65
  v146 := Tryd.zeroValue65
  g1 := by kernel_rfl }
end Go.Proofs

/- What the library's string functions compute: a byte's first and last place, its number, and a cut at both ends. -/
namespace Go.Proofs.YtkfllbbpclgffaaDoor.Pr
open Go.RowKit Go.Proofs.YtkfllbbpclgffaaDoorW.PrintWords Go.Proofs.YtkfllbbpclgffaaDoorW.PrintLast Go.Proofs.YtkfllbbpclgffaaDoorW.PrintMore
set_option linter.unusedVariables false
set_option linter.unusedSimpArgs false

def strings_IndexByte.f (a0 : ByteArray) (a1 : Int) : Option (Int) := some (Lib.indexByte a0.data.toList a1.toNat.toUInt8)
theorem strings_IndexByte.calls (a0 : ByteArray) (a1 : Int) (r : Int) (w : World) (h : strings_IndexByte.f a0 a1 = some r) :
    Calls Tryd.prog 36 #[.string a0, .int .u8 a1] w fun e w' => e = .returned (.int .i64 r) ∧ Drawn0 w w' := by
  obtain rfl := Option.some.inj h
  exact (Any.strings_IndexByte Tryd.l137 a0 a1 w).mono fun e w' ⟨he, hw⟩ => ⟨he, hw ▸ Drawn0.refl _⟩
def strings_LastIndexByte.f (a0 : ByteArray) (a1 : Int) : Option (Int) := if a0.size ≤ 1048576 then some (Lib.lastIndexByte a0 a1) else none
theorem strings_LastIndexByte.calls (a0 : ByteArray) (a1 : Int) (r : Int) (w : World) (h : strings_LastIndexByte.f a0 a1 = some r) :
    Calls Tryd.prog 37 #[.string a0, .int .u8 a1] w fun e w' => e = .returned (.int .i64 r) ∧ Drawn0 w w' := by
  unfold strings_LastIndexByte.f at h
  by_cases hs : a0.size ≤ 1048576
  · rw [if_pos hs] at h
    obtain rfl := Option.some.inj h
    exact (Any.strings_LastIndexByte Tryd.l149 a0 a1 (by omega) w).mono fun e w' ⟨he, hw⟩ => ⟨he, hw ▸ Drawn0.refl _⟩
  · rw [if_neg hs] at h; cases h
/-- A text of one byte. -/
theorem one_byte {s : ByteArray} (h : s.data.toList.length = 1) : s = ⟨#[s.data.toList.headD 0]⟩ := by
  obtain ⟨⟨l⟩⟩ := s
  match l, h with
  | [c], _ => rfl
def strings_Count.f (a0 : ByteArray) (a1 : ByteArray) : Option (Int) := if a1.data.toList.length = 1 then some ((a0.data.toList.count (a1.data.toList.headD 0) : Nat) : Int) else none
theorem strings_Count.calls (a0 : ByteArray) (a1 : ByteArray) (r : Int) (w : World) (h : strings_Count.f a0 a1 = some r) :
    Calls Tryd.prog 38 #[.string a0, .string a1] w fun e w' => e = .returned (.int .i64 r) ∧ Drawn0 w w' := by
  unfold strings_Count.f at h
  by_cases hs : a1.data.toList.length = 1
  · rw [if_pos hs] at h
    obtain rfl := Option.some.inj h
    have e := one_byte hs
    generalize a1.data.toList.headD 0 = c at e ⊢
    subst e
    exact (Any.strings_Count_one Tryd.l138 a0 c w).mono fun e w' ⟨he, hw⟩ => ⟨he, hw ▸ Drawn0.refl _⟩
  · rw [if_neg hs] at h; cases h
def strings_Contains.f (a0 : ByteArray) (a1 : ByteArray) : Option (Bool) := if a1.data.toList.length = 1 then some (decide (0 ≤ Lib.indexByte a0.data.toList (a1.data.toList.headD 0))) else none
theorem strings_Contains.calls (a0 : ByteArray) (a1 : ByteArray) (r : Bool) (w : World) (h : strings_Contains.f a0 a1 = some r) :
    Calls Tryd.prog 35 #[.string a0, .string a1] w fun e w' => e = .returned (.bool r) ∧ Drawn0 w w' := by
  unfold strings_Contains.f at h
  by_cases hs : a1.data.toList.length = 1
  · rw [if_pos hs] at h
    obtain rfl := Option.some.inj h
    have e := one_byte hs
    generalize a1.data.toList.headD 0 = c at e ⊢
    subst e
    exact (Any.strings_Contains_one Tryd.l144 a0 c w).mono fun e w' ⟨he, hw⟩ => ⟨he, hw ▸ Drawn0.refl _⟩
  · rw [if_neg hs] at h; cases h
end Go.Proofs.YtkfllbbpclgffaaDoor.Pr

/- What the library's Trim computes at the first eight letters. -/
namespace Go.Proofs.YtkfllbbpclgffaaDoor.Pr
open Go.RowKit Go.Proofs.YtkfllbbpclgffaaDoorW.PrintWords Go.Proofs.YtkfllbbpclgffaaDoorW.PrintLast Go.Proofs.YtkfllbbpclgffaaDoorW.PrintMore
set_option linter.unusedVariables false
set_option linter.unusedSimpArgs false

def strings_Trim.f (a0 : ByteArray) (a1 : ByteArray) : Option (ByteArray) := if a0.size ≤ 1048576 ∧ a1 = ⟨#[97, 98, 99, 100, 101, 102, 103, 104]⟩ then some ⟨(Lib.trimS a0.data.toList [97, 98, 99, 100, 101, 102, 103, 104]).toArray⟩ else none
theorem strings_Trim.calls (a0 : ByteArray) (a1 : ByteArray) (r : ByteArray) (w : World) (h : strings_Trim.f a0 a1 = some r) :
    Calls Tryd.prog 41 #[.string a0, .string a1] w fun e w' => e = .returned (.string r) ∧ Below w.heap.size w w' := by
  unfold strings_Trim.f at h
  by_cases hs : a0.size ≤ 1048576 ∧ a1 = ⟨#[97, 98, 99, 100, 101, 102, 103, 104]⟩
  · rw [if_pos hs] at h
    obtain rfl := Option.some.inj h
    obtain ⟨h1, rfl⟩ := hs
    exact Any.strings_Trim_laid Tryd.l160 (by kernel_rfl) a0 _ w (by omega) (by decide) (ascii_of_all (by decide))
  · rw [if_neg hs] at h; cases h
end Go.Proofs.YtkfllbbpclgffaaDoor.Pr

-- Written by a program for this claim.
namespace Go.Proofs.YtkfllbbpclgffaaDoor.Pr
open Go.RowKit Go.Proofs.YtkfllbbpclgffaaDoorW.PrintWords Go.Proofs.YtkfllbbpclgffaaDoorW.PrintLast Go.Proofs.YtkfllbbpclgffaaDoorW.PrintMore
attribute [local go_sem] max2_int min2_int max_two min_two max_three min_three max_four min_four   -- for this text's walks alone
set_option linter.unusedVariables false
set_option linter.unusedSimpArgs false

/-! ### impl_named: function 42 -/
def impl_named.l0 : Nat → ByteArray → ByteArray → List Int → Int → Int → Option (ByteArray)
  | 0, _, _, _, _, _ => none
  | k + 1, x0, x3, x4, x9, x10 => if x10 < x9 then (if 0 ≤ x10 then (if x10 < (x0.size : Int) then ((strings_IndexByte.f x3 (bt x0 x10)).bind fun t104 => (if t104 < 0 then (if x10 ≤ (wrap64 (x10 + 1)) then (if (wrap64 (x10 + 1)) ≤ (x0.size : Int) then (if x3.size + (x0.extract (x10 : Int).toNat ((wrap64 (x10 + 1)) : Int).toNat).size ≤ 9223372036854775807 then (if x4.length < 140737488355328 then (impl_named.l0 k x0 (x3 ++ (x0.extract (x10 : Int).toNat ((wrap64 (x10 + 1)) : Int).toNat)) (x4 ++ [(97 + ((x3.size : Int))) % 256]) x9 (wrap64 (x10 + 1))) else (none)) else (none)) else (none)) else (none)) else (if x4.length < 140737488355328 then (impl_named.l0 k x0 x3 (x4 ++ [(97 + (t104)) % 256]) x9 (wrap64 (x10 + 1))) else (none)))) else (none)) else (none)) else (some (strOfNums x4))
def impl_named.f (k : Nat) (a0 : ByteArray) : Option (ByteArray) := impl_named.l0 k a0 (⟨#[]⟩ : ByteArray) (([] : List Int)) (a0.size : Int) 0
theorem impl_named.mono_l : ∀ k, (∀ y0 y1 y2 y3 y4, LeO (impl_named.l0 k y0 y1 y2 y3 y4) (impl_named.l0 (k + 1) y0 y1 y2 y3 y4))
  | 0 => fun _ _ _ _ _ r h => by simp [impl_named.l0] at h
  | k + 1 => by
    have ih0 := impl_named.mono_l k
    · intro y0 y1 y2 y3 y4
      unfold impl_named.l0
      repeat' first
      | (with_reducible exact ih0 _ _ _ _ _)
      | (with_reducible exact LeO.refl _)
      | (with_reducible exact LeO.none _)
      | (with_reducible refine LeO.ite ?_ ?_)
      | (with_reducible refine LeO.bind ?_ (fun _ => ?_))
      | exact ih0 _ _ _ _ _
      | exact LeO.none _
      | refine LeO.ite ?_ ?_
      | refine LeO.bind ?_ (fun _ => ?_)
theorem impl_named.mono : ∀ a0 k, LeO (impl_named.f k a0) (impl_named.f (k + 1) a0) := by
  intro a0 k
  have ih0 := impl_named.mono_l k
  unfold impl_named.f
  repeat' first
      | (with_reducible exact ih0 _ _ _ _ _)
      | (with_reducible exact LeO.refl _)
      | (with_reducible exact LeO.none _)
      | (with_reducible refine LeO.ite ?_ ?_)
      | (with_reducible refine LeO.bind ?_ (fun _ => ?_))
      | exact ih0 _ _ _ _ _
      | exact LeO.none _
      | refine LeO.ite ?_ ?_
      | refine LeO.bind ?_ (fun _ => ?_)
set_option maxHeartbeats 8000000 in
set_option maxRecDepth 100000 in
theorem impl_named.calls (k : Nat) (a0 : ByteArray) (r : ByteArray) (w : World) (h : impl_named.f k a0 = some r) :
    Calls Tryd.prog 42 #[.string a0] w fun e w' => e = .returned (.string r) ∧ Below w.heap.size w w' := by
  have HB := Aside0.mk (Below.refl w.heap.size w)
  have H : (impl_named.l0 k a0 (⟨#[]⟩ : ByteArray) (([] : List Int)) (a0.size : Int) 0) = some r := h
  clear h
  obtain ⟨y101, hy101⟩ : ∃ y_ : List Int, y_ = (([] : List Int)) := ⟨_, rfl⟩
  replace H : (impl_named.l0 k a0 (⟨#[]⟩ : ByteArray) y101 (a0.size : Int) 0) = some r := by first | (rw [hy101]; with_reducible exact H) | (have H2_ := (Option.bind_some _ _).symm.trans H; rw [hy101]; with_reducible exact H2_) | (have H2_ := (Option.bind_some _ _).symm.trans H; with_reducible exact H2_) | with_reducible exact H | (rw [hy101]; exact H) | exact H
  have Ny101 := Aside0.mk hy101
  clear hy101
  have H' := Aside0.mk H
  clear H
  go_enter Tryd.func42, Tryd.ntmps42
  go_wp2_with (first | ((with_reducible refine gate_dst (N := 7) rfl ?_); refine Kd.R_lit (Kd.int .u8) _ 5 ?hg (N := 7) ?hd (xs := ([] : List Int)) (inner := []) (ok := fun _ => True) (okp := fun _ => True) ?hr ?hp (fun _ hk => hk) trivial (Below.refl _ _) (Nat.le_refl _) (by simp) ?_; (case hd => rfl); (case hg => rfl); (case hr => first | (go_simp; done) | (go_simp; rfl)); (case hp => exact (Reps.none _ _)); intro v102 w2 ho3 hb hg_ hnew_; clear hg_ hnew_; (first | rw [← Ny101.out] at ho3 | (simp only [Int.reduceToNat] at ho3; rw [← Ny101.out] at ho3)); have n0_ := Aside0.mk (Kd.R_lower ho3 (below_size (by repeat (first | (with_reducible first | exact HB.out | apply below_alloc | apply pw_below_drewN | apply below_drew1) | exact HB.out)))); have n1_ := Aside0.mk (below_step (by repeat (first | (with_reducible first | exact HB.out | apply below_alloc | apply pw_below_drewN | apply below_drew1) | exact HB.out)) hb); clear HB; have HO103 := n0_; have HB := n1_; clear n0_ n1_; clear hb ho3))
  go_loopg [3, 4, 10] k (fun kq v3 v4 v10 w' => ∃ (x3_1 : ByteArray) (x4_1 : List Int) (x10_1 : Int), v3 = .string x3_1 ∧ v10 = .int .i64 x10_1 ∧ Aside0 (impl_named.l0 kq a0 x3_1 x4_1 (a0.size : Int) x10_1 = some r) ∧ Aside0 (kq ≤ k) ∧ Aside0 (Kd.R (Kd.int .u8) 5 w' w.heap.size (fun _ => True) v4 x4_1) ∧ Aside0 (Below w.heap.size w w'))
  case atStart => exact ⟨((⟨#[]⟩ : ByteArray)), (y101), (0), (by first | rfl | (simp; done) | (simp [*]; done)), (by first | rfl | (simp; done) | (simp [*]; done)), H', ⟨Nat.le_refl _⟩, ⟨by (with_reducible repeat (first | apply Kd.R_alloc | apply Kd.R_drewN | apply Kd.R_drew)); exact HO103.out⟩, ⟨by repeat (first | (with_reducible first | exact HB.out | apply below_alloc | apply pw_below_drewN | apply below_drew1) | exact HB.out)⟩⟩
  case round =>
    clear H'
    try clear p2
    obtain ⟨x3_1, x4_1, x10_1, rfl, rfl, HA, HK1, HO_4, HB⟩ := hrel
    cases gk with
    | zero => exact absurd HA.out (by simp [impl_named.l0])
    | succ k1 =>
      have H := HA.out
      clear HA
      simp only [impl_named.l0] at H
      by_cases c4 : x10_1 < (a0.size : Int)
      · rw [if_pos c4] at H
        have c4b0 : decide (x10_1 < (a0.size : Int)) = true := decide_eq_true c4
        clear c4
        by_cases c5 : 0 ≤ x10_1
        · rw [if_pos c5] at H
          have c5b0 : decide (0 ≤ x10_1) = true := decide_eq_true c5
          clear c5
          by_cases c6 : x10_1 < (a0.size : Int)
          · rw [if_pos c6] at H
            have c6b0 : decide (x10_1 < (a0.size : Int)) = true := decide_eq_true c6
            clear c6
            replace H := Option.bind_eq_some_iff.mp H
            obtain ⟨t104, A80, H⟩ := H
            replace H : (if t104 < 0 then (if x10_1 ≤ (wrap64 (x10_1 + 1)) then (if (wrap64 (x10_1 + 1)) ≤ (a0.size : Int) then (if x3_1.size + (a0.extract (x10_1 : Int).toNat ((wrap64 (x10_1 + 1)) : Int).toNat).size ≤ 9223372036854775807 then (if x4_1.length < 140737488355328 then (impl_named.l0 k1 a0 (x3_1 ++ (a0.extract (x10_1 : Int).toNat ((wrap64 (x10_1 + 1)) : Int).toNat)) (x4_1 ++ [(97 + ((x3_1.size : Int))) % 256]) (a0.size : Int) (wrap64 (x10_1 + 1))) else (none)) else (none)) else (none)) else (none)) else (if x4_1.length < 140737488355328 then (impl_named.l0 k1 a0 x3_1 (x4_1 ++ [(97 + (t104)) % 256]) (a0.size : Int) (wrap64 (x10_1 + 1))) else (none))) = some r := H
            have A8 := Aside0.mk A80
            clear A80
            by_cases c9 : t104 < 0
            · rw [if_pos c9] at H
              have c9b0 : decide (t104 < 0) = true := decide_eq_true c9
              clear c9
              have c10b0 := eq_true (of_decide_eq_true (by first | (with_reducible assumption) | assumption) : 0 ≤ x10_1)
              by_cases c11 : x10_1 ≤ (wrap64 (x10_1 + 1))
              · rw [if_pos c11] at H
                have c11b0 := eq_true c11
                have c11b1 : decide (x10_1 ≤ (wrap64 (x10_1 + 1))) = true := decide_eq_true c11
                by_cases c12 : (wrap64 (x10_1 + 1)) ≤ (a0.size : Int)
                · rw [if_pos c12] at H
                  have c12b0 := eq_true c12
                  have c12b1 : decide ((wrap64 (x10_1 + 1)) ≤ (a0.size : Int)) = true := decide_eq_true c12
                  by_cases c13 : x3_1.size + (a0.extract (x10_1 : Int).toNat ((wrap64 (x10_1 + 1)) : Int).toNat).size ≤ 9223372036854775807
                  · rw [if_pos c13] at H
                    have c13b0 := eq_true c13
                    have c13b1 : decide (x3_1.size + (a0.extract (x10_1 : Int).toNat ((wrap64 (x10_1 + 1)) : Int).toNat).size ≤ 9223372036854775807) = true := decide_eq_true c13
                    try have c13b2 : (9223372036854775807 < x3_1.size + (a0.extract (x10_1 : Int).toNat ((wrap64 (x10_1 + 1)) : Int).toNat).size) = False := eq_false (Nat.not_lt.2 c13)
                    by_cases c14 : x4_1.length < 140737488355328
                    · rw [if_pos c14] at H
                      have LMc14 := Aside0.mk c14
                      clear c14
                      obtain ⟨y105, hy105⟩ : ∃ y_ : List Int, y_ = (x4_1 ++ [(97 + ((x3_1.size : Int))) % 256]) := ⟨_, rfl⟩
                      replace H : (impl_named.l0 k1 a0 (x3_1 ++ (a0.extract (x10_1 : Int).toNat ((wrap64 (x10_1 + 1)) : Int).toNat)) y105 (a0.size : Int) (wrap64 (x10_1 + 1))) = some r := by first | (rw [hy105]; with_reducible exact H) | (have H2_ := (Option.bind_some _ _).symm.trans H; rw [hy105]; with_reducible exact H2_) | (have H2_ := (Option.bind_some _ _).symm.trans H; with_reducible exact H2_) | with_reducible exact H | (rw [hy105]; exact H) | exact H
                      have Ny105 := Aside0.mk hy105
                      clear hy105
                      have H' := Aside0.mk H
                      clear H
                      have p7 : 0 ≤ (x10_1 : Int) := of_decide_eq_true (by first | (with_reducible assumption) | assumption)
                      have q7 : x10_1 < (a0.size : Int) := of_decide_eq_true (by first | (with_reducible assumption) | assumption)
                      have hx7 := bt_at a0 x10_1
                      replace p7 := eq_true p7
                      replace q7 := eq_true q7
                      go_wp2_with (first | ((with_reducible refine gate_callee (f := 36) rfl ?_); refine goesL_ (some 17) rfl rfl Tryd.func36 (by kernel_rfl) rfl #[.string x3_1, .int .u8 (bt a0 x10_1)] rfl (by (try simp only [List.map_toArray, List.map_cons, List.map_nil]); first | done | rfl | (simp only [List.length_drop, List.length_take]; rfl)) ?_; (with_reducible refine (strings_IndexByte.calls x3_1 (bt a0 x10_1) t104 _ A8.out).mono ?_); rintro e w' ⟨rfl, ⟨nd, rfl⟩⟩; refine ⟨_, rfl, ?_⟩) | ((with_reducible refine gate_builtin (b := .append) (xs := #[.tmp 29, .tmp 33]) rfl ?_); at_builtin; refine Kd.R_append (Kd.int .u8) (w0 := w) w.heap.size rfl (.tmp 29) (.tmp 33) 35 5 (.int .u8 0) 1 rfl Tryd.underlying35 info5 rfl (by decide) (by omega) u4 x4_1 ((97 + ((x3_1.size : Int))) % 256) [.int .u8 ((97 + ((x3_1.size : Int))) % 256)] (fun _ => True) (fun _ => False) rfl rfl ?aP (fun _ hk => hk.elim) ?aF ?aO ?aB ?aS ?aL ?_; (case aP => exact rfl); (case aB => exact (by repeat (first | (with_reducible first | exact HB.out | apply below_alloc | apply pw_below_drewN | apply below_drew1) | exact HB.out))); (case aF => exact (fun _ _ => trivial)); (case aO => exact (by (with_reducible repeat (first | apply Kd.R_alloc | apply Kd.R_drewN | apply Kd.R_drew)); exact HO_4.out)); (case aS => exact (below_size (by repeat (first | (with_reducible first | exact HB.out | apply below_alloc | apply pw_below_drewN | apply below_drew1) | exact HB.out)))); (case aL => have := LMc14.out; omega); intro v106 w15 ho hb hg hat; rw [← Ny105.out] at ho; have n0_ := Aside0.mk (hb); have n1_ := Aside0.mk (ho); clear HB; clear HO_4; have HB := n0_; have HO107 := n1_; clear n0_ n1_; clear ho hb hg hat))
                      go_roundg k1
                      case measure => have := HK1.out; omega
                      case rel => exact ⟨(x3_1 ++ (a0.extract (x10_1 : Int).toNat ((wrap64 (x10_1 + 1)) : Int).toNat)), (y105), (wrap64 (x10_1 + 1)), (by first | rfl | (simp; done) | (simp [*]; done)), (by first | rfl | (simp; done) | (simp [*]; done)), H', ⟨by have := HK1.out; omega⟩, ⟨by (with_reducible repeat (first | apply Kd.R_alloc | apply Kd.R_drewN | apply Kd.R_drew)); exact HO107.out⟩, ⟨by repeat (first | (with_reducible first | exact HB.out | apply below_alloc | apply pw_below_drewN | apply below_drew1) | exact HB.out)⟩⟩
                    · rw [if_neg c14] at H
                      exact absurd H (by simp)
                  · rw [if_neg c13] at H
                    exact absurd H (by simp)
                · rw [if_neg c12] at H
                  exact absurd H (by simp)
              · rw [if_neg c11] at H
                exact absurd H (by simp)
            · rw [if_neg c9] at H
              have c9b0 : decide (t104 < 0) = false := decide_eq_false c9
              clear c9
              by_cases c16 : x4_1.length < 140737488355328
              · rw [if_pos c16] at H
                have LMc16 := Aside0.mk c16
                clear c16
                obtain ⟨y108, hy108⟩ : ∃ y_ : List Int, y_ = (x4_1 ++ [(97 + (t104)) % 256]) := ⟨_, rfl⟩
                replace H : (impl_named.l0 k1 a0 x3_1 y108 (a0.size : Int) (wrap64 (x10_1 + 1))) = some r := by first | (rw [hy108]; with_reducible exact H) | (have H2_ := (Option.bind_some _ _).symm.trans H; rw [hy108]; with_reducible exact H2_) | (have H2_ := (Option.bind_some _ _).symm.trans H; with_reducible exact H2_) | with_reducible exact H | (rw [hy108]; exact H) | exact H
                have Ny108 := Aside0.mk hy108
                clear hy108
                have H' := Aside0.mk H
                clear H
                have p7 : 0 ≤ (x10_1 : Int) := of_decide_eq_true (by first | (with_reducible assumption) | assumption)
                have q7 : x10_1 < (a0.size : Int) := of_decide_eq_true (by first | (with_reducible assumption) | assumption)
                have hx7 := bt_at a0 x10_1
                replace p7 := eq_true p7
                replace q7 := eq_true q7
                go_wp2_with (first | ((with_reducible refine gate_callee (f := 36) rfl ?_); refine goesL_ (some 17) rfl rfl Tryd.func36 (by kernel_rfl) rfl #[.string x3_1, .int .u8 (bt a0 x10_1)] rfl (by (try simp only [List.map_toArray, List.map_cons, List.map_nil]); first | done | rfl | (simp only [List.length_drop, List.length_take]; rfl)) ?_; (with_reducible refine (strings_IndexByte.calls x3_1 (bt a0 x10_1) t104 _ A8.out).mono ?_); rintro e w' ⟨rfl, ⟨nd, rfl⟩⟩; refine ⟨_, rfl, ?_⟩) | ((with_reducible refine gate_builtin (b := .append) (xs := #[.tmp 29, .tmp 33]) rfl ?_); at_builtin; refine Kd.R_append (Kd.int .u8) (w0 := w) w.heap.size rfl (.tmp 29) (.tmp 33) 35 5 (.int .u8 0) 1 rfl Tryd.underlying35 info5 rfl (by decide) (by omega) u4 x4_1 ((97 + (t104)) % 256) [.int .u8 ((97 + (t104)) % 256)] (fun _ => True) (fun _ => False) rfl rfl ?aP (fun _ hk => hk.elim) ?aF ?aO ?aB ?aS ?aL ?_; (case aP => exact rfl); (case aB => exact (by repeat (first | (with_reducible first | exact HB.out | apply below_alloc | apply pw_below_drewN | apply below_drew1) | exact HB.out))); (case aF => exact (fun _ _ => trivial)); (case aO => exact (by (with_reducible repeat (first | apply Kd.R_alloc | apply Kd.R_drewN | apply Kd.R_drew)); exact HO_4.out)); (case aS => exact (below_size (by repeat (first | (with_reducible first | exact HB.out | apply below_alloc | apply pw_below_drewN | apply below_drew1) | exact HB.out)))); (case aL => have := LMc16.out; omega); intro v109 w17 ho hb hg hat; rw [← Ny108.out] at ho; have n0_ := Aside0.mk (hb); have n1_ := Aside0.mk (ho); clear HB; clear HO_4; have HB := n0_; have HO110 := n1_; clear n0_ n1_; clear ho hb hg hat))
                go_roundg k1
                case measure => have := HK1.out; omega
                case rel => exact ⟨(x3_1), (y108), (wrap64 (x10_1 + 1)), (by first | rfl | (simp; done) | (simp [*]; done)), (by first | rfl | (simp; done) | (simp [*]; done)), H', ⟨by have := HK1.out; omega⟩, ⟨by (with_reducible repeat (first | apply Kd.R_alloc | apply Kd.R_drewN | apply Kd.R_drew)); exact HO110.out⟩, ⟨by repeat (first | (with_reducible first | exact HB.out | apply below_alloc | apply pw_below_drewN | apply below_drew1) | exact HB.out)⟩⟩
              · rw [if_neg c16] at H
                exact absurd H (by simp)
          · rw [if_neg c6] at H
            exact absurd H (by simp)
        · rw [if_neg c5] at H
          exact absurd H (by simp)
      · rw [if_neg c4] at H
        have c4b0 : decide (x10_1 < (a0.size : Int)) = false := decide_eq_false c4
        clear c4
        obtain rfl := Option.some.inj H
        have hcv18 := own_string (P := Tryd.prog) Tryd.underlying35 Tryd.underlying5 Tryd.underlying9 (Kd.own_of_R HO_4.out)
        go_wp2
        go_ret
        exact ⟨by first | rfl | (simp [errW_none, errW_some] <;> rfl) | (simp [*, errW_none, errW_some] <;> rfl), by repeat (first | (with_reducible first | exact HB.out | apply below_alloc | apply pw_below_drewN | apply below_drew1) | exact HB.out)⟩

end Go.Proofs.YtkfllbbpclgffaaDoor.Pr

/- What the program's IsLoop computes. -/
namespace Go.Proofs.YtkfllbbpclgffaaDoor.Pr
open Go.RowKit Go.Proofs.YtkfllbbpclgffaaDoorW.PrintWords Go.Proofs.YtkfllbbpclgffaaDoorW.PrintLast Go.Proofs.YtkfllbbpclgffaaDoorW.PrintMore
set_option linter.unusedVariables false
set_option linter.unusedSimpArgs false

/-- A byte that a text has not just twice. -/
def missB (w : ByteArray) (c : Int) : Bool := (((w.data.toList.count c.toNat.toUInt8 : Nat) : Int) != 2)
theorem encode_small {c : Int} (h0 : 0 ≤ c) (h1 : c < 128) : Utf8.encode c = ⟨#[c.toNat.toUInt8]⟩ := by
  have h : ∀ n : Fin 128, Utf8.encode (n.val : Int) = ⟨#[n.val.toUInt8]⟩ := by decide +kernel
  obtain ⟨n, rfl⟩ := Int.eq_ofNat_of_zero_le h0
  exact h ⟨n, by omega⟩
theorem count_small (w : ByteArray) (c : Int) (h0 : 0 ≤ c) (h1 : c < 128) (W : World) :
    Calls Tryd.prog 38 #[.string w, .string (Utf8.encode c)] W fun e w' => e = .returned (.int .i64 ((w.data.toList.count c.toNat.toUInt8 : Nat) : Int)) ∧ Drawn0 W w' := by
  rw [encode_small h0 h1]
  exact strings_Count.calls w _ _ W rfl

set_option maxHeartbeats 2000000 in
theorem loop_pred (w0 : ByteArray) (B : Nat) (zs : List Int) (hz : ∀ x ∈ zs, 0 ≤ x ∧ x < 128) (w : World) (hB : B < w.heap.size) (hcell : w.cell? ⟨B, 0, none⟩ = some (.string w0)) :
    PredB 44 #[.pointer (some ⟨B, 0, none⟩)] encB (missB w0) zs w := fun W x hx hb => by
  have hc : W.cell? ⟨B, 0, none⟩ = some (.string w0) := (hb.cell (p := ⟨B, 0, none⟩) hB).trans hcell
  obtain ⟨h0, h1⟩ := hz x hx
  show Calls Tryd.prog 44 #[.int .u8 x, .pointer (some ⟨B, 0, none⟩)] W fun e w' => e = .returned (.bool (missB w0 x)) ∧ Below W.heap.size W w'
  unfold missB
  have HC := Aside0.mk (fun (W1 : World) => count_small w0 x h0 h1 W1)
  generalize ((w0.data.toList.count x.toNat.toUInt8 : Nat) : Int) = r at HC ⊢
  clear hcell hb hx hz
  go_enter Tryd.func44, Tryd.ntmps44
  go_wp2_with (go_at_call 38; refine (HC.out _).mono ?_; rintro e w' ⟨rfl, ⟨nd, rfl⟩⟩)
  go_ret
  exact ⟨by simp, pw_below_drewN (Below.refl _ _) _⟩

/-- What the program's IsLoop tells. -/
def impl_IsLoop.f (k : Nat) (a0 : ByteArray) : Option (Bool) :=
  if a0.size ≤ 16 then
    (if (Lib.trimS a0.data.toList [97, 98, 99, 100, 101, 102, 103, 104] = [] ∧ ∀ x ∈ bytesOf a0, 0 ≤ x ∧ x < 128) then ((impl_named.f k a0).bind fun t => if t = a0 then some (!((bytesOf a0).any (missB a0))) else some false)
    else if Lib.trimS a0.data.toList [97, 98, 99, 100, 101, 102, 103, 104] = [] then none else some false)
  else some false
theorem impl_IsLoop.mono : ∀ a0 k, LeO (impl_IsLoop.f k a0) (impl_IsLoop.f (k + 1) a0) := by
  intro a0 k
  unfold impl_IsLoop.f
  exact LeO.ite (LeO.ite (LeO.bind (impl_named.mono _ _) (fun _ => LeO.refl _)) (LeO.refl _)) (LeO.refl _)

set_option maxHeartbeats 4000000 in
theorem impl_IsLoop.calls (k : Nat) (a0 : ByteArray) (r : Bool) (w : World) (h : impl_IsLoop.f k a0 = some r) :
    Calls Tryd.prog 26 #[.string a0] w fun e w' => e = .returned (.bool r) ∧ Below w.heap.size w w' := by
  have hb0 : Below w.heap.size w (w.alloc (.cells #[.string a0] 9)) := below_alloc (Below.refl _ _) _
  have hs0 : w.heap.size < (w.alloc (.cells #[.string a0] 9)).heap.size := by simp
  have hx0 : (w.alloc (.cells #[.string a0] 9)).cell? ⟨w.heap.size, 0, none⟩ = some (.string a0) := by simp
  have eg : ∀ args w, (callFunc 44 args).run Tryd.prog w = .ok (.enter 44 args) w := enters_of Tryd.func44 (by kernel_rfl) rfl
  unfold impl_IsLoop.f at h
  by_cases hl : a0.size ≤ 16
  · rw [if_pos hl] at h
    have d1 : decide ((a0.size : Int) > 16) = false := decide_eq_false (by omega)
    have hT := Aside0.mk (fun (W : World) => strings_Trim.calls a0 _ _ W (if_pos ⟨by omega, rfl⟩))
    by_cases ht : Lib.trimS a0.data.toList [97, 98, 99, 100, 101, 102, 103, 104] = []
    · by_cases hz : ∀ x ∈ bytesOf a0, 0 ≤ x ∧ x < 128
      · rw [if_pos ⟨ht, hz⟩] at h
        rw [ht] at hT
        obtain ⟨t, hn, h⟩ := Option.bind_eq_some_iff.mp h
        have hN := Aside0.mk (fun (W : World) => impl_named.calls k a0 t W hn)
        go_enter Tryd.func26, Tryd.ntmps26
        have d2 : ((([] : List UInt8) != []) = true) = False := by simp
        have HB0 := Aside0.mk hb0
        clear hb0 ht hn
        by_cases e : t = a0
        · subst e
          rw [if_pos rfl] at h
          have hC := Aside0.mk (fun (W : World) (hB : w.heap.size < W.heap.size) (hc : W.cell? ⟨w.heap.size, 0, none⟩ = some (.string t)) (A : Option Addr) (c : Nat) (hr : Kd.C (Kd.int .u8) W A (bytesOf t).length (bytesOf t)) (hcap : (bytesOf t).length ≤ c) =>
            containsFunc_byte A c (bytesOf t) (missB t) 44 #[.pointer (some ⟨w.heap.size, 0, none⟩)] eg W hr hcap (loop_pred t w.heap.size (bytesOf t) hz W hB hc))
          have hlen := bytesOf_length t
          generalize (bytesOf t).any (missB t) = b at hC h
          obtain rfl := Option.some.inj h
          clear h eg hz
          go_wp2_with fail
          go_region_held3 (fun w' => w'.cell? ⟨w.heap.size, 0, none⟩ = some (.string t) ∧ w.heap.size < w'.heap.size ∧ Below w.heap.size w w')
            ((go_split_ands; refine ⟨?_, ?_, ?_⟩ <;> (first | assumption | exact HB0.out | exact below_drew HB0.out | exact below_drew (by assumption) | exact cell_keep (by assumption) (by assumption) (by assumption) | exact lt_keep (by assumption) (by assumption) | exact below_keep (by assumption) (by assumption) | (simp [*]; done))))
            (first | (go_at_call 41; refine (hT.out _).mono ?_; rintro e w' ⟨rfl, hb⟩) | (go_at_call 42; refine (hN.out _).mono ?_; rintro e w' ⟨rfl, hb2⟩))
          go_split_ands
          rename_i wr hx1 hx2 hx3
          go_wp2_with fail
          rw [print_bytes 9 35 5 Tryd.underlying9 Tryd.underlying35 Tryd.underlying5]
          simp only [Result.andThen]
          rw [Oper.upon_value]
          have hbb : Below w'.heap.size w' (Lib.bytesWorld w' 5 t) := bytes_below (Below.refl _ _) (Nat.le_refl _) 5 t
          have hCC := hC.out _ (lt_keep hbb hx2) (cell_keep hbb hx2 hx1) _ _ (bytes_C w' 5 t (by omega)) (by rw [hlen]; exact grownCap_ge w' t.size 0 5)
          rw [hlen] at hCC
          go_wp2_with (go_at_call 43; refine hCC.mono ?_; rintro e w2 ⟨rfl, hb3⟩)
          go_ret
          exact ⟨by simp, below_keep hb3 (below_keep hbb hx3)⟩
        · rw [if_neg e] at h
          obtain rfl := Option.some.inj h
          have e1 := toList_ne e
          have e2 : (t.toList == a0.toList) = false := beq_eq_false_iff_ne.mpr e1
          clear h eg hz e e1
          go_wp2_with fail
          go_region_held3 (fun w' => w'.cell? ⟨w.heap.size, 0, none⟩ = some (.string a0) ∧ w.heap.size < w'.heap.size ∧ Below w.heap.size w w')
            ((go_split_ands; refine ⟨?_, ?_, ?_⟩ <;> (first | assumption | exact HB0.out | exact below_drew HB0.out | exact below_drew (by assumption) | exact cell_keep (by assumption) (by assumption) (by assumption) | exact lt_keep (by assumption) (by assumption) | exact below_keep (by assumption) (by assumption) | (simp [*]; done))))
            (first | (go_at_call 41; refine (hT.out _).mono ?_; rintro e w' ⟨rfl, hb⟩) | (go_at_call 42; refine (hN.out _).mono ?_; rintro e w' ⟨rfl, hb2⟩))
          go_split_ands
          rename_i wr hx1 hx2 hx3
          go_wp2_with fail
          go_ret
          exact ⟨rfl, hx3⟩
      · rw [if_neg (fun e => hz e.2), if_pos ht] at h; cases h
    · rw [if_neg (fun e => ht e.1), if_neg ht] at h
      obtain rfl := Option.some.inj h
      have HB0 := Aside0.mk hb0
      generalize Lib.trimS a0.data.toList [97, 98, 99, 100, 101, 102, 103, 104] = l at ht hT
      obtain ⟨s, hs⟩ : ∃ s : ByteArray, s = ⟨l.toArray⟩ := ⟨_, rfl⟩
      rw [← hs] at hT
      have hsl : s.toList = l := by rw [hs, ByteArray.toList_eq]
      have e1 : s.toList.isEmpty = false := by rw [hsl]; cases l with
        | nil => exact absurd rfl ht
        | cons y ys => rfl
      have e2 : (s.toList == []) = false := by rw [hsl]; cases l with
        | nil => exact absurd rfl ht
        | cons y ys => rfl
      clear h eg hb0 ht hs hsl
      go_enter Tryd.func26, Tryd.ntmps26
      go_wp2_with fail
      go_region_with ((go_at_call 41; refine (hT.out _).mono ?_; rintro e w' ⟨rfl, hb⟩))
      all_goals (go_wp2_with fail; go_ret; exact ⟨rfl, below_keep hb (below_drew HB0.out)⟩)
  · rw [if_neg hl] at h
    obtain rfl := Option.some.inj h
    have d1 : decide ((a0.size : Int) > 16) = true := decide_eq_true (by omega)
    have HB0 := Aside0.mk hb0
    clear h eg hb0
    go_enter Tryd.func26, Tryd.ntmps26
    go_wp2_with fail
    go_region_with ((fail))
    all_goals (go_wp2_with fail; go_ret; exact ⟨rfl, below_drew HB0.out⟩)
end Go.Proofs.YtkfllbbpclgffaaDoor.Pr

-- Written by a program for this claim.
namespace Go.Proofs.YtkfllbbpclgffaaDoor.Pr
open Go.RowKit Go.Proofs.YtkfllbbpclgffaaDoorW.PrintWords Go.Proofs.YtkfllbbpclgffaaDoorW.PrintLast Go.Proofs.YtkfllbbpclgffaaDoorW.PrintMore
attribute [local go_sem] max2_int min2_int max_two min_two max_three min_three max_four min_four   -- for this text's walks alone
set_option linter.unusedVariables false
set_option linter.unusedSimpArgs false

/-! ### impl_countOn: function 46 -/
mutual
def impl_countOn.j0 : Nat → Int → Int → Bool → Option (Int)
  | 0, _, _, _ => none
  | k + 1, x0, x1, x5 => if x5 = true then (some 0) else (if x0 = 0 then (impl_countOn.j1 k x0 x1 (x1 == 0)) else (impl_countOn.j1 k x0 x1 false))
def impl_countOn.j1 : Nat → Int → Int → Bool → Option (Int)
  | 0, _, _, _ => none
  | k + 1, x0, x1, x12 => if x12 = true then (some 1) else ((impl_countOn.f k (wrap64 (x0 - 1)) x1).bind fun t117 => ((impl_countOn.f k (wrap64 (x0 + 1)) (wrap64 (x1 - 1))).bind fun t118 => (some (wrap64 ((wrap64 (x0 * t117)) + t118)))))
def impl_countOn.f : Nat → Int → Int → Option (Int)
  | 0, _, _ => none
  | k + 1, a0, a1 => if a0 < 0 then (impl_countOn.j0 k a0 a1 true) else (impl_countOn.j0 k a0 a1 (decide (a1 < 0)))
end
theorem impl_countOn.mono_l : ∀ k, (∀ y0 y1, LeO (impl_countOn.f k y0 y1) (impl_countOn.f (k + 1) y0 y1)) ∧ (∀ y0 y1 y2, LeO (impl_countOn.j0 k y0 y1 y2) (impl_countOn.j0 (k + 1) y0 y1 y2)) ∧ (∀ y0 y1 y2, LeO (impl_countOn.j1 k y0 y1 y2) (impl_countOn.j1 (k + 1) y0 y1 y2))
  | 0 => ⟨fun _ _ r h => by simp [impl_countOn.f] at h, fun _ _ _ r h => by simp [impl_countOn.j0] at h, fun _ _ _ r h => by simp [impl_countOn.j1] at h⟩
  | k + 1 => by
    obtain ⟨ih0, ih1, ih2⟩ := impl_countOn.mono_l k
    refine ⟨?_, ?_, ?_⟩
    · intro y0 y1
      unfold impl_countOn.f
      repeat' first
      | (with_reducible exact ih0 _ _)
      | (with_reducible exact ih1 _ _ _)
      | (with_reducible exact ih2 _ _ _)
      | (with_reducible exact LeO.refl _)
      | (with_reducible exact LeO.none _)
      | (with_reducible refine LeO.ite ?_ ?_)
      | (with_reducible refine LeO.bind ?_ (fun _ => ?_))
      | exact ih0 _ _
      | exact ih1 _ _ _
      | exact ih2 _ _ _
      | exact LeO.none _
      | refine LeO.ite ?_ ?_
      | refine LeO.bind ?_ (fun _ => ?_)
    · intro y0 y1 y2
      unfold impl_countOn.j0
      repeat' first
      | (with_reducible exact ih0 _ _)
      | (with_reducible exact ih1 _ _ _)
      | (with_reducible exact ih2 _ _ _)
      | (with_reducible exact LeO.refl _)
      | (with_reducible exact LeO.none _)
      | (with_reducible refine LeO.ite ?_ ?_)
      | (with_reducible refine LeO.bind ?_ (fun _ => ?_))
      | exact ih0 _ _
      | exact ih1 _ _ _
      | exact ih2 _ _ _
      | exact LeO.none _
      | refine LeO.ite ?_ ?_
      | refine LeO.bind ?_ (fun _ => ?_)
    · intro y0 y1 y2
      unfold impl_countOn.j1
      repeat' first
      | (with_reducible exact ih0 _ _)
      | (with_reducible exact ih1 _ _ _)
      | (with_reducible exact ih2 _ _ _)
      | (with_reducible exact LeO.refl _)
      | (with_reducible exact LeO.none _)
      | (with_reducible refine LeO.ite ?_ ?_)
      | (with_reducible refine LeO.bind ?_ (fun _ => ?_))
      | exact ih0 _ _
      | exact ih1 _ _ _
      | exact ih2 _ _ _
      | exact LeO.none _
      | refine LeO.ite ?_ ?_
      | refine LeO.bind ?_ (fun _ => ?_)
theorem impl_countOn.mono : ∀ a0 a1 k, LeO (impl_countOn.f k a0 a1) (impl_countOn.f (k + 1) a0 a1) := by
  intro a0 a1 k
  obtain ⟨ih0, ih1, ih2⟩ := impl_countOn.mono_l k
  exact ih0 a0 a1
set_option maxHeartbeats 8000000 in
set_option maxRecDepth 100000 in
theorem impl_countOn.calls (k : Nat) : ∀ (a0 : Int) (a1 : Int) (r : Int) (w : World) (h : impl_countOn.f k a0 a1 = some r),
    Calls Tryd.prog 46 #[.int .i64 a0, .int .i64 a1] w fun e w' => e = .returned (.int .i64 r) ∧ Drawn0 w w' := by
  induction k using Nat.strongRecOn with
  | _ k ih =>
  intro a0 a1 r w h
  cases k with
  | zero => exact absurd h (by simp [impl_countOn.f])
  | succ k =>
  simp only [impl_countOn.f] at h
  have H : (if a0 < 0 then (impl_countOn.j0 k a0 a1 true) else (impl_countOn.j0 k a0 a1 (decide (a1 < 0)))) = some r := h
  clear h
  have HC3 := Aside0.mk H
  clear H
  go_enter Tryd.func46, Tryd.ntmps46
  go_upto_region 1 with (fail)
  go_cut [5] (fun v5 wc => ∃ (kq : Nat) (x5_2 : Bool), v5 = .bool x5_2 ∧ Aside0 (impl_countOn.j0 kq a0 a1 x5_2 = some r) ∧ Aside0 (kq ≤ k) ∧ Drawn0 w wc)
  case first =>
    have H := HC3.out
    clear HC3
    by_cases c4 : a0 < 0
    · rw [if_pos c4] at H
      have c4b0 : decide (a0 < 0) = true := decide_eq_true c4
      clear c4
      (first | rw [c4b0] | (simp only [i64_w, i32_w]; rw [c4b0]) | skip)
      have H' := Aside0.mk H
      clear H
      go_wp2
      go_meet
      case rel => exact ⟨_, (true), (by first | rfl | (simp; done) | (simp [*]; done)), H', ⟨by first | omega | exact Nat.le_refl _⟩, by repeat (first | exact Drawn0.refl _ | apply Drawn0.step)⟩
    · rw [if_neg c4] at H
      have c4b0 : decide (a0 < 0) = false := decide_eq_false c4
      clear c4
      (first | rw [c4b0] | (simp only [i64_w, i32_w]; rw [c4b0]) | skip)
      have H' := Aside0.mk H
      clear H
      go_wp2
      go_meet
      case rel => exact ⟨_, (decide (a1 < 0)), (by first | rfl | (simp; done) | (simp [*]; done)), H', ⟨by first | omega | exact Nat.le_refl _⟩, by repeat (first | exact Drawn0.refl _ | apply Drawn0.step)⟩
  case rest =>
    clear HC3
    try clear p2
    try clear c4
    try clear c4b0
    obtain ⟨kq, x5_2, rfl, HA, HJ2, ⟨mc2, rfl⟩⟩ := hcut
    cases kq with
    | zero => exact absurd HA.out (by simp [impl_countOn.j0])
    | succ kj2 =>
      have H := HA.out
      clear HA
      simp only [impl_countOn.j0] at H
      by_cases c5 : x5_2 = true
      · subst c5
        have H1 : (some 0) = some r := by rw [if_pos rfl] at H; exact H
        clear H
        have H := H1
        clear H1
        obtain rfl := Option.some.inj H
        go_wp2
        go_ret
        exact ⟨by first | rfl | (simp; done) | (simp [*]; done), by repeat (first | exact Drawn0.refl _ | apply Drawn0.step)⟩
      · replace c5 := Bool.eq_false_iff.mpr c5
        subst c5
        have H1 : (if a0 = 0 then (impl_countOn.j1 kj2 a0 a1 (a1 == 0)) else (impl_countOn.j1 kj2 a0 a1 false)) = some r := by rw [if_neg (show ¬ (false = true) by decide)] at H; exact H
        clear H
        have H := H1
        clear H1
        have HC6 := Aside0.mk H
        clear H
        go_upto_region 3 with (fail)
        go_cut [12] (fun v12 wc => ∃ (kq : Nat) (x12_5 : Bool), v12 = .bool x12_5 ∧ Aside0 (impl_countOn.j1 kq a0 a1 x12_5 = some r) ∧ Aside0 (kq ≤ kj2) ∧ Drawn0 w wc)
        case first =>
          have H := HC6.out
          clear HC6
          by_cases c7 : a0 = 0
          · rw [if_pos c7] at H
            have c7b0 : (a0 == 0) = true := beq_iff_eq.mpr c7
            have c7b1 : (a0 != 0) = false := bne_eq_false_iff_eq.mpr c7
            clear c7
            (first | rw [c7b0] | (simp only [i64_w, i32_w]; rw [c7b0]) | skip)
            have H' := Aside0.mk H
            clear H
            go_wp2
            go_meet
            case rel => exact ⟨_, ((a1 == 0)), (by first | rfl | (simp; done) | (simp [*]; done)), H', ⟨by have := HJ2.out; first | omega | exact Nat.le_refl _⟩, by repeat (first | exact Drawn0.refl _ | apply Drawn0.step)⟩
          · rw [if_neg c7] at H
            have c7b0 : (a0 == 0) = false := beq_eq_false_iff_ne.mpr c7
            have c7b1 : (a0 != 0) = true := bne_iff_ne.mpr c7
            (first | rw [c7b0] | (simp only [i64_w, i32_w]; rw [c7b0]) | skip)
            have H' := Aside0.mk H
            clear H
            go_wp2
            go_meet
            case rel => exact ⟨_, (false), (by first | rfl | (simp; done) | (simp [*]; done)), H', ⟨by have := HJ2.out; first | omega | exact Nat.le_refl _⟩, by repeat (first | exact Drawn0.refl _ | apply Drawn0.step)⟩
        case rest =>
          clear HC6
          try clear c2
          try clear p2
          try clear c4
          try clear c4b0
          try clear c5
          try clear c7
          try clear c7b0
          try clear c7b1
          try clear p2
          obtain ⟨kq, x12_5, rfl, HA, HJ5, ⟨mc5, rfl⟩⟩ := hcut
          cases kq with
          | zero => exact absurd HA.out (by simp [impl_countOn.j1])
          | succ kj5 =>
            have H := HA.out
            clear HA
            simp only [impl_countOn.j1] at H
            by_cases c8 : x12_5 = true
            · subst c8
              have H1 : (some 1) = some r := by rw [if_pos rfl] at H; exact H
              clear H
              have H := H1
              clear H1
              obtain rfl := Option.some.inj H
              go_wp2
              go_ret
              exact ⟨by first | rfl | (simp; done) | (simp [*]; done), by repeat (first | exact Drawn0.refl _ | apply Drawn0.step)⟩
            · replace c8 := Bool.eq_false_iff.mpr c8
              subst c8
              have H1 : ((impl_countOn.f kj5 (wrap64 (a0 - 1)) a1).bind fun t117 => ((impl_countOn.f kj5 (wrap64 (a0 + 1)) (wrap64 (a1 - 1))).bind fun t118 => (some (wrap64 ((wrap64 (a0 * t117)) + t118))))) = some r := by rw [if_neg (show ¬ (false = true) by decide)] at H; exact H
              clear H
              have H := H1
              clear H1
              replace H := Option.bind_eq_some_iff.mp H
              obtain ⟨t117, A90, H⟩ := H
              replace H : ((impl_countOn.f kj5 (wrap64 (a0 + 1)) (wrap64 (a1 - 1))).bind fun t118 => (some (wrap64 ((wrap64 (a0 * t117)) + t118)))) = some r := H
              have A9 := Aside0.mk A90
              clear A90
              replace H := Option.bind_eq_some_iff.mp H
              obtain ⟨t118, A100, H⟩ := H
              replace H : (some (wrap64 ((wrap64 (a0 * t117)) + t118))) = some r := H
              have A10 := Aside0.mk A100
              clear A100
              obtain rfl := Option.some.inj H
              go_wp2_with (first | ((with_reducible refine gate_callee (f := 46) rfl ?_); refine goesL_ (some 23) rfl rfl Tryd.func46 (by kernel_rfl) rfl #[.int .i64 (wrap64 (a0 - 1)), .int .i64 a1] rfl (by (try simp only [List.map_toArray, List.map_cons, List.map_nil]); first | done | rfl | (simp only [List.length_drop, List.length_take]; rfl)) ?_; (with_reducible refine (ih kj5 (by have := HJ2.out; have := HJ5.out; omega) (wrap64 (a0 - 1)) a1 t117 _ A9.out).mono ?_); rintro e w' ⟨rfl, ⟨nd, rfl⟩⟩; refine ⟨_, rfl, ?_⟩) | ((with_reducible refine gate_callee (f := 46) rfl ?_); refine goesL_ (some 29) rfl rfl Tryd.func46 (by kernel_rfl) rfl #[.int .i64 (wrap64 (a0 + 1)), .int .i64 (wrap64 (a1 - 1))] rfl (by (try simp only [List.map_toArray, List.map_cons, List.map_nil]); first | done | rfl | (simp only [List.length_drop, List.length_take]; rfl)) ?_; (with_reducible refine (ih kj5 (by have := HJ2.out; have := HJ5.out; omega) (wrap64 (a0 + 1)) (wrap64 (a1 - 1)) t118 _ A10.out).mono ?_); rintro e w' ⟨rfl, ⟨nd, rfl⟩⟩; refine ⟨_, rfl, ?_⟩))
              go_ret
              exact ⟨by first | rfl | (simp; done) | (simp [*]; done), by repeat (first | exact Drawn0.refl _ | apply Drawn0.step)⟩

end Go.Proofs.YtkfllbbpclgffaaDoor.Pr

/- What the program's onward computes . -/
namespace Go.Proofs.YtkfllbbpclgffaaDoor.Pr
open Go.RowKit Go.Proofs.YtkfllbbpclgffaaDoorW.PrintWords Go.Proofs.YtkfllbbpclgffaaDoorW.PrintLast Go.Proofs.YtkfllbbpclgffaaDoorW.PrintMore
set_option linter.unusedVariables false
set_option linter.unusedSimpArgs false

/-- Whether a letter's first place is one. -/
def hasB (b : ByteArray) (u : Nat) : Bool := decide (0 ≤ Lib.indexByte b.data.toList ((97 + u : Nat).toUInt8))
/-- How many letters have come, from u on. -/
def usedF (b : ByteArray) : Nat → Nat → Nat
  | 0, u => u
  | d + 1, u => if hasB b u = true then usedF b d (u + 1) else u
theorem usedF_ge (b : ByteArray) : ∀ (d u : Nat), u ≤ usedF b d u ∧ usedF b d u ≤ u + d
  | 0, u => by simp [usedF]
  | d + 1, u => by
    unfold usedF
    have := usedF_ge b d (u + 1)
    split <;> omega
theorem letter_at : ∀ u : Fin 8, (⟨#[97, 98, 99, 100, 101, 102, 103, 104]⟩ : ByteArray).extract u.val (u.val + 1) = ⟨#[(97 + u.val : Nat).toUInt8]⟩ := by decide +kernel
theorem has_at (b : ByteArray) (u : Nat) (hu : u < 8) (W : World) : Calls Tryd.prog 35 #[.string b, .string ((⟨#[97, 98, 99, 100, 101, 102, 103, 104]⟩ : ByteArray).extract u (u + 1))] W fun e w' => e = .returned (.bool (hasB b u)) ∧ Drawn0 W w' := by
  rw [letter_at ⟨u, hu⟩]
  exact strings_Contains.calls b _ _ W rfl
/-- The letters that have come once, with what each counts. -/
def onwL (k : Nat) (b : ByteArray) (x y : Int) : Nat → Nat → List Int → List Int → Option (List Int × List Int)
  | 0, _, ls, cs => some (ls, cs)
  | d + 1, i, ls, cs => if b.data.toList.count ((97 + i : Nat).toUInt8) = 1 then (impl_countOn.f k x y).bind fun v => onwL k b x y d (i + 1) (ls ++ [97 + (i : Int)]) (cs ++ [v]) else onwL k b x y d (i + 1) ls cs
def onwF (k : Nat) (n : Nat) (b : ByteArray) : Option (List Int × List Int) :=
  let u := usedF b n 0
  let o : Int := 2 * (u : Int) - (b.size : Int)
  (onwL k b (o - 1) ((n : Int) - (u : Int)) u 0 [] []).bind fun p => if u < n then (impl_countOn.f k (o + 1) ((n : Int) - (u : Int) - 1)).bind fun v => some (p.1 ++ [97 + (u : Int)], p.2 ++ [v]) else some p

theorem info_int : (Tryd.prog.info? 3).map (fun i => (i.zero, i.size, i.bytes)) = some (some (.int .i64 0), 1, 8) := by kernel_rfl
theorem und_ints : Tryd.prog.underlying 36 = some (.slice 3) := by kernel_rfl
set_option maxHeartbeats 1000000 in
set_option maxRecDepth 100000 in
theorem onward_calls (k : Nat) (n : Nat) (hn : n ≤ 8) (b : ByteArray) (hb : b.size ≤ 16) (ls cs : List Int) (w : World) (h : onwF k n b = some (ls, cs)) :
    Calls Tryd.prog 29 #[.int .i64 n, .string b] w fun e w' => ∃ v1 v2, e = .returned (.tuple #[v1, v2]) ∧ Kd.R (Kd.int .u8) 5 w' w.heap.size (fun _ => True) v1 ls ∧ Kd.R (Kd.int .i64) 3 w' w.heap.size (fun _ => True) v2 cs ∧ Below w.heap.size w w' := by
  have HU := Aside0.mk (show usedF b (n - 0) 0 = usedF b n 0 from rfl)
  obtain ⟨u, hu⟩ : ∃ u, u = usedF b n 0 := ⟨_, rfl⟩
  have hu8 : u ≤ n := by have := usedF_ge b n 0; omega
  unfold onwF at h
  rw [← hu] at h HU
  have HH := Aside0.mk h
  have HB := Aside0.mk (Below.refl w.heap.size w)
  clear h hu
  go_enter Tryd.func29, Tryd.ntmps29
  go_wp2_with fail
  go_loopg [6] n (fun gg v6 w' => ∃ (i : Nat), v6 = .int .i64 i ∧ Aside0 (i + gg = n) ∧ Aside0 (usedF b (n - i) i = u) ∧ Aside0 (Below w.heap.size w w'))
  case atStart => exact ⟨0, rfl, ⟨by omega⟩, HU, HB⟩
  case round =>
    obtain ⟨i, rfl, HG, HU1, HB1⟩ := hrel
    clear HU HB
    by_cases hcont : i < n ∧ hasB b i = true
    · obtain ⟨hp, hh⟩ := hcont
      have c4 : decide ((i : Int) < (n : Int)) = true := decide_eq_true (by omega)
      have c5 : decide (i < n) = true := decide_eq_true hp
      have c6 : IntKind.i64.wrap ((i : Int) + 1) = (i : Int) + 1 := IntWalk.i64_in _ (by omega)
      have c7 : ((i : Int) + 1 ≤ 8) = True := eq_true (by omega)
      have c8 : (0 ≤ (i : Int)) = True := eq_true (by omega)
      have c9 : ((i : Int) ≤ (i : Int) + 1) = True := eq_true (by omega)
      have c10 : ((i : Int) + 1).toNat = i + 1 := by omega
      obtain ⟨gm, rfl⟩ : ∃ gm, gk = gm + 1 := ⟨gk - 1, by have := HG.out; omega⟩
      have HC := Aside0.mk (fun (W : World) => has_at b i (by omega) W)
      rw [hh] at HC
      have hU2 := HU1.out
      rw [show n - i = (n - (i + 1)) + 1 by omega, usedF, if_pos hh] at hU2
      have HU3 := Aside0.mk hU2
      clear hU2 HU1
      go_wp2_with (go_at_call 35; refine (HC.out _).mono ?_; rintro e w1 ⟨rfl, ⟨nd, rfl⟩⟩)
      go_roundg gm
      case measure => omega
      case rel => exact ⟨i + 1, by first | rfl | (simp; done), ⟨by have := HG.out; omega⟩, HU3, ⟨pw_below_drewN HB1.out nd⟩⟩
    · obtain rfl : i = u := by
        have h5 := HU1.out
        by_cases hp : i < n
        · rw [show n - i = (n - (i + 1)) + 1 by omega, usedF, if_neg (fun e => hcont ⟨hp, e⟩)] at h5
          exact h5
        · rw [show n - i = 0 by omega] at h5
          exact h5
      clear HU1
      have HB := HB1
      clear HB1
      have c6 : IntKind.i64.wrap ((i : Int) + 1) = (i : Int) + 1 := IntWalk.i64_in _ (by omega)
      have c8 : (0 ≤ (i : Int)) = True := eq_true (by omega)
      have c9 : ((i : Int) ≤ (i : Int) + 1) = True := eq_true (by omega)
      have c10 : ((i : Int) + 1).toNat = i + 1 := by omega
      have d1 : IntKind.i64.wrap (2 * (i : Int)) = 2 * (i : Int) := IntWalk.i64_in _ (by omega)
      have d2 : IntKind.i64.wrap (2 * (i : Int) - (b.size : Int)) = 2 * (i : Int) - (b.size : Int) := IntWalk.i64_in _ (by omega)
      have d3 : ((i : Int) ≤ 8) = True := eq_true (by omega)
      by_cases hp : i < n
      · have hh : hasB b i = false := by
          cases e : hasB b i with
          | true => exact absurd ⟨hp, e⟩ hcont
          | false => rfl
        have c4 : decide ((i : Int) < (n : Int)) = true := decide_eq_true (by omega)
        have c5 : decide (i < n) = true := decide_eq_true hp
        have c7 : ((i : Int) + 1 ≤ 8) = True := eq_true (by omega)
        have HC := Aside0.mk (fun (W : World) => has_at b i (by omega) W)
        rw [hh] at HC
        go_wp2_with (first | (go_at_call 35; refine (HC.out _).mono ?_; rintro e w1 ⟨rfl, ⟨nd, rfl⟩⟩; have n1_ := Aside0.mk (pw_below_drewN HB.out nd); clear HB; have HB := n1_; clear n1_) | ((with_reducible refine gate_dst (N := 30) rfl ?_); refine Kd.R_lit (Kd.int .u8) _ 5 ?hg (N := 30) ?hd (xs := ([] : List Int)) (inner := []) (ok := fun _ => True) (okp := fun _ => True) ?hr ?hp (fun _ hk => hk) trivial (Below.refl _ _) (Nat.le_refl _) (by simp) ?_; (case hd => rfl); (case hg => rfl); (case hr => first | (go_simp; done) | (go_simp; rfl)); (case hp => exact (Reps.none _ _)); intro v30 w30 ho7 hb7 hg_ hnew_; clear hg_ hnew_; have n0_ := Aside0.mk (Kd.R_lower ho7 (below_size (by repeat (first | (with_reducible first | exact HB.out | apply below_alloc | apply pw_below_drewN | apply below_drew1) | exact HB.out)))); have n1_ := Aside0.mk (below_step (by repeat (first | (with_reducible first | exact HB.out | apply below_alloc | apply pw_below_drewN | apply below_drew1) | exact HB.out)) hb7); clear HB; have HO := n0_; have HB := n1_; clear n0_ n1_ hb7 ho7) | ((with_reducible refine gate_dst (N := 31) rfl ?_); refine Kd.R_lit (Kd.int .i64) _ 3 ?hg (N := 31) ?hd (xs := ([] : List Int)) (inner := []) (ok := fun _ => True) (okp := fun _ => True) ?hr ?hp (fun _ hk => hk) trivial (Below.refl _ _) (Nat.le_refl _) (by simp) ?_; (case hd => rfl); (case hg => rfl); (case hr => first | (go_simp; done) | (go_simp; rfl)); (case hp => exact (Reps.none _ _)); intro v31 w31 ho7 hb7 hg_ hnew_; clear hg_ hnew_; have o_HO := Aside0.mk (Kd.R_below (by (with_reducible repeat (first | apply Kd.R_alloc | apply Kd.R_drewN | apply Kd.R_drew)); exact HO.out) hb7); clear HO; have HO := o_HO; clear o_HO; have n0_ := Aside0.mk (Kd.R_lower ho7 (below_size (by repeat (first | (with_reducible first | exact HB.out | apply below_alloc | apply pw_below_drewN | apply below_drew1) | exact HB.out)))); have n1_ := Aside0.mk (below_step (by repeat (first | (with_reducible first | exact HB.out | apply below_alloc | apply pw_below_drewN | apply below_drew1) | exact HB.out)) hb7); clear HB; have HK := n0_; have HB := n1_; clear n0_ n1_ hb7 ho7))
        rw [print_bytes 9 35 5 Tryd.underlying9 Tryd.underlying35 Tryd.underlying5]
        simp only [Result.andThen]
        rw [Oper.upon_value]
        obtain ⟨hbl, hls⟩ : bytesOf (lettS i) = M.abcL i ∧ (lettS i).size = i := lettS_facts ⟨i, by omega⟩
        rw [show (⟨#[97, 98, 99, 100, 101, 102, 103, 104]⟩ : ByteArray).extract 0 i = lettS i from rfl]
        rw [hls]
        have hc0 := bytes_C w31 5 (lettS i) (by omega)
        rw [hbl, M.abc_length] at hc0
        have HB2 := Aside0.mk (bytes_below HB.out (HB.out.size) 5 (lettS i))
        have HO2 := Aside0.mk (Kd.R_below HO.out (bytes_below (Below.refl _ _) (Nat.le_refl _) 5 (lettS i)))
        have HK2 := Aside0.mk (Kd.R_below HK.out (bytes_below (Below.refl _ _) (Nat.le_refl _) 5 (lettS i)))
        have hn0 : v30.ownBlock ≠ some w31.heap.size := fun e => by
          obtain ⟨inner, ho, _⟩ := HO.out.2
          exact absurd (own_lt ho _ e) (by omega)
        have hn1 : v31.ownBlock ≠ some w31.heap.size := fun e => by
          obtain ⟨inner, ho, _⟩ := HK.out.2
          exact absurd (own_lt ho _ e) (by omega)
        have hlt0 : w31.heap.size < (Lib.bytesWorld w31 5 (lettS i)).heap.size := by
          rw [Lib.bytesWorld_size]
          omega
        clear HO HK HB
        generalize grownCap w31 i 0 5 = cp
        generalize Lib.bytesWorld w31 5 (lettS i) = W1 at hc0 HB2 HO2 HK2 hlt0 ⊢
        generalize w31.heap.size = B1 at hc0 hn0 hn1 hlt0 ⊢
        have HC1 := Aside0.mk (show ∀ j : Nat, j < i → W1.cell? ⟨B1, j, none⟩ = some (.int .u8 (97 + (j : Int))) from fun j hlt => by
          obtain ⟨ad, e1, hc⟩ := hc0.2.2 (by omega)
          injection e1 with e1
          subst e1
          obtain ⟨cs_, h1, h2, h3⟩ := hc j (97 + (j : Int)) (abc_get i j hlt)
          have h4 := h3 0 (.int .u8 (97 + (j : Int))) (by rw [show cs_ = [Value.int .u8 (97 + (j : Int))] from h2]; rfl)
          have ha : (⟨B1, 0, none⟩ : Addr).add (j * (Kd.int .u8).sz + 0) = ⟨B1, j, none⟩ := by
            rw [add_plain]
            show (⟨B1, j * 1 + 0, none⟩ : Addr) = _
            rw [show j * 1 + 0 = j by omega]
          rwa [ha] at h4)
        have HN := Aside0.mk (And.intro hn0 (And.intro hn1 hlt0))
        clear hc0 hn0 hn1 hlt0 hbl hls
        obtain ⟨p, hp1, hp2⟩ := Option.bind_eq_some_iff.mp HH.out
        have HP1 := Aside0.mk (show onwL k b (2 * (i : Int) - (b.size : Int) - 1) ((n : Int) - (i : Int)) (i - 0) 0 [] [] = some p from hp1)
        have HP2 := Aside0.mk hp2
        clear hp1 hp2 HH
        go_wp2_with fail
        clear HC
        have HC := HC1
        clear HC1
        go_loopg [8, 9, 11, 36] i (fun gg v8 v9 v11 v36 w' => ∃ (j : Nat) (ls0 cs0 : List Int), v36 = .int .i64 j ∧ Aside0 (j + gg = i) ∧ Aside0 (onwL k b (2 * (i : Int) - (b.size : Int) - 1) ((n : Int) - (i : Int)) (i - j) j ls0 cs0 = some p) ∧ Aside0 (ls0.length ≤ j ∧ cs0.length ≤ j) ∧ Aside0 (Kd.R (Kd.int .u8) 5 w' w.heap.size (fun _ => True) v8 ls0) ∧ Aside0 (Kd.R (Kd.int .i64) 3 w' w.heap.size (fun _ => True) v9 cs0) ∧ Aside0 (Below w.heap.size w w') ∧ Aside0 (∀ q : Nat, q < i → w'.cell? ⟨B1, q, none⟩ = some (.int .u8 (97 + (q : Int)))) ∧ Aside0 (v8.ownBlock ≠ some B1 ∧ v9.ownBlock ≠ some B1 ∧ B1 < w'.heap.size))
        case atStart => exact ⟨0, [], [], by first | rfl | (simp; done), ⟨by omega⟩, HP1, ⟨by simp⟩, HO2, HK2, HB2, HC, HN⟩
        case round =>
          obtain ⟨j, ls0, cs0, rfl, HG1, HP3, HLen, HO3, HK3, HB3, HW3, HN3⟩ := hrel
          clear HO2 HK2 HB2 HC HN HP1
          have HO := HO3
          have HK := HK3
          have HB := HB3
          have HW := HW3
          have HN := HN3
          clear HO3 HK3 HB3 HW3 HN3
          by_cases hj : j < i
          · have e4 : decide ((j : Int) < (i : Int)) = true := decide_eq_true (by omega)
            have e5 : decide (j < i) = true := decide_eq_true hj
            obtain ⟨gm, rfl⟩ : ∃ gm, gk = gm + 1 := ⟨gk - 1, by have := HG1.out; omega⟩
            have h0 := HW.out j hj
            have hx0 : (0 : Int) ≤ 97 + (j : Int) := by omega
            have hx1 : 97 + (j : Int) < 128 := by omega
            have HCt := Aside0.mk (fun (W : World) => count_small b (97 + (j : Int)) hx0 hx1 W)
            rw [show (97 + (j : Int)).toNat = 97 + j by omega] at HCt
            have hP := HP3.out
            rw [show i - j = (i - (j + 1)) + 1 by omega, onwL] at hP
            by_cases hct : b.data.toList.count ((97 + j : Nat).toUInt8) = 1
            · rw [if_pos hct] at hP
              rw [hct] at HCt
              obtain ⟨vv, hv1, hv2⟩ := Option.bind_eq_some_iff.mp hP
              have HV1 := Aside0.mk (fun (W : World) => impl_countOn.calls k _ _ vv W hv1)
              have HV2 := Aside0.mk hv2
              clear hP hv1 hv2 HP3
              have d4 : IntKind.i64.wrap (2 * (i : Int) - (b.size : Int) - 1) = 2 * (i : Int) - (b.size : Int) - 1 := IntWalk.i64_in _ (by omega)
              have d5 : IntKind.i64.wrap ((n : Int) - (i : Int)) = (n : Int) - (i : Int) := IntWalk.i64_in _ (by omega)
              clear h0
              have h0 : wr.cell? ⟨B1, j, none⟩ = some (.int .u8 (97 + (j : Int))) := HW.out j hj
              go_wp2_with (first | (go_at_call 38; refine (HCt.out _).mono ?_; rintro e w1 ⟨rfl, ⟨nd1, rfl⟩⟩; have n0_ := Aside0.mk (pw_below_drewN HB.out nd1); have n1_ := Aside0.mk (Kd.R_drewN HO.out nd1); have n2_ := Aside0.mk (Kd.R_drewN HK.out nd1); have n3_ := Aside0.mk (show ∀ q : Nat, q < i → (World.drewN _ nd1).cell? ⟨B1, q, none⟩ = some (.int .u8 (97 + (q : Int))) from HW.out); have n4_ := Aside0.mk (show _ ∧ _ ∧ B1 < (World.drewN _ nd1).heap.size from HN.out); clear HB HO HK HW HN; have HB := n0_; have HO := n1_; have HK := n2_; have HW := n3_; have HN := n4_; clear n0_ n1_ n2_ n3_ n4_) | (go_at_call 46; refine (HV1.out _).mono ?_; rintro e w1 ⟨rfl, ⟨nd2, rfl⟩⟩; have n0_ := Aside0.mk (pw_below_drewN HB.out nd2); have n1_ := Aside0.mk (Kd.R_drewN HO.out nd2); have n2_ := Aside0.mk (Kd.R_drewN HK.out nd2); have n3_ := Aside0.mk (show ∀ q : Nat, q < i → (World.drewN _ nd2).cell? ⟨B1, q, none⟩ = some (.int .u8 (97 + (q : Int))) from HW.out); have n4_ := Aside0.mk (show _ ∧ _ ∧ B1 < (World.drewN _ nd2).heap.size from HN.out); clear HB HO HK HW HN; have HB := n0_; have HO := n1_; have HK := n2_; have HW := n3_; have HN := n4_; clear n0_ n1_ n2_ n3_ n4_) | ((with_reducible refine gate_builtin (b := .append) (xs := #[.tmp 46, .tmp 48]) rfl ?_); at_builtin; refine Kd.R_append (Kd.int .u8) (w0 := w) w.heap.size rfl (.tmp 46) (.tmp 48) 35 5 (.int .u8 0) 1 rfl Tryd.underlying35 info5 rfl (by decide) (by omega) u8 ls0 (97 + (j : Int)) [.int .u8 (97 + (j : Int))] (fun _ => True) (fun _ => False) rfl rfl ?aP (fun _ hk => hk.elim) ?aF ?aO ?aB ?aS ?aL ?_; (case aP => exact rfl); (case aB => exact (by repeat (first | (with_reducible first | exact HB.out | apply below_alloc | apply pw_below_drewN | apply below_drew1) | exact HB.out))); (case aF => exact (fun _ _ => trivial)); (case aO => exact (by (with_reducible repeat (first | apply Kd.R_alloc | apply Kd.R_drewN | apply Kd.R_drew)); exact HO.out)); (case aS => exact (below_size (by repeat (first | (with_reducible first | exact HB.out | apply below_alloc | apply pw_below_drewN | apply below_drew1) | exact HB.out)))); (case aL => have := HLen.out; omega); intro v46 w46 ho hb hg hat; have n0_ := Aside0.mk hb; have n1_ := Aside0.mk ho; have n2_ := Aside0.mk (Kd.R_over (by (with_reducible repeat (first | apply Kd.R_alloc | apply Kd.R_drewN | apply Kd.R_drew)); exact HK.out) (by (with_reducible repeat (first | apply Kd.R_alloc | apply Kd.R_drewN | apply Kd.R_drew)); exact HO.out) (by decide) hg); have n3_ := Aside0.mk (fun (q : Nat) (hq : q < i) => (cell_grown hg HN.out.2.2 (fun e => HN.out.1 e.symm) q).trans (HW.out q hq)); have n4_ := Aside0.mk (show v46.ownBlock ≠ some B1 ∧ u9.ownBlock ≠ some B1 ∧ B1 < w46.heap.size from ⟨own_ne_append hat HN.out.1 HN.out.2.2, HN.out.2.1, Nat.lt_of_lt_of_le HN.out.2.2 hg.size⟩); clear HB HO HK HW HN; have HB := n0_; have HO := n1_; have HK := n2_; have HW := n3_; have HN := n4_; clear n0_ n1_ n2_ n3_ n4_ ho hb hg hat) | ((with_reducible refine gate_builtin (b := .append) (xs := #[.tmp 50, .tmp 57]) rfl ?_); at_builtin; refine Kd.R_append (Kd.int .i64) (w0 := w) w.heap.size rfl (.tmp 50) (.tmp 57) 36 3 (.int .i64 0) 8 rfl und_ints info_int rfl (by decide) (by omega) u9 cs0 vv [.int .i64 vv] (fun _ => True) (fun _ => False) rfl rfl ?aP (fun _ hk => hk.elim) ?aF ?aO ?aB ?aS ?aL ?_; (case aP => exact rfl); (case aB => exact (by repeat (first | (with_reducible first | exact HB.out | apply below_alloc | apply pw_below_drewN | apply below_drew1) | exact HB.out))); (case aF => exact (fun _ _ => trivial)); (case aO => exact (by (with_reducible repeat (first | apply Kd.R_alloc | apply Kd.R_drewN | apply Kd.R_drew)); exact HK.out)); (case aS => exact (below_size (by repeat (first | (with_reducible first | exact HB.out | apply below_alloc | apply pw_below_drewN | apply below_drew1) | exact HB.out)))); (case aL => have := HLen.out; omega); intro v50 w50 ho hb hg hat; have n0_ := Aside0.mk hb; have n1_ := Aside0.mk ho; have n2_ := Aside0.mk (Kd.R_over (by (with_reducible repeat (first | apply Kd.R_alloc | apply Kd.R_drewN | apply Kd.R_drew)); exact HO.out) (by (with_reducible repeat (first | apply Kd.R_alloc | apply Kd.R_drewN | apply Kd.R_drew)); exact HK.out) (by decide) hg); have n3_ := Aside0.mk (fun (q : Nat) (hq : q < i) => (cell_grown hg HN.out.2.2 (fun e => HN.out.2.1 e.symm) q).trans (HW.out q hq)); have n4_ := Aside0.mk (show v46.ownBlock ≠ some B1 ∧ v50.ownBlock ≠ some B1 ∧ B1 < w50.heap.size from ⟨HN.out.1, own_ne_append hat HN.out.2.1 HN.out.2.2, Nat.lt_of_lt_of_le HN.out.2.2 hg.size⟩); clear HB HK HO HW HN; have HB := n0_; have HK := n1_; have HO := n2_; have HW := n3_; have HN := n4_; clear n0_ n1_ n2_ n3_ n4_ ho hb hg hat))
              go_roundg gm
              case measure => omega
              case rel => exact ⟨j + 1, ls0 ++ [97 + (j : Int)], cs0 ++ [vv], by first | rfl | (simp; done), ⟨by have := HG1.out; omega⟩, HV2, ⟨by have := HLen.out; simp; omega⟩, HO, HK, HB, HW, HN⟩
            · rw [if_neg hct] at hP
              have HP4 := Aside0.mk hP
              have hq1 : (((b.data.toList.count ((97 + j : Nat).toUInt8) : Nat) : Int) == 1) = false := beq_eq_false_iff_ne.2 (by omega)
              generalize ((b.data.toList.count ((97 + j : Nat).toUInt8) : Nat) : Int) = qq at HCt hq1
              clear hP HP3
              go_wp2_with (go_at_call 38; refine (HCt.out _).mono ?_; rintro e w1 ⟨rfl, ⟨nd, rfl⟩⟩)
              go_roundg gm
              case measure => omega
              case rel => exact ⟨j + 1, ls0, cs0, by first | rfl | (simp; done), ⟨by have := HG1.out; omega⟩, HP4, ⟨by have := HLen.out; omega⟩, ⟨Kd.R_drewN HO.out nd⟩, ⟨Kd.R_drewN HK.out nd⟩, ⟨pw_below_drewN HB.out nd⟩, ⟨HW.out⟩, ⟨HN.out⟩⟩
          · have hji : j ≤ i := by have := HG1.out; omega
            have e4 : decide ((j : Int) < (i : Int)) = false := decide_eq_false (by omega)
            have e5 : decide (j < i) = false := decide_eq_false hj
            obtain rfl : p = (ls0, cs0) := by
              have h5 := HP3.out
              rw [show i - j = 0 by omega] at h5
              exact (Option.some.inj h5).symm
            have hP := HP2.out
            rw [if_pos hp] at hP
            obtain ⟨vv, hv1, hv2⟩ := Option.bind_eq_some_iff.mp hP
            obtain ⟨rfl, rfl⟩ := Prod.mk.inj (Option.some.inj hv2)
            have HV1 := Aside0.mk (fun (W : World) => impl_countOn.calls k _ _ vv W hv1)
            clear hP hv1 hv2 HP3 HP2 HW HN
            have d4 : IntKind.i64.wrap (2 * (i : Int) - (b.size : Int) + 1) = 2 * (i : Int) - (b.size : Int) + 1 := IntWalk.i64_in _ (by omega)
            have d5 : IntKind.i64.wrap ((n : Int) - (i : Int)) = (n : Int) - (i : Int) := IntWalk.i64_in _ (by omega)
            have d6 : IntKind.i64.wrap ((n : Int) - (i : Int) - 1) = (n : Int) - (i : Int) - 1 := IntWalk.i64_in _ (by omega)
            go_wp2_with (first | (go_at_call 46; refine (HV1.out _).mono ?_; rintro e w1 ⟨rfl, ⟨nd2, rfl⟩⟩; have n0_ := Aside0.mk (pw_below_drewN HB.out nd2); have n1_ := Aside0.mk (Kd.R_drewN HO.out nd2); have n2_ := Aside0.mk (Kd.R_drewN HK.out nd2); clear HB HO HK; have HB := n0_; have HO := n1_; have HK := n2_; clear n0_ n1_ n2_) | ((with_reducible refine gate_builtin (b := .append) (xs := #[.tmp 63, .tmp 67]) rfl ?_); at_builtin; refine Kd.R_append (Kd.int .u8) (w0 := w) w.heap.size rfl (.tmp 63) (.tmp 67) 35 5 (.int .u8 0) 1 rfl Tryd.underlying35 info5 rfl (by decide) (by omega) u8 ls0 (97 + (i : Int)) [.int .u8 (97 + (i : Int))] (fun _ => True) (fun _ => False) rfl rfl ?aP (fun _ hk => hk.elim) ?aF ?aO ?aB ?aS ?aL ?_; (case aP => exact rfl); (case aB => exact (by repeat (first | (with_reducible first | exact HB.out | apply below_alloc | apply pw_below_drewN | apply below_drew1) | exact HB.out))); (case aF => exact (fun _ _ => trivial)); (case aO => exact (by (with_reducible repeat (first | apply Kd.R_alloc | apply Kd.R_drewN | apply Kd.R_drew)); exact HO.out)); (case aS => exact (below_size (by repeat (first | (with_reducible first | exact HB.out | apply below_alloc | apply pw_below_drewN | apply below_drew1) | exact HB.out)))); (case aL => have := HLen.out; omega); intro v63 w63 ho hb hg hat; have n0_ := Aside0.mk hb; have n1_ := Aside0.mk ho; have n2_ := Aside0.mk (Kd.R_over (by (with_reducible repeat (first | apply Kd.R_alloc | apply Kd.R_drewN | apply Kd.R_drew)); exact HK.out) (by (with_reducible repeat (first | apply Kd.R_alloc | apply Kd.R_drewN | apply Kd.R_drew)); exact HO.out) (by decide) hg); clear HB HO HK; have HB := n0_; have HO := n1_; have HK := n2_; clear n0_ n1_ n2_ ho hb hg hat) | ((with_reducible refine gate_builtin (b := .append) (xs := #[.tmp 69, .tmp 77]) rfl ?_); at_builtin; refine Kd.R_append (Kd.int .i64) (w0 := w) w.heap.size rfl (.tmp 69) (.tmp 77) 36 3 (.int .i64 0) 8 rfl und_ints info_int rfl (by decide) (by omega) u9 cs0 vv [.int .i64 vv] (fun _ => True) (fun _ => False) rfl rfl ?aP (fun _ hk => hk.elim) ?aF ?aO ?aB ?aS ?aL ?_; (case aP => exact rfl); (case aB => exact (by repeat (first | (with_reducible first | exact HB.out | apply below_alloc | apply pw_below_drewN | apply below_drew1) | exact HB.out))); (case aF => exact (fun _ _ => trivial)); (case aO => exact (by (with_reducible repeat (first | apply Kd.R_alloc | apply Kd.R_drewN | apply Kd.R_drew)); exact HK.out)); (case aS => exact (below_size (by repeat (first | (with_reducible first | exact HB.out | apply below_alloc | apply pw_below_drewN | apply below_drew1) | exact HB.out)))); (case aL => have := HLen.out; omega); intro v69 w69 ho hb hg hat; have n0_ := Aside0.mk hb; have n1_ := Aside0.mk ho; have n2_ := Aside0.mk (Kd.R_over (by (with_reducible repeat (first | apply Kd.R_alloc | apply Kd.R_drewN | apply Kd.R_drew)); exact HO.out) (by (with_reducible repeat (first | apply Kd.R_alloc | apply Kd.R_drewN | apply Kd.R_drew)); exact HK.out) (by decide) hg); clear HB HK HO; have HB := n0_; have HK := n1_; have HO := n2_; clear n0_ n1_ n2_ ho hb hg hat))
            go_ret2
            exact ⟨_, _, rfl, HO.out, HK.out, HB.out⟩
      · have c4 : decide ((i : Int) < (n : Int)) = false := decide_eq_false (by omega)
        have c5 : decide (i < n) = false := decide_eq_false hp
        go_wp2_with (first | ((with_reducible refine gate_dst (N := 30) rfl ?_); refine Kd.R_lit (Kd.int .u8) _ 5 ?hg (N := 30) ?hd (xs := ([] : List Int)) (inner := []) (ok := fun _ => True) (okp := fun _ => True) ?hr ?hp (fun _ hk => hk) trivial (Below.refl _ _) (Nat.le_refl _) (by simp) ?_; (case hd => rfl); (case hg => rfl); (case hr => first | (go_simp; done) | (go_simp; rfl)); (case hp => exact (Reps.none _ _)); intro v30 w30 ho7 hb7 hg_ hnew_; clear hg_ hnew_; have n0_ := Aside0.mk (Kd.R_lower ho7 (below_size (by repeat (first | (with_reducible first | exact HB.out | apply below_alloc | apply pw_below_drewN | apply below_drew1) | exact HB.out)))); have n1_ := Aside0.mk (below_step (by repeat (first | (with_reducible first | exact HB.out | apply below_alloc | apply pw_below_drewN | apply below_drew1) | exact HB.out)) hb7); clear HB; have HO := n0_; have HB := n1_; clear n0_ n1_ hb7 ho7) | ((with_reducible refine gate_dst (N := 31) rfl ?_); refine Kd.R_lit (Kd.int .i64) _ 3 ?hg (N := 31) ?hd (xs := ([] : List Int)) (inner := []) (ok := fun _ => True) (okp := fun _ => True) ?hr ?hp (fun _ hk => hk) trivial (Below.refl _ _) (Nat.le_refl _) (by simp) ?_; (case hd => rfl); (case hg => rfl); (case hr => first | (go_simp; done) | (go_simp; rfl)); (case hp => exact (Reps.none _ _)); intro v31 w31 ho7 hb7 hg_ hnew_; clear hg_ hnew_; have o_HO := Aside0.mk (Kd.R_below (by (with_reducible repeat (first | apply Kd.R_alloc | apply Kd.R_drewN | apply Kd.R_drew)); exact HO.out) hb7); clear HO; have HO := o_HO; clear o_HO; have n0_ := Aside0.mk (Kd.R_lower ho7 (below_size (by repeat (first | (with_reducible first | exact HB.out | apply below_alloc | apply pw_below_drewN | apply below_drew1) | exact HB.out)))); have n1_ := Aside0.mk (below_step (by repeat (first | (with_reducible first | exact HB.out | apply below_alloc | apply pw_below_drewN | apply below_drew1) | exact HB.out)) hb7); clear HB; have HK := n0_; have HB := n1_; clear n0_ n1_ hb7 ho7))
        rw [print_bytes 9 35 5 Tryd.underlying9 Tryd.underlying35 Tryd.underlying5]
        simp only [Result.andThen]
        rw [Oper.upon_value]
        obtain ⟨hbl, hls⟩ : bytesOf (lettS i) = M.abcL i ∧ (lettS i).size = i := lettS_facts ⟨i, by omega⟩
        rw [show (⟨#[97, 98, 99, 100, 101, 102, 103, 104]⟩ : ByteArray).extract 0 i = lettS i from rfl]
        rw [hls]
        have hc0 := bytes_C w31 5 (lettS i) (by omega)
        rw [hbl, M.abc_length] at hc0
        have HB2 := Aside0.mk (bytes_below HB.out (HB.out.size) 5 (lettS i))
        have HO2 := Aside0.mk (Kd.R_below HO.out (bytes_below (Below.refl _ _) (Nat.le_refl _) 5 (lettS i)))
        have HK2 := Aside0.mk (Kd.R_below HK.out (bytes_below (Below.refl _ _) (Nat.le_refl _) 5 (lettS i)))
        have hn0 : v30.ownBlock ≠ some w31.heap.size := fun e => by
          obtain ⟨inner, ho, _⟩ := HO.out.2
          exact absurd (own_lt ho _ e) (by omega)
        have hn1 : v31.ownBlock ≠ some w31.heap.size := fun e => by
          obtain ⟨inner, ho, _⟩ := HK.out.2
          exact absurd (own_lt ho _ e) (by omega)
        have hlt0 : w31.heap.size < (Lib.bytesWorld w31 5 (lettS i)).heap.size := by
          rw [Lib.bytesWorld_size]
          omega
        clear HO HK HB
        generalize grownCap w31 i 0 5 = cp
        generalize Lib.bytesWorld w31 5 (lettS i) = W1 at hc0 HB2 HO2 HK2 hlt0 ⊢
        generalize w31.heap.size = B1 at hc0 hn0 hn1 hlt0 ⊢
        have HC1 := Aside0.mk (show ∀ j : Nat, j < i → W1.cell? ⟨B1, j, none⟩ = some (.int .u8 (97 + (j : Int))) from fun j hlt => by
          obtain ⟨ad, e1, hc⟩ := hc0.2.2 (by omega)
          injection e1 with e1
          subst e1
          obtain ⟨cs_, h1, h2, h3⟩ := hc j (97 + (j : Int)) (abc_get i j hlt)
          have h4 := h3 0 (.int .u8 (97 + (j : Int))) (by rw [show cs_ = [Value.int .u8 (97 + (j : Int))] from h2]; rfl)
          have ha : (⟨B1, 0, none⟩ : Addr).add (j * (Kd.int .u8).sz + 0) = ⟨B1, j, none⟩ := by
            rw [add_plain]
            show (⟨B1, j * 1 + 0, none⟩ : Addr) = _
            rw [show j * 1 + 0 = j by omega]
          rwa [ha] at h4)
        have HN := Aside0.mk (And.intro hn0 (And.intro hn1 hlt0))
        clear hc0 hn0 hn1 hlt0 hbl hls
        obtain ⟨p, hp1, hp2⟩ := Option.bind_eq_some_iff.mp HH.out
        have HP1 := Aside0.mk (show onwL k b (2 * (i : Int) - (b.size : Int) - 1) ((n : Int) - (i : Int)) (i - 0) 0 [] [] = some p from hp1)
        have HP2 := Aside0.mk hp2
        clear hp1 hp2 HH
        go_wp2_with fail
        have HC := HC1
        clear HC1
        go_loopg [8, 9, 11, 36] i (fun gg v8 v9 v11 v36 w' => ∃ (j : Nat) (ls0 cs0 : List Int), v36 = .int .i64 j ∧ Aside0 (j + gg = i) ∧ Aside0 (onwL k b (2 * (i : Int) - (b.size : Int) - 1) ((n : Int) - (i : Int)) (i - j) j ls0 cs0 = some p) ∧ Aside0 (ls0.length ≤ j ∧ cs0.length ≤ j) ∧ Aside0 (Kd.R (Kd.int .u8) 5 w' w.heap.size (fun _ => True) v8 ls0) ∧ Aside0 (Kd.R (Kd.int .i64) 3 w' w.heap.size (fun _ => True) v9 cs0) ∧ Aside0 (Below w.heap.size w w') ∧ Aside0 (∀ q : Nat, q < i → w'.cell? ⟨B1, q, none⟩ = some (.int .u8 (97 + (q : Int)))) ∧ Aside0 (v8.ownBlock ≠ some B1 ∧ v9.ownBlock ≠ some B1 ∧ B1 < w'.heap.size))
        case atStart => exact ⟨0, [], [], by first | rfl | (simp; done), ⟨by omega⟩, HP1, ⟨by simp⟩, HO2, HK2, HB2, HC, HN⟩
        case round =>
          obtain ⟨j, ls0, cs0, rfl, HG1, HP3, HLen, HO3, HK3, HB3, HW3, HN3⟩ := hrel
          clear HO2 HK2 HB2 HC HN HP1
          have HO := HO3
          have HK := HK3
          have HB := HB3
          have HW := HW3
          have HN := HN3
          clear HO3 HK3 HB3 HW3 HN3
          by_cases hj : j < i
          · have e4 : decide ((j : Int) < (i : Int)) = true := decide_eq_true (by omega)
            have e5 : decide (j < i) = true := decide_eq_true hj
            obtain ⟨gm, rfl⟩ : ∃ gm, gk = gm + 1 := ⟨gk - 1, by have := HG1.out; omega⟩
            have h0 := HW.out j hj
            have hx0 : (0 : Int) ≤ 97 + (j : Int) := by omega
            have hx1 : 97 + (j : Int) < 128 := by omega
            have HCt := Aside0.mk (fun (W : World) => count_small b (97 + (j : Int)) hx0 hx1 W)
            rw [show (97 + (j : Int)).toNat = 97 + j by omega] at HCt
            have hP := HP3.out
            rw [show i - j = (i - (j + 1)) + 1 by omega, onwL] at hP
            by_cases hct : b.data.toList.count ((97 + j : Nat).toUInt8) = 1
            · rw [if_pos hct] at hP
              rw [hct] at HCt
              obtain ⟨vv, hv1, hv2⟩ := Option.bind_eq_some_iff.mp hP
              have HV1 := Aside0.mk (fun (W : World) => impl_countOn.calls k _ _ vv W hv1)
              have HV2 := Aside0.mk hv2
              clear hP hv1 hv2 HP3
              have d4 : IntKind.i64.wrap (2 * (i : Int) - (b.size : Int) - 1) = 2 * (i : Int) - (b.size : Int) - 1 := IntWalk.i64_in _ (by omega)
              have d5 : IntKind.i64.wrap ((n : Int) - (i : Int)) = (n : Int) - (i : Int) := IntWalk.i64_in _ (by omega)
              clear h0
              have h0 : wr.cell? ⟨B1, j, none⟩ = some (.int .u8 (97 + (j : Int))) := HW.out j hj
              go_wp2_with (first | (go_at_call 38; refine (HCt.out _).mono ?_; rintro e w1 ⟨rfl, ⟨nd1, rfl⟩⟩; have n0_ := Aside0.mk (pw_below_drewN HB.out nd1); have n1_ := Aside0.mk (Kd.R_drewN HO.out nd1); have n2_ := Aside0.mk (Kd.R_drewN HK.out nd1); have n3_ := Aside0.mk (show ∀ q : Nat, q < i → (World.drewN _ nd1).cell? ⟨B1, q, none⟩ = some (.int .u8 (97 + (q : Int))) from HW.out); have n4_ := Aside0.mk (show _ ∧ _ ∧ B1 < (World.drewN _ nd1).heap.size from HN.out); clear HB HO HK HW HN; have HB := n0_; have HO := n1_; have HK := n2_; have HW := n3_; have HN := n4_; clear n0_ n1_ n2_ n3_ n4_) | (go_at_call 46; refine (HV1.out _).mono ?_; rintro e w1 ⟨rfl, ⟨nd2, rfl⟩⟩; have n0_ := Aside0.mk (pw_below_drewN HB.out nd2); have n1_ := Aside0.mk (Kd.R_drewN HO.out nd2); have n2_ := Aside0.mk (Kd.R_drewN HK.out nd2); have n3_ := Aside0.mk (show ∀ q : Nat, q < i → (World.drewN _ nd2).cell? ⟨B1, q, none⟩ = some (.int .u8 (97 + (q : Int))) from HW.out); have n4_ := Aside0.mk (show _ ∧ _ ∧ B1 < (World.drewN _ nd2).heap.size from HN.out); clear HB HO HK HW HN; have HB := n0_; have HO := n1_; have HK := n2_; have HW := n3_; have HN := n4_; clear n0_ n1_ n2_ n3_ n4_) | ((with_reducible refine gate_builtin (b := .append) (xs := #[.tmp 46, .tmp 48]) rfl ?_); at_builtin; refine Kd.R_append (Kd.int .u8) (w0 := w) w.heap.size rfl (.tmp 46) (.tmp 48) 35 5 (.int .u8 0) 1 rfl Tryd.underlying35 info5 rfl (by decide) (by omega) u8 ls0 (97 + (j : Int)) [.int .u8 (97 + (j : Int))] (fun _ => True) (fun _ => False) rfl rfl ?aP (fun _ hk => hk.elim) ?aF ?aO ?aB ?aS ?aL ?_; (case aP => exact rfl); (case aB => exact (by repeat (first | (with_reducible first | exact HB.out | apply below_alloc | apply pw_below_drewN | apply below_drew1) | exact HB.out))); (case aF => exact (fun _ _ => trivial)); (case aO => exact (by (with_reducible repeat (first | apply Kd.R_alloc | apply Kd.R_drewN | apply Kd.R_drew)); exact HO.out)); (case aS => exact (below_size (by repeat (first | (with_reducible first | exact HB.out | apply below_alloc | apply pw_below_drewN | apply below_drew1) | exact HB.out)))); (case aL => have := HLen.out; omega); intro v46 w46 ho hb hg hat; have n0_ := Aside0.mk hb; have n1_ := Aside0.mk ho; have n2_ := Aside0.mk (Kd.R_over (by (with_reducible repeat (first | apply Kd.R_alloc | apply Kd.R_drewN | apply Kd.R_drew)); exact HK.out) (by (with_reducible repeat (first | apply Kd.R_alloc | apply Kd.R_drewN | apply Kd.R_drew)); exact HO.out) (by decide) hg); have n3_ := Aside0.mk (fun (q : Nat) (hq : q < i) => (cell_grown hg HN.out.2.2 (fun e => HN.out.1 e.symm) q).trans (HW.out q hq)); have n4_ := Aside0.mk (show v46.ownBlock ≠ some B1 ∧ u9.ownBlock ≠ some B1 ∧ B1 < w46.heap.size from ⟨own_ne_append hat HN.out.1 HN.out.2.2, HN.out.2.1, Nat.lt_of_lt_of_le HN.out.2.2 hg.size⟩); clear HB HO HK HW HN; have HB := n0_; have HO := n1_; have HK := n2_; have HW := n3_; have HN := n4_; clear n0_ n1_ n2_ n3_ n4_ ho hb hg hat) | ((with_reducible refine gate_builtin (b := .append) (xs := #[.tmp 50, .tmp 57]) rfl ?_); at_builtin; refine Kd.R_append (Kd.int .i64) (w0 := w) w.heap.size rfl (.tmp 50) (.tmp 57) 36 3 (.int .i64 0) 8 rfl und_ints info_int rfl (by decide) (by omega) u9 cs0 vv [.int .i64 vv] (fun _ => True) (fun _ => False) rfl rfl ?aP (fun _ hk => hk.elim) ?aF ?aO ?aB ?aS ?aL ?_; (case aP => exact rfl); (case aB => exact (by repeat (first | (with_reducible first | exact HB.out | apply below_alloc | apply pw_below_drewN | apply below_drew1) | exact HB.out))); (case aF => exact (fun _ _ => trivial)); (case aO => exact (by (with_reducible repeat (first | apply Kd.R_alloc | apply Kd.R_drewN | apply Kd.R_drew)); exact HK.out)); (case aS => exact (below_size (by repeat (first | (with_reducible first | exact HB.out | apply below_alloc | apply pw_below_drewN | apply below_drew1) | exact HB.out)))); (case aL => have := HLen.out; omega); intro v50 w50 ho hb hg hat; have n0_ := Aside0.mk hb; have n1_ := Aside0.mk ho; have n2_ := Aside0.mk (Kd.R_over (by (with_reducible repeat (first | apply Kd.R_alloc | apply Kd.R_drewN | apply Kd.R_drew)); exact HO.out) (by (with_reducible repeat (first | apply Kd.R_alloc | apply Kd.R_drewN | apply Kd.R_drew)); exact HK.out) (by decide) hg); have n3_ := Aside0.mk (fun (q : Nat) (hq : q < i) => (cell_grown hg HN.out.2.2 (fun e => HN.out.2.1 e.symm) q).trans (HW.out q hq)); have n4_ := Aside0.mk (show v46.ownBlock ≠ some B1 ∧ v50.ownBlock ≠ some B1 ∧ B1 < w50.heap.size from ⟨HN.out.1, own_ne_append hat HN.out.2.1 HN.out.2.2, Nat.lt_of_lt_of_le HN.out.2.2 hg.size⟩); clear HB HK HO HW HN; have HB := n0_; have HK := n1_; have HO := n2_; have HW := n3_; have HN := n4_; clear n0_ n1_ n2_ n3_ n4_ ho hb hg hat))
              go_roundg gm
              case measure => omega
              case rel => exact ⟨j + 1, ls0 ++ [97 + (j : Int)], cs0 ++ [vv], by first | rfl | (simp; done), ⟨by have := HG1.out; omega⟩, HV2, ⟨by have := HLen.out; simp; omega⟩, HO, HK, HB, HW, HN⟩
            · rw [if_neg hct] at hP
              have HP4 := Aside0.mk hP
              have hq1 : (((b.data.toList.count ((97 + j : Nat).toUInt8) : Nat) : Int) == 1) = false := beq_eq_false_iff_ne.2 (by omega)
              generalize ((b.data.toList.count ((97 + j : Nat).toUInt8) : Nat) : Int) = qq at HCt hq1
              clear hP HP3
              go_wp2_with (go_at_call 38; refine (HCt.out _).mono ?_; rintro e w1 ⟨rfl, ⟨nd, rfl⟩⟩)
              go_roundg gm
              case measure => omega
              case rel => exact ⟨j + 1, ls0, cs0, by first | rfl | (simp; done), ⟨by have := HG1.out; omega⟩, HP4, ⟨by have := HLen.out; omega⟩, ⟨Kd.R_drewN HO.out nd⟩, ⟨Kd.R_drewN HK.out nd⟩, ⟨pw_below_drewN HB.out nd⟩, ⟨HW.out⟩, ⟨HN.out⟩⟩
          · have hji : j ≤ i := by have := HG1.out; omega
            have e4 : decide ((j : Int) < (i : Int)) = false := decide_eq_false (by omega)
            have e5 : decide (j < i) = false := decide_eq_false hj
            obtain rfl : p = (ls0, cs0) := by
              have h5 := HP3.out
              rw [show i - j = 0 by omega] at h5
              exact (Option.some.inj h5).symm
            have hP := HP2.out
            rw [if_neg hp] at hP
            obtain ⟨rfl, rfl⟩ := Prod.mk.inj (Option.some.inj hP)
            clear hP HP3 HP2 HW HN
            go_wp2_with fail
            go_ret2
            exact ⟨_, _, rfl, HO.out, HK.out, HB.out⟩
end Go.Proofs.YtkfllbbpclgffaaDoor.Pr

/- Steps for functions with a number of rounds: what holds from some number of rounds on. -/
namespace Go.Proofs.YtkfllbbpclgffaaDoor.M
open Go.RowKit Go.Proofs.YtkfllbbpclgffaaDoorW.PrintWords
set_option linter.unusedVariables false
set_option linter.unusedSimpArgs false

theorem w64 {x : Int} (h0 : -9223372036854775808 ≤ x) (h1 : x ≤ 9223372036854775807) : wrap64 x = x := by
  unfold wrap64
  omega

theorem Ev.pos {α : Type} {c : Prop} [Decidable c] {A B : Nat → Option α} {r : α} (h : c) (e : Ev A r) : Ev (fun k => if c then A k else B k) r := by
  simp only [h, if_true]
  exact e
theorem Ev.neg {α : Type} {c : Prop} [Decidable c] {A B : Nat → Option α} {r : α} (h : ¬ c) (e : Ev B r) : Ev (fun k => if c then A k else B k) r := by
  simp only [h, if_false]
  exact e
theorem Ev.bindc {α β : Type} {o : Option α} {f : Nat → α → Option β} {a : α} {r : β} (h : o = some a) (e : Ev (fun k => f k a) r) : Ev (fun k => o.bind (f k)) r := by
  subst h
  exact e
theorem Ev.bindk {α β : Type} {g : Nat → Option α} {f : Nat → α → Option β} {a : α} {r : β} (h : Ev g a) (e : Ev (fun k => f k a) r) : Ev (fun k => (g k).bind (f k)) r := Ev.bind h e
theorem Ev.val {α : Type} {r r' : α} (h : r = r') : Ev (fun _ => some r) r' := by
  subst h
  exact Ev.now r
/-- Two values of one thing are one. -/
theorem Ev.uniq {α : Type} {g : Nat → Option α} {r r' : α} (h : Ev g r) (h' : Ev g r') : r = r' := by
  obtain ⟨K, h⟩ := h
  obtain ⟨K', h'⟩ := h'
  have e := (h (max K K') (Nat.le_max_left _ _)).symm.trans (h' (max K K') (Nat.le_max_right _ _))
  exact Option.some.inj e

/-- A loop over a list by its index: what is left of the list decides the answer R; P is kept. -/
theorem Ev.scan {α β γ : Type} (L : Nat → Int → β → Option γ) (xs : List α) (R : List α → β → γ) (P : Nat → β → Prop)
    (h0 : ∀ acc, P xs.length acc → Ev (fun k => L k (xs.length : Int) acc) (R [] acc))
    (h1 : ∀ (i : Nat) (h : i < xs.length) (acc : β), P i acc → (∃ acc', P (i + 1) acc' ∧ R (xs[i] :: xs.drop (i + 1)) acc = R (xs.drop (i + 1)) acc' ∧ ∀ r, Ev (fun k => L k ((i : Int) + 1) acc') r → Ev (fun k => L k (i : Int) acc) r)
      ∨ Ev (fun k => L k (i : Int) acc) (R (xs[i] :: xs.drop (i + 1)) acc)) :
    ∀ (d i : Nat) (acc : β), i + d = xs.length → P i acc → Ev (fun k => L k (i : Int) acc) (R (xs.drop i) acc) := by
  intro d
  induction d with
  | zero =>
    intro i acc hi hp
    obtain rfl : i = xs.length := by omega
    rw [List.drop_length]
    exact h0 acc hp
  | succ d ih =>
    intro i acc hi hp
    have hlt : i < xs.length := by omega
    rw [List.drop_eq_getElem_cons hlt]
    rcases h1 i hlt acc hp with ⟨acc', hp', hR, hk⟩ | h
    · rw [hR]
      refine hk _ ?_
      have e := ih (i + 1) acc' (by omega) hp'
      rw [show (((i + 1 : Nat)) : Int) = (i : Int) + 1 from by omega] at e
      exact e
    · exact h
theorem Ev.scan0 {α β γ : Type} (L : Nat → Int → β → Option γ) (xs : List α) (R : List α → β → γ) (P : Nat → β → Prop)
    (h0 : ∀ acc, P xs.length acc → Ev (fun k => L k (xs.length : Int) acc) (R [] acc))
    (h1 : ∀ (i : Nat) (h : i < xs.length) (acc : β), P i acc → (∃ acc', P (i + 1) acc' ∧ R (xs[i] :: xs.drop (i + 1)) acc = R (xs.drop (i + 1)) acc' ∧ ∀ r, Ev (fun k => L k ((i : Int) + 1) acc') r → Ev (fun k => L k (i : Int) acc) r)
      ∨ Ev (fun k => L k (i : Int) acc) (R (xs[i] :: xs.drop (i + 1)) acc)) (acc : β) (hp : P 0 acc) : Ev (fun k => L k 0 acc) (R xs acc) := by
  have e := Ev.scan L xs R P h0 h1 xs.length 0 acc (by omega) hp
  simpa using e

/-- Counting up from i to n. -/
theorem Ev.upto {β γ : Type} (L : Nat → Int → β → Option γ) (n : Int) (R : Int → β → γ) (P : Int → β → Prop)
    (h0 : ∀ i acc, n ≤ i → P i acc → Ev (fun k => L k i acc) (R i acc))
    (h1 : ∀ i acc, i < n → P i acc → (∃ acc', P (i + 1) acc' ∧ R i acc = R (i + 1) acc' ∧ ∀ r, Ev (fun k => L k (i + 1) acc') r → Ev (fun k => L k i acc) r) ∨ Ev (fun k => L k i acc) (R i acc)) :
    ∀ (d : Nat) (i : Int) (acc : β), n ≤ i + d → P i acc → Ev (fun k => L k i acc) (R i acc) := by
  intro d
  induction d with
  | zero => intro i acc hi hp; exact h0 i acc (by omega) hp
  | succ d ih =>
    intro i acc hi hp
    by_cases hlt : i < n
    · rcases h1 i acc hlt hp with ⟨acc', hp', hR, hk⟩ | h
      · rw [hR]
        exact hk _ (ih (i + 1) acc' (by omega) hp')
      · exact h
    · exact h0 i acc (by omega) hp
end Go.Proofs.YtkfllbbpclgffaaDoor.M

/- Texts as lists of bytes. -/
namespace Go.Proofs.YtkfllbbpclgffaaDoor.M
open Go.RowKit Go.Proofs.YtkfllbbpclgffaaDoorW.PrintWords
set_option linter.unusedVariables false
set_option linter.unusedSimpArgs false

/-- A loop over a list inside another one: what is left of the list decides the state in which the rest goes on. -/
theorem Ev.cpsB {α β γ : Type} (L : Nat → Int → β → Option γ) (K : Nat → β → Option γ) (xs : List α) (F : List α → β → β) (P : Nat → β → Prop)
    (h0 : ∀ acc r, P xs.length acc → Ev (fun k => K k (F [] acc)) r → Ev (fun k => L k (xs.length : Int) acc) r)
    (h1 : ∀ (i : Nat) (h : i < xs.length) (acc : β), P i acc → ∃ acc', P (i + 1) acc' ∧ F (xs[i] :: xs.drop (i + 1)) acc = F (xs.drop (i + 1)) acc' ∧ ∀ r, Ev (fun k => L k ((i : Int) + 1) acc') r → Ev (fun k => L k (i : Int) acc) r) :
    ∀ (d i : Nat) (acc : β) (r : γ), i + d = xs.length → P i acc → Ev (fun k => K k (F (xs.drop i) acc)) r → Ev (fun k => L k (i : Int) acc) r := by
  intro d
  induction d with
  | zero =>
    intro i acc r hi hp hr
    obtain rfl : i = xs.length := by omega
    rw [List.drop_length] at hr
    exact h0 acc r hp hr
  | succ d ih =>
    intro i acc r hi hp hr
    have hlt : i < xs.length := by omega
    rw [List.drop_eq_getElem_cons hlt] at hr
    obtain ⟨acc', hp', hF, hk⟩ := h1 i hlt acc hp
    rw [hF] at hr
    refine hk r ?_
    have e := ih (i + 1) acc' r (by omega) hp' hr
    rw [show (((i + 1 : Nat)) : Int) = (i : Int) + 1 from by omega] at e
    exact e

theorem bytesOf_get (s : ByteArray) (i : Nat) (h : i < (bytesOf s).length) : bt s (i : Int) = (bytesOf s)[i] := by
  rw [← rd_bytesOf]
  unfold rd
  simp [List.getD_eq_getElem?_getD, List.getElem?_eq_getElem h]
theorem bytesOf_byte (s : ByteArray) : ∀ x ∈ bytesOf s, 0 ≤ x ∧ x < 256 := by
  intro x hx
  obtain ⟨b, _, rfl⟩ := List.mem_map.1 hx
  have := b.toNat_lt
  omega
theorem bytesOf_append (s t : ByteArray) : bytesOf (s ++ t) = bytesOf s ++ bytesOf t := by
  unfold bytesOf
  rw [ByteArray.data_append]
  simp
theorem bytesOf_extract (s : ByteArray) (a b : Nat) : bytesOf (s.extract a b) = ((bytesOf s).take b).drop a := by
  unfold bytesOf
  rw [ByteArray.data_extract, Array.toList_extract, List.extract_eq_take_drop, List.map_take, List.map_drop, List.drop_take]
theorem bytesOf_nil : bytesOf ⟨#[]⟩ = [] := rfl
theorem bytesOf_inj {s t : ByteArray} (h : bytesOf s = bytesOf t) : s = t := by
  have e : s.data.toList = t.data.toList := by
    refine (List.map_inj_right ?_).1 h
    intro a b hab
    exact UInt8.toNat_inj.1 (by omega)
  exact ByteArray.ext (Array.toList_inj.1 e)
theorem bytesOf_strOf (xs : List Int) (h : ∀ x ∈ xs, 0 ≤ x ∧ x < 256) : bytesOf (strOfNums xs) = xs := by
  unfold bytesOf strOfNums
  simp only [List.map_map]
  conv => rhs; rw [← List.map_id xs]
  refine List.map_congr_left fun x hx => ?_
  have := h x hx
  simp
  omega
theorem strOf_bytesOf (s : ByteArray) : strOfNums (bytesOf s) = s := bytesOf_inj (bytesOf_strOf _ (bytesOf_byte s))
theorem toList_inj {s t : ByteArray} : s.toList = t.toList ↔ s = t := by
  constructor
  · intro e
    rw [ByteArray.toList_eq, ByteArray.toList_eq] at e
    exact ByteArray.ext (Array.toList_inj.1 e)
  · rintro rfl; rfl
theorem toList_beq (s t : ByteArray) : (s.toList == t.toList) = (bytesOf s == bytesOf t) := by
  rw [Bool.eq_iff_iff, beq_iff_eq, beq_iff_eq, toList_inj]
  exact ⟨fun e => by rw [e], bytesOf_inj⟩
/-- One byte of a text, as a text. -/
theorem bytesOf_one (s : ByteArray) (i : Nat) (h : i < (bytesOf s).length) : bytesOf (s.extract i (i + 1)) = [(bytesOf s)[i]] := by
  rw [bytesOf_extract, List.take_succ_eq_append_getElem h, List.drop_append_of_le_length (by simp; omega), List.drop_of_length_le (by simp; omega)]
  rfl

/-- The place of a byte, or -1. -/
def ixL (l : List Int) (x : Int) : Int := if x ∈ l then (l.idxOf x : Int) else -1
theorem index_eq : ∀ (l : List UInt8) (x : Int), 0 ≤ x → x < 256 → Lib.indexByte l x.toNat.toUInt8 = ixL (l.map fun b => (b.toNat : Int)) x
  | [], x, _, _ => rfl
  | b :: l, x, h0, h1 => by
    have ih := index_eq l x h0 h1
    have hb := b.toNat_lt
    have e1 : (b == x.toNat.toUInt8) = ((b.toNat : Int) == x) := by
      rw [Bool.eq_iff_iff, beq_iff_eq, beq_iff_eq]
      constructor
      · rintro rfl
        simp
        omega
      · intro e
        subst e
        simp
    unfold Lib.indexByte ixL
    rw [ih, e1]
    unfold ixL
    rw [List.map_cons, List.idxOf_cons]
    by_cases e : (b.toNat : Int) = x
    · rw [if_pos (by simpa using e), if_pos (by simp [e])]
      simp [e]
    · have e2 : ((b.toNat : Int) == x) = false := by simpa using e
      rw [e2]
      simp only [Bool.false_eq_true, if_false, cond_false]
      by_cases hm : x ∈ l.map fun b => (b.toNat : Int)
      · rw [if_pos hm, if_pos (List.mem_cons_of_mem _ hm), if_neg (by simp)]
        omega
      · rw [if_neg hm, if_neg (c := x ∈ _ :: _) (by simp only [List.mem_cons, not_or]; exact ⟨fun h => e h.symm, hm⟩)]
        rfl
theorem indexB_eq (s : ByteArray) (x : Int) (h0 : 0 ≤ x) (h1 : x < 256) : Lib.indexByte s.data.toList x.toNat.toUInt8 = ixL (bytesOf s) x := index_eq _ x h0 h1
theorem count_eq (s : ByteArray) (x : Int) (h0 : 0 ≤ x) (h1 : x < 256) : s.data.toList.count x.toNat.toUInt8 = (bytesOf s).count x := by
  unfold bytesOf
  generalize s.data.toList = l
  induction l with
  | nil => rfl
  | cons b l ih =>
    have hb := b.toNat_lt
    rw [List.map_cons, List.count_cons, List.count_cons, ih]
    congr 1
    have e1 : (b == x.toNat.toUInt8) = ((b.toNat : Int) == x) := by
      rw [Bool.eq_iff_iff, beq_iff_eq, beq_iff_eq]
      constructor
      · rintro rfl
        simp
        omega
      · intro e
        subst e
        simp
    rw [e1]
end Go.Proofs.YtkfllbbpclgffaaDoor.M

/- What the program's RankOfLoop computes. -/
namespace Go.Proofs.YtkfllbbpclgffaaDoor.Pr
open Go.RowKit Go.Proofs.YtkfllbbpclgffaaDoorW.PrintWords Go.Proofs.YtkfllbbpclgffaaDoorW.PrintLast Go.Proofs.YtkfllbbpclgffaaDoorW.PrintMore
set_option linter.unusedVariables false
set_option linter.unusedSimpArgs false

/-- What the letters ahead of one count, from place i on. -/
def sumF (x : Int) (p : List Int × List Int) : Nat → Nat → Int → Int
  | 0, _, r => r
  | d + 1, i, r => sumF x p d (i + 1) (if rd p.1 (i : Int) < x then wrap64 (r + rd p.2 (i : Int)) else r)
def rankF (k : Nat) (w : ByteArray) : Nat → Nat → Int → Option Int
  | 0, _, r => some r
  | d + 1, i, r => (onwF k (w.size / 2) (w.extract 0 i)).bind fun p => if p.1.length = p.2.length ∧ p.1.length ≤ 100 then rankF k w d (i + 1) (sumF (bt w (i : Int)) p p.1.length 0 r) else none
def impl_RankOfLoop.f (k : Nat) (a0 : ByteArray) : Option (Int × Bool) :=
  (impl_IsLoop.f k a0).bind fun g => if g = true then (if a0.size ≤ 16 then (rankF k a0 a0.size 0 0).bind fun r => some (r, true) else none) else some (0, false)
theorem onwL_mono (b : ByteArray) (x y : Int) : ∀ (d i : Nat) (ls cs : List Int) (k : Nat), LeO (onwL k b x y d i ls cs) (onwL (k + 1) b x y d i ls cs)
  | 0, _, _, _, _ => LeO.refl _
  | d + 1, i, ls, cs, k => by
    unfold onwL
    exact LeO.ite (LeO.bind (impl_countOn.mono _ _ _) (fun v => onwL_mono b x y d (i + 1) _ _ k)) (onwL_mono b x y d (i + 1) _ _ k)
theorem onwF_mono (n : Nat) (b : ByteArray) (k : Nat) : LeO (onwF k n b) (onwF (k + 1) n b) := by
  unfold onwF
  exact LeO.bind (onwL_mono _ _ _ _ _ _ _ _) (fun p => LeO.ite (LeO.bind (impl_countOn.mono _ _ _) (fun _ => LeO.refl _)) (LeO.refl _))
theorem rankF_mono (w : ByteArray) : ∀ (d i : Nat) (r : Int) (k : Nat), LeO (rankF k w d i r) (rankF (k + 1) w d i r)
  | 0, _, _, _ => LeO.refl _
  | d + 1, i, r, k => by
    unfold rankF
    exact LeO.bind (onwF_mono _ _ _) (fun p => LeO.ite (rankF_mono w d (i + 1) _ k) (LeO.refl _))
theorem impl_RankOfLoop.mono : ∀ a0 k, LeO (impl_RankOfLoop.f k a0) (impl_RankOfLoop.f (k + 1) a0) := by
  intro a0 k
  unfold impl_RankOfLoop.f
  exact LeO.bind (impl_IsLoop.mono _ _) (fun _ => LeO.ite (LeO.ite (LeO.bind (rankF_mono _ _ _ _ _) (fun _ => LeO.refl _)) (LeO.refl _)) (LeO.refl _))

set_option maxHeartbeats 1000000 in
set_option maxRecDepth 100000 in
theorem impl_RankOfLoop.calls (k : Nat) (a0 : ByteArray) (r1 : Int) (r2 : Bool) (w : World) (h : impl_RankOfLoop.f k a0 = some (r1, r2)) :
    Calls Tryd.prog 15 #[.string a0] w fun e w' => e = .returned (.tuple #[.int .i64 r1, .bool r2]) ∧ Below w.heap.size w w' := by
  obtain ⟨g, hg, h⟩ := Option.bind_eq_some_iff.mp h
  have HGd := Aside0.mk (fun (W : World) => impl_IsLoop.calls k a0 g W hg)
  cases g with
  | false =>
    rw [if_neg (by decide)] at h
    obtain ⟨rfl, rfl⟩ := Prod.mk.inj (Option.some.inj h)
    clear h hg
    go_enter Tryd.func15, Tryd.ntmps15
    go_wp2_with (go_at_call 26; refine (HGd.out _).mono ?_; rintro e w1 ⟨rfl, hb⟩)
    go_ret2
    exact ⟨rfl, hb⟩
  | true =>
    rw [if_pos rfl] at h
    by_cases h16 : a0.size ≤ 16
    · rw [if_pos h16] at h
      obtain ⟨r, hr, h⟩ := Option.bind_eq_some_iff.mp h
      obtain ⟨rfl, rfl⟩ := Prod.mk.inj (Option.some.inj h)
      have HR := Aside0.mk (show rankF k a0 (a0.size - 0) 0 0 = some r from hr)
      clear h hg hr
      go_enter Tryd.func15, Tryd.ntmps15
      go_wp2_with (go_at_call 26; refine (HGd.out _).mono ?_; rintro e w1 ⟨rfl, hb⟩)
      have HB := Aside0.mk hb
      clear hb HGd
      go_loopg [4, 15] a0.size (fun gg v4 v15 w' => ∃ (i : Nat) (q : Int), v15 = .int .i64 i ∧ v4 = .int .i64 q ∧ Aside0 (i + gg = a0.size) ∧ Aside0 (rankF k a0 (a0.size - i) i q = some r) ∧ Aside0 (Below w.heap.size w w'))
      case atStart => exact ⟨0, 0, rfl, rfl, ⟨by omega⟩, HR, HB⟩
      case round =>
        obtain ⟨i, q, rfl, rfl, HG, HR1, HB1⟩ := hrel
        clear HR HB
        have HB := HB1
        clear HB1
        by_cases hp : i < a0.size
        · have c4 : decide ((i : Int) < (a0.size : Int)) = true := decide_eq_true (by omega)
          have c5 : decide (i < a0.size) = true := decide_eq_true hp
          obtain ⟨gm, rfl⟩ : ∃ gm, gk = gm + 1 := ⟨gk - 1, by have := HG.out; omega⟩
          have hR := HR1.out
          rw [show a0.size - i = (a0.size - (i + 1)) + 1 by omega, rankF] at hR
          obtain ⟨p, hp1, hR⟩ := Option.bind_eq_some_iff.mp hR
          have c6 : ((i : Int) ≤ (a0.size : Int)) = True := eq_true (by omega)
          have c7 : ((0 : Int) ≤ (i : Int)) = True := eq_true (by omega)
          have HOn := Aside0.mk (fun (W : World) => onward_calls k (a0.size / 2) (by omega) (a0.extract 0 i) (by rw [ByteArray.size_extract]; omega) p.1 p.2 W hp1)
          rw [show ((a0.size / 2 : Nat) : Int) = (a0.size : Int) / 2 by omega] at HOn
          have HR2 := Aside0.mk hR
          clear hR hp1 HR1
          go_wp2_with (go_at_call 29; refine (HOn.out _).mono ?_; rintro e w1 ⟨v1, v2, rfl, ho1, ho2, hb1⟩; obtain ⟨A1, q1, rfl, _, _⟩ := Kd.R_reads ho1; obtain ⟨A2, q2, rfl, _, _⟩ := Kd.R_reads ho2; have HO := Aside0.mk ho1; have HK := Aside0.mk ho2; have n0_ := Aside0.mk (below_keep hb1 HB.out); clear HB; have HB := n0_; clear n0_ ho1 ho2 hb1)
          by_cases hl : p.1.length = p.2.length ∧ p.1.length ≤ 100
          · have HR3 := Aside0.mk (show rankF k a0 (a0.size - (i + 1)) (i + 1) (sumF (bt a0 (i : Int)) p (p.1.length - 0) 0 q) = some r by
              have h5 := HR2.out
              rw [if_pos hl] at h5
              exact h5)
            clear HR2
            obtain ⟨hl1, hl2⟩ := hl
            have HL1 := Aside0.mk hl1
            clear hl1
            go_loopg [4, 8, 9, 30] p.1.length (fun gg v4 v8 v9 v30 w' => ∃ (j : Nat) (t : Int), v30 = .int .i64 j ∧ v4 = .int .i64 t ∧ Aside0 (j + gg = p.1.length) ∧ Aside0 (rankF k a0 (a0.size - (i + 1)) (i + 1) (sumF (bt a0 (i : Int)) p (p.1.length - j) j t) = some r) ∧ Aside0 (w' = w1))
            case atStart => exact ⟨0, q, by first | rfl | (simp; done), by first | rfl | (simp; done), ⟨by omega⟩, HR3, ⟨rfl⟩⟩
            case round =>
              obtain ⟨j, t, rfl, rfl, HG1, HT, HWe⟩ := hrel
              have hwe := HWe.out
              subst hwe
              by_cases hj : j < p.1.length
              · have e4 : decide ((j : Int) < (p.1.length : Int)) = true := decide_eq_true (by omega)
                have e5 : decide (j < p.1.length) = true := decide_eq_true hj
                obtain ⟨gl, rfl⟩ : ∃ gl, gk = gl + 1 := ⟨gk - 1, by have := HG1.out; omega⟩
                obtain ⟨ad1, f1, hx1⟩ := Kd.at_int (Kd.R_reads' HO.out).2.2 (j : Int) (by omega) (by omega)
                obtain ⟨ad2, f2, hx2⟩ := Kd.at_int (Kd.R_reads' HK.out).2.2 (j : Int) (by omega) (by have := HL1.out; omega)
                subst f1
                subst f2
                rw [Int.toNat_natCast] at hx1 hx2
                have b2 : j < p.2.length := by have := HL1.out; omega
                have b3 : ((p.2.length : Int) ≤ (j : Int)) = False := eq_false (by omega)
                have b4 : (j : Int) < (p.2.length : Int) := by omega
                have hbt : bt a0 (i : Int) = ((a0[i]'hp).toNat : Int) := by
                  rw [M.bytesOf_get a0 i (by rw [bytesOf_length]; exact hp)]
                  simp only [bytesOf, List.getElem_map]
                  rfl
                have hT := HT.out
                rw [show p.1.length - j = (p.1.length - (j + 1)) + 1 by omega, sumF] at hT
                have hix : (i : Int) < (a0.size : Int) := by omega
                by_cases hlt : rd p.1 (j : Int) < bt a0 (i : Int)
                · rw [if_pos hlt] at hT
                  have HT2 := Aside0.mk hT
                  have d1 : decide (rd p.1 (j : Int) < ((a0[i]'hp).toNat : Int)) = true := decide_eq_true (by rw [← hbt]; exact hlt)
                  clear hT HT hlt hbt
                  go_wp2_with fail
                  go_roundg gl
                  case measure => omega
                  case rel => exact ⟨j + 1, wrap64 (t + rd p.2 (j : Int)), by first | rfl | (simp; done), by first | rfl | (simp; done) | (rw [i64_w]), ⟨by have := HG1.out; omega⟩, HT2, ⟨rfl⟩⟩
                · rw [if_neg hlt] at hT
                  have HT2 := Aside0.mk hT
                  have d1 : decide (rd p.1 (j : Int) < ((a0[i]'hp).toNat : Int)) = false := decide_eq_false (by rw [← hbt]; exact hlt)
                  clear hT HT hlt hbt
                  go_wp2_with fail
                  go_roundg gl
                  case measure => omega
                  case rel => exact ⟨j + 1, t, by first | rfl | (simp; done), rfl, ⟨by have := HG1.out; omega⟩, HT2, ⟨rfl⟩⟩
              · have e4 : decide ((j : Int) < (p.1.length : Int)) = false := decide_eq_false (by omega)
                have e5 : decide (j < p.1.length) = false := decide_eq_false hj
                have HT2 := Aside0.mk (show rankF k a0 (a0.size - (i + 1)) (i + 1) t = some r by
                  have h5 := HT.out
                  rw [show p.1.length - j = 0 by omega] at h5
                  exact h5)
                clear HT
                go_wp2_with fail
                go_roundg gm
                case measure => omega
                case rel => exact ⟨i + 1, t, by first | rfl | (simp; done), rfl, ⟨by have := HG.out; omega⟩, HT2, HB⟩
          · have h5 := HR2.out
            rw [if_neg hl] at h5
            cases h5
        · have c4 : decide ((i : Int) < (a0.size : Int)) = false := decide_eq_false (by omega)
          have c5 : decide (i < a0.size) = false := decide_eq_false hp
          obtain rfl : q = r := by
            have h5 := HR1.out
            rw [show a0.size - i = 0 by omega] at h5
            exact Option.some.inj h5
          go_wp2_with fail
          go_ret2
          exact ⟨rfl, HB.out⟩
    · rw [if_neg h16] at h; cases h
end Go.Proofs.YtkfllbbpclgffaaDoor.Pr

-- Written by a program for this claim.
namespace Go.Proofs.YtkfllbbpclgffaaDoor.Pr
open Go.RowKit Go.Proofs.YtkfllbbpclgffaaDoorW.PrintWords Go.Proofs.YtkfllbbpclgffaaDoorW.PrintLast Go.Proofs.YtkfllbbpclgffaaDoorW.PrintMore
attribute [local go_sem] max2_int min2_int max_two min_two max_three min_three max_four min_four   -- for this text's walks alone
set_option linter.unusedVariables false
set_option linter.unusedSimpArgs false

/-! ### laws_FnExactRankOfLoop: function 6 -/
def laws_FnExactRankOfLoop.f (k : Nat) (a0 : ByteArray) : Option (Bool) := if (a0.size : Int) > 1048576 then (some true) else ((spec_RankOfLoop.f k a0).bind fun bt133 => ((impl_RankOfLoop.f k a0).bind fun bt135 => (if bt135.1 = bt133.1 then (if (bt135.2 != bt133.2) = true then (some false) else (some true)) else (some false))))
theorem laws_FnExactRankOfLoop.mono : ∀ a0 k, LeO (laws_FnExactRankOfLoop.f k a0) (laws_FnExactRankOfLoop.f (k + 1) a0) := by
  intro a0 k
  unfold laws_FnExactRankOfLoop.f
  repeat' first
      | (with_reducible exact impl_RankOfLoop.mono _ _)
      | (with_reducible exact spec_RankOfLoop.mono _ _)
      | (with_reducible exact LeO.refl _)
      | (with_reducible exact LeO.none _)
      | (with_reducible refine LeO.ite ?_ ?_)
      | (with_reducible refine LeO.bind ?_ (fun _ => ?_))
      | exact impl_RankOfLoop.mono _ _
      | exact spec_RankOfLoop.mono _ _
      | exact LeO.none _
      | refine LeO.ite ?_ ?_
      | refine LeO.bind ?_ (fun _ => ?_)
set_option maxHeartbeats 8000000 in
set_option maxRecDepth 100000 in
theorem laws_FnExactRankOfLoop.calls (k : Nat) (a0 : ByteArray) (r : Bool) (w : World) (h : laws_FnExactRankOfLoop.f k a0 = some r) :
    Calls Tryd.prog 6 #[.string a0] w fun e w' => e = .returned (.bool r) ∧ Below w.heap.size w w' := by
  have HB := Aside0.mk (Below.refl w.heap.size w)
  have H : (if (a0.size : Int) > 1048576 then (some true) else ((spec_RankOfLoop.f k a0).bind fun bt133 => ((impl_RankOfLoop.f k a0).bind fun bt135 => (if bt135.1 = bt133.1 then (if (bt135.2 != bt133.2) = true then (some false) else (some true)) else (some false))))) = some r := h
  clear h
  by_cases c2 : (a0.size : Int) > 1048576
  · rw [if_pos c2] at H
    have c2b0 : decide (1048576 < (a0.size : Int)) = true := decide_eq_true c2
    have c2b1 : decide (1048576 < a0.size) = true := decide_eq_true (by omega)
    clear c2
    obtain rfl := Option.some.inj H
    go_enter Tryd.func6, Tryd.ntmps6
    go_wp2
    go_ret
    exact ⟨by first | rfl | (simp [errW_none, errW_some] <;> rfl) | (simp [*, errW_none, errW_some] <;> rfl), by repeat (first | (with_reducible first | exact HB.out | apply below_alloc | apply pw_below_drewN | apply below_drew1) | exact HB.out)⟩
  · rw [if_neg c2] at H
    have c2b0 : decide (1048576 < (a0.size : Int)) = false := decide_eq_false c2
    have c2b1 : decide (1048576 < a0.size) = false := decide_eq_false (by omega)
    clear c2
    replace H := Option.bind_eq_some_iff.mp H
    obtain ⟨⟨t133, t134⟩, A30, H⟩ := H
    replace H : ((impl_RankOfLoop.f k a0).bind fun bt135 => (if bt135.1 = t133 then (if (bt135.2 != t134) = true then (some false) else (some true)) else (some false))) = some r := H
    have A3 := Aside0.mk A30
    clear A30
    replace H := Option.bind_eq_some_iff.mp H
    obtain ⟨⟨t135, t136⟩, A40, H⟩ := H
    replace H : (if t135 = t133 then (if (t136 != t134) = true then (some false) else (some true)) else (some false)) = some r := H
    have A4 := Aside0.mk A40
    clear A40
    by_cases c5 : t135 = t133
    · rw [if_pos c5] at H
      have c5b0 : (t135 == t133) = true := beq_iff_eq.mpr c5
      have c5b1 : (t135 != t133) = false := bne_eq_false_iff_eq.mpr c5
      clear c5
      by_cases c6 : (t136 != t134) = true
      · rw [if_pos c6] at H
        have c6b0 : (t136 != t134) = true := c6
        (try (have c6b1 : decide (t136 = t134) = false := by simpa using c6))
        (try (have c6b2 : (t136 == t134) = false := by simpa using c6))
        (try (have c6b3 : ¬ (t136 = t134) := by simpa using c6))
        clear c6
        obtain rfl := Option.some.inj H
        go_enter Tryd.func6, Tryd.ntmps6
        go_wp2_with (first | ((with_reducible refine gate_callee (f := 14) rfl ?_); refine goesL_ (some 12) rfl rfl Tryd.func14 (by kernel_rfl) rfl #[.string a0] rfl (by (try simp only [List.map_toArray, List.map_cons, List.map_nil]); first | done | rfl | (simp only [List.length_drop, List.length_take]; rfl)) ?_; (with_reducible refine (spec_RankOfLoop.calls k a0 t133 t134 _ A3.out).mono ?_); rintro e w' ⟨rfl, ⟨nd, rfl⟩⟩; refine ⟨_, rfl, ?_⟩) | ((with_reducible refine gate_callee (f := 15) rfl ?_); refine goesL_ (some 17) rfl rfl Tryd.func15 (by kernel_rfl) rfl #[.string a0] rfl (by (try simp only [List.map_toArray, List.map_cons, List.map_nil]); first | done | rfl | (simp only [List.length_drop, List.length_take]; rfl)) ?_; (with_reducible refine (impl_RankOfLoop.calls k a0 t135 t136 _ A4.out).mono ?_); rintro e w7 ⟨rfl, hb⟩; refine ⟨_, rfl, ?_⟩; have n0_ := Aside0.mk (below_step (by repeat (first | (with_reducible first | exact HB.out | apply below_alloc | apply pw_below_drewN | apply below_drew1) | exact HB.out)) hb); clear HB; have HB := n0_; clear n0_; (try clear hb); (try clear hb2); (try clear hk); (try clear hi)))
        go_ret
        exact ⟨by first | rfl | (simp [errW_none, errW_some] <;> rfl) | (simp [*, errW_none, errW_some] <;> rfl), by repeat (first | (with_reducible first | exact HB.out | apply below_alloc | apply pw_below_drewN | apply below_drew1) | exact HB.out)⟩
      · rw [if_neg c6] at H
        have c6b0 : (t136 != t134) = false := by simpa using c6
        (try (have c6b1 : decide (t136 = t134) = true := by simpa using c6))
        (try (have c6b2 : (t136 == t134) = true := by simpa using c6))
        clear c6
        obtain rfl := Option.some.inj H
        go_enter Tryd.func6, Tryd.ntmps6
        go_wp2_with (first | ((with_reducible refine gate_callee (f := 14) rfl ?_); refine goesL_ (some 12) rfl rfl Tryd.func14 (by kernel_rfl) rfl #[.string a0] rfl (by (try simp only [List.map_toArray, List.map_cons, List.map_nil]); first | done | rfl | (simp only [List.length_drop, List.length_take]; rfl)) ?_; (with_reducible refine (spec_RankOfLoop.calls k a0 t133 t134 _ A3.out).mono ?_); rintro e w' ⟨rfl, ⟨nd, rfl⟩⟩; refine ⟨_, rfl, ?_⟩) | ((with_reducible refine gate_callee (f := 15) rfl ?_); refine goesL_ (some 17) rfl rfl Tryd.func15 (by kernel_rfl) rfl #[.string a0] rfl (by (try simp only [List.map_toArray, List.map_cons, List.map_nil]); first | done | rfl | (simp only [List.length_drop, List.length_take]; rfl)) ?_; (with_reducible refine (impl_RankOfLoop.calls k a0 t135 t136 _ A4.out).mono ?_); rintro e w8 ⟨rfl, hb⟩; refine ⟨_, rfl, ?_⟩; have n0_ := Aside0.mk (below_step (by repeat (first | (with_reducible first | exact HB.out | apply below_alloc | apply pw_below_drewN | apply below_drew1) | exact HB.out)) hb); clear HB; have HB := n0_; clear n0_; (try clear hb); (try clear hb2); (try clear hk); (try clear hi)))
        go_ret
        exact ⟨by first | rfl | (simp [errW_none, errW_some] <;> rfl) | (simp [*, errW_none, errW_some] <;> rfl), by repeat (first | (with_reducible first | exact HB.out | apply below_alloc | apply pw_below_drewN | apply below_drew1) | exact HB.out)⟩
    · rw [if_neg c5] at H
      have c5b0 : (t135 == t133) = false := beq_eq_false_iff_ne.mpr c5
      have c5b1 : (t135 != t133) = true := bne_iff_ne.mpr c5
      obtain rfl := Option.some.inj H
      go_enter Tryd.func6, Tryd.ntmps6
      go_wp2_with (first | ((with_reducible refine gate_callee (f := 14) rfl ?_); refine goesL_ (some 12) rfl rfl Tryd.func14 (by kernel_rfl) rfl #[.string a0] rfl (by (try simp only [List.map_toArray, List.map_cons, List.map_nil]); first | done | rfl | (simp only [List.length_drop, List.length_take]; rfl)) ?_; (with_reducible refine (spec_RankOfLoop.calls k a0 t133 t134 _ A3.out).mono ?_); rintro e w' ⟨rfl, ⟨nd, rfl⟩⟩; refine ⟨_, rfl, ?_⟩) | ((with_reducible refine gate_callee (f := 15) rfl ?_); refine goesL_ (some 17) rfl rfl Tryd.func15 (by kernel_rfl) rfl #[.string a0] rfl (by (try simp only [List.map_toArray, List.map_cons, List.map_nil]); first | done | rfl | (simp only [List.length_drop, List.length_take]; rfl)) ?_; (with_reducible refine (impl_RankOfLoop.calls k a0 t135 t136 _ A4.out).mono ?_); rintro e w9 ⟨rfl, hb⟩; refine ⟨_, rfl, ?_⟩; have n0_ := Aside0.mk (below_step (by repeat (first | (with_reducible first | exact HB.out | apply below_alloc | apply pw_below_drewN | apply below_drew1) | exact HB.out)) hb); clear HB; have HB := n0_; clear n0_; (try clear hb); (try clear hb2); (try clear hk); (try clear hi)))
      go_ret
      exact ⟨by first | rfl | (simp [errW_none, errW_some] <;> rfl) | (simp [*, errW_none, errW_some] <;> rfl), by repeat (first | (with_reducible first | exact HB.out | apply below_alloc | apply pw_below_drewN | apply below_drew1) | exact HB.out)⟩

/-- THE ONE PURE STATEMENT of laws_FnExactRankOfLoop: yours. -/
def laws_FnExactRankOfLoop.Pure : Prop := ∀ (a0 : ByteArray), a0.size ≤ 140737488351232 → ∃ k, laws_FnExactRankOfLoop.f k a0 = some true
theorem laws_FnExactRankOfLoop.walk (P : laws_FnExactRankOfLoop.Pure) (a0 : ByteArray) (w : World) (w0 : a0.size ≤ 140737488351232) :
    Calls Tryd.prog 6 #[.string a0] w fun e w' => e = .returned (.bool true) ∧ Below w.heap.size w w' := by
  obtain ⟨k, h⟩ := P a0 w0
  refine (laws_FnExactRankOfLoop.calls k a0 true w h).mono ?_
  rintro e w' ⟨rfl, hd⟩
  exact ⟨rfl, hd⟩

end Go.Proofs.YtkfllbbpclgffaaDoor.Pr

/- In how many ways a loop goes on. Plain numbers, no program. -/
namespace Go.Proofs.YtkfllbbpclgffaaDoor.M
set_option linter.unusedVariables false
set_option linter.unusedSimpArgs false

def facW : Nat → Nat
  | 0 => 1
  | o + 1 => (o + 1) * facW o
def wayR (f : Nat → Nat) : Nat → Nat
  | 0 => f 1
  | o + 1 => (o + 1) * wayR f o + f (o + 2)
/-- With so many letters still to come, and so many open. -/
def ways : Nat → Nat → Nat
  | 0 => facW
  | l + 1 => wayR (ways l)
theorem ways_00 : ways 0 0 = 1 := rfl
theorem ways_0s (o : Nat) : ways 0 (o + 1) = (o + 1) * ways 0 o := rfl
theorem ways_s0 (l : Nat) : ways (l + 1) 0 = ways l 1 := rfl
theorem ways_ss (l o : Nat) : ways (l + 1) (o + 1) = (o + 1) * ways (l + 1) o + ways l (o + 2) := rfl
theorem ways_small (l o : Nat) (h : o + l ≤ 8) : ways l o ≤ 2027025 := by
  have hd : (List.range 9).all (fun l => (List.range 9).all fun o => decide (8 < o + l) || decide (ways l o ≤ 2027025)) = true := by decide +kernel
  have h1 := List.all_eq_true.1 hd l (List.mem_range.2 (by omega))
  have h2 := List.all_eq_true.1 h1 o (List.mem_range.2 (by omega))
  rw [decide_eq_false (by omega), Bool.false_or] at h2
  exact of_decide_eq_true h2
end Go.Proofs.YtkfllbbpclgffaaDoor.M

/- The program and the reference count the ways to go on alike. -/
namespace Go.Proofs.YtkfllbbpclgffaaDoor.M
open Go.RowKit Go.Proofs.YtkfllbbpclgffaaDoor.Pr Go.Proofs.YtkfllbbpclgffaaDoorW.PrintWords
set_option linter.unusedVariables false
set_option linter.unusedSimpArgs false

theorem on_neg1 (o l : Int) (h : o < 0) : Ev (fun k => impl_countOn.f k o l) 0 := by
  refine Ev.step (fun k => by rw [impl_countOn.f]) ?_
  refine Ev.pos h (Ev.step (fun k => by rw [impl_countOn.j0]) ?_)
  exact Ev.pos rfl (Ev.val rfl)
theorem on_neg2 (o l : Int) (h0 : 0 ≤ o) (h : l < 0) : Ev (fun k => impl_countOn.f k o l) 0 := by
  refine Ev.step (fun k => by rw [impl_countOn.f]) ?_
  refine Ev.neg (by omega) (Ev.step (fun k => by rw [impl_countOn.j0]) ?_)
  exact Ev.pos (decide_eq_true h) (Ev.val rfl)
/-- The step of countOn. -/
theorem on_step (o l : Nat) (ho : o ≤ 100) (hl : l ≤ 100) (hne : ¬ (o = 0 ∧ l = 0)) (a b : Nat) (ha : a ≤ 2027025) (hb : b ≤ 2027025) (h1 : Ev (fun k => impl_countOn.f k ((o : Int) - 1) (l : Int)) (a : Int)) (h2 : Ev (fun k => impl_countOn.f k ((o : Int) + 1) ((l : Int) - 1)) (b : Int)) :
    Ev (fun k => impl_countOn.f k (o : Int) (l : Int)) ((o * a + b : Nat) : Int) := by
  have hm : o * a ≤ 100 * 2027025 := Nat.mul_le_mul ho ha
  have e1 : wrap64 ((o : Int) * (a : Int)) = ((o * a : Nat) : Int) := by rw [← Int.natCast_mul]; exact w64 (by omega) (by omega)
  have e2 : wrap64 (((o * a : Nat) : Int) + (b : Int)) = ((o * a + b : Nat) : Int) := by rw [w64 (by omega) (by omega)]; omega
  have hj : Ev (fun k => impl_countOn.j1 k (o : Int) (l : Int) false) ((o * a + b : Nat) : Int) := by
    refine Ev.step (fun k => by rw [impl_countOn.j1]) ?_
    rw [w64 (x := (o : Int) - 1) (by omega) (by omega), w64 (x := (o : Int) + 1) (by omega) (by omega), w64 (x := (l : Int) - 1) (by omega) (by omega)]
    exact Ev.neg (by simp) (Ev.bindk h1 (Ev.bindk h2 (Ev.val (by rw [e1, e2]))))
  refine Ev.step (fun k => by rw [impl_countOn.f]) ?_
  refine Ev.neg (by omega) (Ev.step (fun k => by rw [impl_countOn.j0]) ?_)
  refine Ev.neg (by simp) ?_
  by_cases h0 : (o : Int) = 0
  · refine Ev.pos h0 ?_
    rw [show ((l : Int) == 0) = false from beq_eq_false_iff_ne.2 (by omega)]
    exact hj
  · exact Ev.neg h0 hj
theorem countOn_ev : ∀ (l o : Nat), o + l ≤ 8 → Ev (fun k => impl_countOn.f k (o : Int) (l : Int)) (ways l o : Int)
  | 0, 0, _ => by
    refine Ev.step (fun k => by rw [impl_countOn.f]) ?_
    refine Ev.neg (by omega) (Ev.step (fun k => by rw [impl_countOn.j0]) ?_)
    refine Ev.neg (by simp) (Ev.pos rfl (Ev.step (fun k => by rw [impl_countOn.j1]) ?_))
    exact Ev.pos rfl (Ev.val rfl)
  | 0, o + 1, h => by
    have e := on_step (o + 1) 0 (by omega) (by omega) (by omega) (ways 0 o) 0 (ways_small 0 o (by omega)) (by omega) (by
      have := countOn_ev 0 o (by omega)
      rw [show (((o + 1 : Nat)) : Int) - 1 = (o : Int) by omega]
      exact this) (on_neg2 _ _ (by omega) (by omega))
    rw [ways_0s]
    exact e
  | l + 1, 0, h => by
    have e := on_step 0 (l + 1) (by omega) (by omega) (by omega) 0 (ways l 1) (by omega) (ways_small l 1 (by omega)) (on_neg1 _ _ (by omega)) (by
      have := countOn_ev l 1 (by omega)
      rw [show (((l + 1 : Nat)) : Int) - 1 = (l : Int) by omega]
      exact this)
    rw [ways_s0]
    rw [Nat.zero_mul, Nat.zero_add] at e
    exact e
  | l + 1, o + 1, h => by
    have e := on_step (o + 1) (l + 1) (by omega) (by omega) (by omega) (ways (l + 1) o) (ways l (o + 2)) (ways_small (l + 1) o (by omega)) (ways_small l (o + 2) (by omega)) (by
      have := countOn_ev (l + 1) o (by omega)
      rw [show (((o + 1 : Nat)) : Int) - 1 = (o : Int) by omega]
      exact this) (by
      have := countOn_ev l (o + 2) (by omega)
      rw [show (((l + 1 : Nat)) : Int) - 1 = (l : Int) by omega, show (((o + 1 : Nat)) : Int) + 1 = ((o + 2 : Nat) : Int) by omega]
      exact this)
    rw [ways_ss]
    exact e
theorem loWays_ev : ∀ (l o : Nat), o + l ≤ 8 → Ev (fun k => spec_loWays.f k (o : Int) (l : Int)) (ways l o : Int)
  | 0, 0, _ => by
    refine Ev.step (fun k => by rw [spec_loWays.f]) ?_
    refine Ev.pos rfl (Ev.step (fun k => by rw [spec_loWays.j0]) ?_)
    exact Ev.pos rfl (Ev.val rfl)
  | 0, o + 1, h => by
    have hw := ways_small 0 o (by omega)
    have hm : (o + 1) * ways 0 o ≤ 100 * 2027025 := Nat.mul_le_mul (by omega) hw
    refine Ev.step (fun k => by rw [spec_loWays.f]) ?_
    refine Ev.neg (by omega) (Ev.step (fun k => by rw [spec_loWays.j0]) ?_)
    rw [w64 (x := ((o + 1 : Nat) : Int) - 1) (by omega) (by omega), show (((o + 1 : Nat)) : Int) - 1 = (o : Int) by omega]
    refine Ev.neg (by simp) (Ev.pos (by omega) (Ev.bindk (loWays_ev 0 o (by omega)) (Ev.neg (by omega) (Ev.val ?_))))
    rw [ways_0s, ← Int.natCast_mul, w64 (x := (((o + 1) * ways 0 o : Nat) : Int)) (by omega) (by omega), w64 (by omega) (by omega)]
    omega
  | l + 1, 0, h => by
    have hw := ways_small l 1 (by omega)
    refine Ev.step (fun k => by rw [spec_loWays.f]) ?_
    refine Ev.pos rfl (Ev.step (fun k => by rw [spec_loWays.j0]) ?_)
    have e := loWays_ev l 1 (by omega)
    rw [w64 (x := ((0 : Nat) : Int) + 1) (by omega) (by omega), w64 (x := ((l + 1 : Nat) : Int) - 1) (by omega) (by omega), show (((l + 1 : Nat)) : Int) - 1 = (l : Int) by omega, show ((0 : Nat) : Int) + 1 = ((1 : Nat) : Int) by omega]
    refine Ev.neg (fun e => by have := beq_iff_eq.1 e; omega) (Ev.neg (by omega) (Ev.pos (by omega) (Ev.bindk e (Ev.val ?_))))
    rw [ways_s0, w64 (by omega) (by omega)]
    omega
  | l + 1, o + 1, h => by
    have hw := ways_small (l + 1) o (by omega)
    have hw2 := ways_small l (o + 2) (by omega)
    have hm : (o + 1) * ways (l + 1) o ≤ 100 * 2027025 := Nat.mul_le_mul (by omega) hw
    have e1 := loWays_ev (l + 1) o (by omega)
    have e2 := loWays_ev l (o + 2) (by omega)
    refine Ev.step (fun k => by rw [spec_loWays.f]) ?_
    refine Ev.neg (by omega) (Ev.step (fun k => by rw [spec_loWays.j0]) ?_)
    rw [w64 (x := ((o + 1 : Nat) : Int) - 1) (by omega) (by omega), show (((o + 1 : Nat)) : Int) - 1 = (o : Int) by omega, w64 (x := ((o + 1 : Nat) : Int) + 1) (by omega) (by omega), w64 (x := ((l + 1 : Nat) : Int) - 1) (by omega) (by omega), show (((l + 1 : Nat)) : Int) - 1 = (l : Int) by omega, show (((o + 1 : Nat)) : Int) + 1 = ((o + 2 : Nat) : Int) by omega]
    refine Ev.neg (by simp) (Ev.pos (by omega) (Ev.bindk e1 (Ev.pos (by omega) (Ev.bindk e2 (Ev.val ?_)))))
    rw [ways_ss, ← Int.natCast_mul, w64 (x := (((o + 1) * ways (l + 1) o : Nat) : Int)) (by omega) (by omega), w64 (x := 0 + (((o + 1) * ways (l + 1) o : Nat) : Int)) (by omega) (by omega), w64 (by omega) (by omega)]
    omega
end Go.Proofs.YtkfllbbpclgffaaDoor.M

/- The rank of a loop, as a walk over its letters with those that have come once: what the program's walk tells. -/
namespace Go.Proofs.YtkfllbbpclgffaaDoor.M
open Go.RowKit Go.Proofs.YtkfllbbpclgffaaDoor.Pr Go.Proofs.YtkfllbbpclgffaaDoorW.PrintWords
set_option linter.unusedVariables false
set_option linter.unusedSimpArgs false

/-- Letters of a beginning that have come once. -/
def onceL (p : List Int) (j : Nat) : List Int := (abcL j).filter (fun x => p.count x == 1)
structure Beg (p O : List Int) (j : Nat) : Prop where
  op : O = onceL p j
  len : O.length + p.length = 2 * j
  all : ∀ x, x ∈ p ↔ x ∈ abcL j
theorem abc_sorted (j : Nat) : (abcL j).Pairwise (· < ·) := by
  unfold abcL
  rw [List.pairwise_map]
  exact List.pairwise_lt_range.imp (fun h => by omega)
theorem once_sorted (p : List Int) (j : Nat) : (onceL p j).Pairwise (· < ·) := (abc_sorted j).filter _
theorem beg_nil : Beg [] [] 0 := ⟨rfl, rfl, fun x => by simp [abcL]⟩
theorem Beg.mem {p O : List Int} {j : Nat} (h : Beg p O j) (x : Int) : x ∈ O ↔ x ∈ abcL j ∧ p.count x = 1 := by
  rw [h.op, onceL, List.mem_filter, beq_iff_eq]
theorem Beg.nodup {p O : List Int} {j : Nat} (h : Beg p O j) : O.Nodup := by
  rw [h.op]
  exact (once_sorted p j).imp (fun h e => by omega)
theorem Beg.le {p O : List Int} {j : Nat} (h : Beg p O j) : O.length ≤ j := by
  have h1 := h.op
  have : (onceL p j).length ≤ (abcL j).length := List.length_filter_le _ _
  rw [← h1, abc_length] at this
  exact this
theorem Beg.back {p O : List Int} {j : Nat} (h : Beg p O j) {x : Int} (hx : x ∈ O) : x ∈ abcL j := ((h.mem x).1 hx).1
theorem Beg.again {p O : List Int} {j : Nat} (h : Beg p O j) {x : Int} (hx : x ∈ O) : Beg (p ++ [x]) (O.erase x) j := by
  have hm := (h.mem x).1 hx
  refine ⟨?_, ?_, fun y => ?_⟩
  · rw [h.nodup.erase_eq_filter, h.op, onceL, onceL, List.filter_filter]
    refine List.filter_congr fun y hy => ?_
    rw [List.count_append, List.count_singleton]
    by_cases e : y = x
    · subst e
      simp [hm.2]
    · have e2 : (x == y) = false := by simpa using fun h => e h.symm
      have e3 : (y != x) = true := by simpa using e
      rw [e2, e3]
      simp
  · have := List.length_erase_of_mem hx
    have := List.length_pos_of_mem hx
    have := h.len
    simp
    omega
  · rw [List.mem_append, h.all y, List.mem_singleton]
    exact ⟨fun h2 => h2.elim id (fun e => e ▸ hm.1), .inl⟩
theorem Beg.new {p O : List Int} {j : Nat} (h : Beg p O j) : Beg (p ++ [97 + (j : Int)]) (O ++ [97 + (j : Int)]) (j + 1) := by
  have hn : (97 + (j : Int)) ∉ p := fun h2 => by
    have := (mem_abc j _).1 ((h.all _).1 h2)
    omega
  refine ⟨?_, ?_, fun y => ?_⟩
  · rw [onceL, ← abc_succ, List.filter_append, h.op, onceL]
    congr 1
    · refine List.filter_congr fun y hy => ?_
      have := (mem_abc j y).1 hy
      rw [List.count_append, List.count_singleton, show (97 + (j : Int) == y) = false by simpa using fun e : 97 + (j : Int) = y => by omega]
      simp
    · rw [List.filter_cons, List.count_append, List.count_eq_zero.2 hn]
      simp
  · have := h.len
    simp
    omega
  · rw [List.mem_append, h.all y, List.mem_singleton, ← abc_succ, List.mem_append, List.mem_singleton]
theorem erase_le (O : List Int) (x : Int) : (O.erase x).length ≤ O.length := List.length_erase_le

/-- How many letters come ahead of one, in order. -/
def aheadL (O : List Int) (x : Int) : Nat := O.countP (fun y => decide (y < x))
/-- The rank of what is left of a loop, with the letters that are open and how many have come. -/
def rankG (m : Nat) : List Int → Nat → List Int → Nat
  | _, _, [] => 0
  | O, j, x :: r => aheadL O x * ways (m - j) (O.length - 1) + if x ∈ O then rankG m (O.erase x) j r else rankG m (O ++ [x]) (j + 1) r
theorem ahead_le (O : List Int) (x : Int) : aheadL O x ≤ O.length := List.countP_le_length

/-- What letters count that come ahead of one. -/
def sumZ (x : Int) : List Int → List Int → Int → Int
  | a :: ls, c :: cs, r => sumZ x ls cs (if a < x then wrap64 (r + c) else r)
  | _, _, r => r
theorem rd_get (l : List Int) (i : Nat) (h : i < l.length) : rd l (i : Int) = l[i] := by
  unfold rd
  simp [List.getD_eq_getElem?_getD, List.getElem?_eq_getElem h]
theorem sumF_eq (x : Int) (ls cs : List Int) (hl : ls.length = cs.length) : ∀ (d i : Nat) (r : Int), i + d = ls.length → sumF x (ls, cs) d i r = sumZ x (ls.drop i) (cs.drop i) r
  | 0, i, r, h => by
    rw [List.drop_of_length_le (by omega), sumF]
    rfl
  | d + 1, i, r, h => by
    have h1 : i < ls.length := by omega
    have h2 : i < cs.length := by omega
    rw [List.drop_eq_getElem_cons h1, List.drop_eq_getElem_cons h2, sumZ, sumF, ← sumF_eq x ls cs hl d (i + 1) _ (by omega)]
    dsimp only
    rw [rd_get ls i h1, rd_get cs i h2]
theorem sumZ_open (x : Int) (W : Nat) (hW : W ≤ 2027025) (e f : List Int) : ∀ (O : List Int) (r : Int), 0 ≤ r → r + 2027025 * (O.length : Int) ≤ 100000000000 → sumZ x (O ++ e) (O.map (fun _ => (W : Int)) ++ f) r = sumZ x e f (r + ((aheadL O x * W : Nat) : Int))
  | [], r, h0, h1 => by simp [aheadL]
  | a :: O, r, h0, h1 => by
    rw [List.cons_append, List.map_cons, List.cons_append, sumZ]
    rw [List.length_cons] at h1
    by_cases h : a < x
    · rw [if_pos h, w64 (by omega) (by omega), sumZ_open x W hW e f O (r + W) (by omega) (by omega)]
      congr 1
      unfold aheadL
      rw [List.countP_cons_of_pos (by simpa using h), Nat.add_mul, Nat.one_mul]
      omega
    · rw [if_neg h, sumZ_open x W hW e f O r h0 (by omega)]
      unfold aheadL
      rw [List.countP_cons_of_neg (by simpa using h)]

theorem count8 (b : ByteArray) (i : Nat) (hi : i < 8) : b.data.toList.count ((97 + i : Nat).toUInt8) = (bytesOf b).count (97 + (i : Int)) := by
  have := count_eq b (97 + (i : Int)) (by omega) (by omega)
  rwa [show (97 + (i : Int)).toNat = 97 + i by omega] at this
theorem hasB_eq (b : ByteArray) (i : Nat) (hi : i < 8) : hasB b i = decide ((97 + (i : Int)) ∈ bytesOf b) := by
  unfold hasB
  have := indexB_eq b (97 + (i : Int)) (by omega) (by omega)
  rw [show (97 + (i : Int)).toNat = 97 + i by omega] at this
  rw [this]
  unfold ixL
  by_cases h : (97 + (i : Int)) ∈ bytesOf b
  · rw [if_pos h, decide_eq_true h, decide_eq_true (by omega)]
  · rw [if_neg h, decide_eq_false h, decide_eq_false (by omega)]
theorem usedF_eq (b : ByteArray) (O : List Int) (j : Nat) (hb : Beg (bytesOf b) O j) : ∀ (d u : Nat), u ≤ j → j ≤ u + d → u + d ≤ 8 → usedF b d u = j
  | 0, u, h1, h2, h3 => by rw [usedF]; omega
  | d + 1, u, h1, h2, h3 => by
    rw [usedF, hasB_eq b u (by omega)]
    by_cases h : (97 + (u : Int)) ∈ bytesOf b
    · have h4 := (mem_abc j _).1 ((hb.all _).1 h)
      rw [decide_eq_true h, if_pos rfl]
      exact usedF_eq b O j hb d (u + 1) (by omega) (by omega) (by omega)
    · rw [decide_eq_false h, if_neg (by decide)]
      by_cases e : u = j
      · exact e
      · exact absurd ((hb.all _).2 ((mem_abc j _).2 (by omega))) h
/-- Letters that have come once, from i on. -/
def onceF (p : List Int) : Nat → Nat → List Int
  | 0, _ => []
  | d + 1, i => if p.count (97 + (i : Int)) = 1 then (97 + (i : Int)) :: onceF p d (i + 1) else onceF p d (i + 1)
theorem onceF_eq (p : List Int) : ∀ (d i : Nat), onceF p d i = ((List.range' i d).map fun (q : Nat) => (97 : Int) + (q : Int)).filter (fun x => p.count x == 1)
  | 0, i => rfl
  | d + 1, i => by
    rw [onceF, List.range'_succ, List.map_cons, List.filter_cons, onceF_eq p d (i + 1)]
    by_cases h : p.count (97 + (i : Int)) = 1
    · rw [if_pos h, if_pos (by simpa using h)]
    · rw [if_neg h, if_neg (by simpa using h)]
theorem onceF_all (p : List Int) (j : Nat) : onceF p j 0 = onceL p j := by
  rw [onceF_eq, onceL, abcL, List.range_eq_range']
theorem onwL_ev (b : ByteArray) (x y v : Int) : ∀ (d i : Nat) (ls cs : List Int), i + d ≤ 8 → (onceF (bytesOf b) d i ≠ [] → Ev (fun k => impl_countOn.f k x y) v) →
    Ev (fun k => onwL k b x y d i ls cs) (ls ++ onceF (bytesOf b) d i, cs ++ (onceF (bytesOf b) d i).map (fun _ => v))
  | 0, i, ls, cs, h, hv => by
    simp only [onwL, onceF]
    exact Ev.val (by simp)
  | d + 1, i, ls, cs, h, hv => by
    simp only [onwL]
    rw [count8 b i (by omega)]
    by_cases hc : (bytesOf b).count (97 + (i : Int)) = 1
    · rw [onceF, if_pos hc] at hv ⊢
      refine Ev.pos hc (Ev.bindk (hv (by simp)) ?_)
      have := onwL_ev b x y v d (i + 1) (ls ++ [97 + (i : Int)]) (cs ++ [v]) (by omega) (fun _ => hv (by simp))
      simpa [List.append_assoc] using this
    · rw [onceF, if_neg hc] at hv ⊢
      exact Ev.neg hc (onwL_ev b x y v d (i + 1) ls cs (by omega) hv)
theorem onwF_ev (m : Nat) (b : ByteArray) (O : List Int) (j : Nat) (hb : Beg (bytesOf b) O j) (hj : j ≤ m) (hm : m ≤ 8) :
    Ev (fun k => onwF k m b) (O ++ (if j < m then [97 + (j : Int)] else []), O.map (fun _ => ((ways (m - j) (O.length - 1) : Nat) : Int)) ++ (if j < m then [((ways (m - j - 1) (O.length + 1) : Nat) : Int)] else [])) := by
  have hl := bytesOf_length b
  have h1 := hb.len
  have h2 := hb.le
  have hu := usedF_eq b O j hb m 0 (by omega) (by omega) (by omega)
  have ho : onceF (bytesOf b) j 0 = O := by rw [onceF_all, hb.op]
  simp only [onwF]
  rw [hu, show 2 * (j : Int) - (b.size : Int) = (O.length : Int) by omega]
  refine Ev.bindk (onwL_ev b _ _ ((ways (m - j) (O.length - 1) : Nat) : Int) j 0 [] [] (by omega) (fun hne => ?_)) ?_
  · rw [ho] at hne
    have : 0 < O.length := List.length_pos_iff.2 hne
    have e := countOn_ev (m - j) (O.length - 1) (by omega)
    rwa [show ((O.length - 1 : Nat) : Int) = (O.length : Int) - 1 by omega, show ((m - j : Nat) : Int) = (m : Int) - (j : Int) by omega] at e
  · rw [ho]
    by_cases h : j < m
    · rw [if_pos h, if_pos h]
      have e := countOn_ev (m - j - 1) (O.length + 1) (by omega)
      rw [show ((O.length + 1 : Nat) : Int) = (O.length : Int) + 1 by omega, show ((m - j - 1 : Nat) : Int) = (m : Int) - (j : Int) - 1 by omega] at e
      exact Ev.pos h (Ev.bindk e (Ev.val (by simp)))
    · rw [if_neg h, if_neg h]
      exact Ev.neg h (Ev.val (by simp))
theorem sumZ_end (x : Int) (j m : Nat) (v r : Int) (hx : x ≤ 97 + (j : Int)) : sumZ x (if j < m then [97 + (j : Int)] else []) (if j < m then [v] else []) r = r := by
  by_cases h : j < m
  · rw [if_pos h, if_pos h, sumZ, if_neg (by omega)]
    rfl
  · rw [if_neg h, if_neg h]
    rfl
/-- A letter of a loop that has come has come once. -/
theorem Beg.opened {w : List Int} {m : Nat} (h : Loop w m) {i : Nat} (hi : i < w.length) {O : List Int} {j : Nat} (hb : Beg (w.take i) O j) (hx : w[i] ∈ abcL j) : w[i] ∈ O := by
  have hw : w.count w[i] = 2 := h.cnt (h.lo _ (List.getElem_mem hi)) (h.hi _ (List.getElem_mem hi))
  have hp : 0 < (w.take i).count w[i] := List.count_pos_iff.2 ((hb.all _).2 hx)
  have e : w.take i ++ w[i] :: w.drop (i + 1) = w := by rw [← List.drop_eq_getElem_cons hi, List.take_append_drop]
  generalize w[i] = x at *
  have hc : (w.take i ++ x :: w.drop (i + 1)).count x = (w.take i).count x + ((w.drop (i + 1)).count x + 1) := by
    rw [List.count_append, List.count_cons_self]
  rw [e] at hc
  exact (hb.mem _).2 ⟨hx, by omega⟩
/-- A step of the walk over a loop. -/
theorem Beg.next {w : List Int} {m : Nat} (h : Loop w m) {i : Nat} (hi : i < w.length) {O : List Int} {j : Nat} (hb : Beg (w.take i) O j) (hr : runL j (w.drop i) = some m) :
    (w[i] ∈ O ∧ w[i] < 97 + (j : Int) ∧ Beg (w.take (i + 1)) (O.erase w[i]) j ∧ runL j (w.drop (i + 1)) = some m)
    ∨ (w[i] ∉ O ∧ w[i] = 97 + (j : Int) ∧ j < m ∧ Beg (w.take (i + 1)) (O ++ [w[i]]) (j + 1) ∧ runL (j + 1) (w.drop (i + 1)) = some m) := by
  have e : w.take (i + 1) = w.take i ++ [w[i]] := by rw [List.take_succ_eq_append_getElem hi]
  rw [List.drop_eq_getElem_cons hi, runL] at hr
  by_cases h1 : 97 ≤ w[i] ∧ w[i] < 97 + (j : Int)
  · rw [if_pos h1] at hr
    have ho := hb.opened h hi ((mem_abc j _).2 h1)
    exact .inl ⟨ho, h1.2, by rw [e]; exact hb.again ho, hr⟩
  · rw [if_neg h1] at hr
    by_cases h2 : w[i] = 97 + (j : Int)
    · rw [if_pos h2] at hr
      have := (run_mono _ _ _ hr).1
      refine .inr ⟨fun h3 => h1 ((mem_abc j _).1 (hb.back h3)), h2, by omega, ?_, hr⟩
      rw [e, h2]
      exact hb.new
    · rw [if_neg h2] at hr
      cases hr
theorem rank_impl {w : ByteArray} {m : Nat} (h : M.Loop (bytesOf w) m) : ∀ (d i : Nat) (O : List Int) (j : Nat) (q : Int), i + d = w.size → Beg ((bytesOf w).take i) O j → j ≤ m → runL j ((bytesOf w).drop i) = some m → 0 ≤ q → q ≤ 33000000 * (i : Int) →
    Ev (fun k => rankF k w d i q) (q + ((rankG m O j ((bytesOf w).drop i) : Nat) : Int))
  | 0, i, O, j, q, hd, hb, hj, hr, h0, h1 => by
    have hl := bytesOf_length w
    rw [List.drop_of_length_le (by omega)]
    simp only [rankF, rankG]
    exact Ev.val (by simp)
  | d + 1, i, O, j, q, hd, hb, hj, hr, h0, h1 => by
    have hl := bytesOf_length w
    have hlen := h.len
    have hf := h.few
    have hi : i < (bytesOf w).length := by omega
    have hx := bytesOf_get w i hi
    have hol := hb.le
    have hstep := hb.next h hi hr
    rw [List.drop_eq_getElem_cons hi, rankG]
    generalize (bytesOf w)[i] = x at hx hstep ⊢
    have hbx : bytesOf (w.extract 0 i) = (bytesOf w).take i := by rw [bytesOf_extract, List.drop_zero]
    simp only [rankF]
    rw [show w.size / 2 = m by omega, hx]
    have ha := ahead_le O x
    have hW : ways (m - j) (O.length - 1) ≤ 2027025 := by
      by_cases e0 : O.length = 0
      · rw [e0]; exact ways_small _ _ (by omega)
      · exact ways_small _ _ (by omega)
    have hmul : aheadL O x * ways (m - j) (O.length - 1) ≤ 8 * 2027025 := Nat.mul_le_mul (by omega) hW
    have hsum := sumF_eq x (O ++ (if j < m then [97 + (j : Int)] else [])) (O.map (fun _ => ((ways (m - j) (O.length - 1) : Nat) : Int)) ++ (if j < m then [((ways (m - j - 1) (O.length + 1) : Nat) : Int)] else [])) (by split <;> simp) _ 0 q (by rw [Nat.zero_add])
    rw [List.drop_zero, List.drop_zero, sumZ_open x _ hW _ _ O q h0 (by omega)] at hsum
    have hxj : x ≤ 97 + (j : Int) := by
      rcases hstep with ⟨_, h2, _⟩ | ⟨_, h2, _⟩ <;> omega
    rw [sumZ_end x j m _ _ hxj] at hsum
    refine Ev.bindk (onwF_ev m (w.extract 0 i) O j (by rw [hbx]; exact hb) hj hf) (Ev.pos ⟨by split <;> simp, by split <;> simp <;> omega⟩ ?_)
    dsimp only at hsum ⊢
    rw [hsum]
    generalize aheadL O x * ways (m - j) (O.length - 1) = z at hmul ⊢
    rcases hstep with ⟨a1, a2, a3, a4⟩ | ⟨a1, a2, a3, a4, a5⟩
    · rw [if_pos a1]
      have ih := rank_impl h d (i + 1) _ j (q + (z : Int)) (by omega) a3 hj a4 (by omega) (by omega)
      rw [show q + (z : Int) + ((rankG m (O.erase x) j ((bytesOf w).drop (i + 1)) : Nat) : Int) = q + ((z + rankG m (O.erase x) j ((bytesOf w).drop (i + 1)) : Nat) : Int) by omega] at ih
      exact ih
    · rw [if_neg a1]
      have ih := rank_impl h d (i + 1) _ (j + 1) (q + (z : Int)) (by omega) a4 (by omega) a5 (by omega) (by omega)
      rw [show q + (z : Int) + ((rankG m (O ++ [x]) (j + 1) ((bytesOf w).drop (i + 1)) : Nat) : Int) = q + ((z + rankG m (O ++ [x]) (j + 1) ((bytesOf w).drop (i + 1)) : Nat) : Int) by omega] at ih
      exact ih
end Go.Proofs.YtkfllbbpclgffaaDoor.M

/- Letters named anew: the program's way and the reference's. -/
namespace Go.Proofs.YtkfllbbpclgffaaDoor.M
open Go.RowKit Go.Proofs.YtkfllbbpclgffaaDoorW.PrintWords Go.Proofs.YtkfllbbpclgffaaDoor.Pr
set_option linter.unusedVariables false
set_option linter.unusedSimpArgs false

theorem anew_byte : ∀ (w ns : List Int), ns.length + w.length ≤ 100 → ∀ x ∈ anew ns w, 0 ≤ x ∧ x < 256
  | [], _, _, x, hx => by simp [anew] at hx
  | y :: r, ns, h, x, hx => by
    unfold anew at hx
    simp only [List.length_cons] at h
    rcases List.mem_cons.1 hx with e | hx
    · have := List.idxOf_le_length (a := y) (l := ns)
      omega
    · refine anew_byte r _ ?_ x hx
      split
      · omega
      · simp; omega
/-- A text with its letters named anew. -/
def anewS (w : ByteArray) : ByteArray := strOfNums (anew [] (bytesOf w))
theorem bytesOf_anew (w : ByteArray) (h : w.size ≤ 100) : bytesOf (anewS w) = anew [] (bytesOf w) :=
  bytesOf_strOf _ (anew_byte _ _ (by rw [bytesOf_length]; simp; omega))

theorem named_ev (w : ByteArray) (hw : w.size ≤ 100) : Ev (fun k => impl_named.f k w) (anewS w) := by
  unfold impl_named.f
  have hlen := bytesOf_length w
  have e := Ev.scan0 (fun k i (acc : ByteArray × List Int) => impl_named.l0 k w acc.1 acc.2 (w.size : Int) i) (bytesOf w) (fun rest acc => strOfNums (acc.2 ++ anew (bytesOf acc.1) rest)) (fun i acc => acc.2.length = i ∧ acc.1.size ≤ i)
    (fun acc hp => by
      refine Ev.step (fun k => by rw [impl_named.l0]) ?_
      refine Ev.neg (by omega) (Ev.val ?_)
      simp [anew])
    (fun i hi acc hp => by
      obtain ⟨p1, p2⟩ := hp
      have hi2 : i < w.size := by omega
      have hx := bytesOf_get w i hi
      have hr := bytesOf_byte w _ (List.getElem_mem hi)
      have hone := bytesOf_one w i hi
      have hs1 : (w.extract i (i + 1)).size = 1 := by rw [← bytesOf_length, hone]; rfl
      have hal := bytesOf_length acc.1
      generalize (bytesOf w)[i] = x at hx hr hone
      have hix := indexB_eq acc.1 x hr.1 hr.2
      by_cases hm : x ∈ bytesOf acc.1
      · have hlt : (bytesOf acc.1).idxOf x < (bytesOf acc.1).length := List.idxOf_lt_length_iff.2 hm
        rw [ixL, if_pos hm] at hix
        refine .inl ⟨(acc.1, acc.2 ++ [97 + ((bytesOf acc.1).idxOf x : Int)]), ⟨by simp; omega, by dsimp only; omega⟩, ?_, fun r hr2 => ?_⟩
        · rw [anew, if_pos hm]
          simp
        · refine Ev.step (fun k => by rw [impl_named.l0]) ?_
          refine Ev.pos (by omega) (Ev.pos (by omega) (Ev.pos (by omega) ?_))
          rw [hx]
          refine Ev.bindc (a := ((bytesOf acc.1).idxOf x : Int)) (by unfold strings_IndexByte.f; rw [hix]) (Ev.neg (by omega) (Ev.pos (by omega) ?_))
          rw [w64 (x := (i : Int) + 1) (by omega) (by omega)]
          have e : (97 + ((bytesOf acc.1).idxOf x : Int)) % 256 = 97 + ((bytesOf acc.1).idxOf x : Int) := by omega
          simp only [e]
          exact hr2
      · rw [ixL, if_neg hm] at hix
        have hsz : (acc.1 ++ w.extract i (i + 1)).size = acc.1.size + 1 := by rw [ByteArray.size_append, hs1]
        refine .inl ⟨(acc.1 ++ w.extract i (i + 1), acc.2 ++ [97 + ((bytesOf acc.1).idxOf x : Int)]), ⟨by simp; omega, by dsimp only; omega⟩, ?_, fun r hr2 => ?_⟩
        · rw [anew, if_neg hm]
          dsimp only
          rw [bytesOf_append, hone]
          simp
        · refine Ev.step (fun k => by rw [impl_named.l0]) ?_
          refine Ev.pos (by omega) (Ev.pos (by omega) (Ev.pos (by omega) ?_))
          rw [hx]
          refine Ev.bindc (a := (-1 : Int)) (by unfold strings_IndexByte.f; rw [hix]) (Ev.pos (by omega) ?_)
          rw [w64 (x := (i : Int) + 1) (by omega) (by omega)]
          rw [show ((i : Int) + 1).toNat = i + 1 by omega, Int.toNat_natCast]
          refine Ev.pos (by omega) (Ev.pos (by omega) (Ev.pos (by omega) (Ev.pos (by omega) ?_)))
          have hid : (bytesOf acc.1).idxOf x = acc.1.size := by rw [idx_none _ _ hm, hal]
          have e : (97 + (acc.1.size : Int)) % 256 = 97 + ((bytesOf acc.1).idxOf x : Int) := by omega
          simp only [e]
          exact hr2)
    ((⟨#[]⟩ : ByteArray), []) ⟨rfl, by simp [ByteArray.size]⟩
  exact e

abbrev abc16 : ByteArray := ⟨#[97, 98, 99, 100, 101, 102, 103, 104, 105, 106, 107, 108, 109, 110, 111, 112]⟩
theorem abc_one (a : Nat) (h : a < 16) : bytesOf (abc16.extract a (a + 1)) = [97 + (a : Int)] := by
  have hd : ∀ n : Fin 16, bytesOf (abc16.extract n.val (n.val + 1)) = [97 + (n.val : Int)] := by decide +kernel
  exact hd ⟨a, h⟩
theorem abc_size (a : Nat) (h : a < 16) : (abc16.extract a (a + 1)).size = 1 := by
  rw [← bytesOf_length, abc_one a h]; rfl

/-- The inner loop: the place of a letter among those that have come. -/
theorem anew_l1 (w names out : ByteArray) (i : Int) (x : Int) (hi0 : 0 ≤ i) (hi : i < (w.size : Int)) (hx : bt w i = x) (hn : names.size ≤ 1000) (hnd : (bytesOf names).Nodup) (r : ByteArray)
    (hr : Ev (fun k => spec_loAnew.l1 k w names out i (ixL (bytesOf names) x) (names.size : Int)) r) : Ev (fun k => spec_loAnew.l1 k w names out i (-1) 0) r := by
  have hlen := bytesOf_length names
  have e := Ev.cpsB (fun k j (at_ : Int) => spec_loAnew.l1 k w names out i at_ j) (fun k at_ => spec_loAnew.l1 k w names out i at_ ((bytesOf names).length : Int)) (bytesOf names)
    (fun rest at_ => if x ∈ rest then (((bytesOf names).length - rest.length : Nat) : Int) + (rest.idxOf x : Int) else at_) (fun _ _ => True)
    (fun at_ r _ hr => by simpa using hr)
    (fun j hj at_ _ => by
      have hgj := bytesOf_get names j hj
      have hsplit : bytesOf names = (bytesOf names).take j ++ (bytesOf names)[j] :: (bytesOf names).drop (j + 1) := by
        rw [← List.drop_eq_getElem_cons hj, List.take_append_drop]
      have hdl : ((bytesOf names).drop (j + 1)).length = (bytesOf names).length - (j + 1) := List.length_drop
      generalize hR : (bytesOf names).drop (j + 1) = rest at hsplit hdl ⊢
      generalize hy : (bytesOf names)[j] = y at hsplit hgj ⊢
      by_cases e : y = x
      · subst e
        have hnot : y ∉ rest := by
          rw [hsplit] at hnd
          have := (List.nodup_append.1 hnd).2.1
          exact (List.nodup_cons.1 this).1
        refine ⟨(j : Int), trivial, ?_, fun r hr2 => ?_⟩
        · rw [if_pos (List.mem_cons_self ..), if_neg hnot, List.idxOf_cons_self, List.length_cons, hdl]
          omega
        · refine Ev.step (fun k => by rw [spec_loAnew.l1]) ?_
          refine Ev.pos (by omega) (Ev.pos (by omega) (Ev.pos hi0 (Ev.pos hi ?_)))
          rw [w64 (x := (j : Int) + 1) (by omega) (by omega)]
          exact Ev.pos (by rw [hgj, hx]) hr2
      · refine ⟨at_, trivial, ?_, fun r hr2 => ?_⟩
        · by_cases hm : x ∈ rest
          · rw [if_pos hm, if_pos (List.mem_cons_of_mem _ hm), List.idxOf_cons, show (y == x) = false by simpa using e, cond_false, List.length_cons, hdl]
            omega
          · rw [if_neg hm, if_neg (by simp only [List.mem_cons, not_or]; exact ⟨fun h => e h.symm, hm⟩)]
        · refine Ev.step (fun k => by rw [spec_loAnew.l1]) ?_
          refine Ev.pos (by omega) (Ev.pos (by omega) (Ev.pos hi0 (Ev.pos hi ?_)))
          rw [w64 (x := (j : Int) + 1) (by omega) (by omega)]
          exact Ev.neg (by rw [hgj, hx]; exact e) hr2)
    (bytesOf names).length 0 (-1) r (by omega) trivial (by
      rw [List.drop_zero, Nat.sub_self]
      unfold ixL at hr
      rw [hlen]
      simpa using hr)
  simpa using e
theorem loAnew_ev (w : ByteArray) (hw : w.size ≤ 16) : Ev (fun k => spec_loAnew.f k w) (anewS w) := by
  unfold spec_loAnew.f
  have hlen := bytesOf_length w
  have e := Ev.scan0 (fun k i (acc : ByteArray × ByteArray) => spec_loAnew.l0 k w acc.1 acc.2 i) (bytesOf w) (fun rest acc => strOfNums (bytesOf acc.2 ++ anew (bytesOf acc.1) rest)) (fun i acc => acc.2.size = i ∧ acc.1.size ≤ i ∧ (bytesOf acc.1).Nodup)
    (fun acc hp => by
      refine Ev.step (fun k => by rw [spec_loAnew.l0]) ?_
      refine Ev.neg (by omega) (Ev.val ?_)
      rw [anew, List.append_nil, strOf_bytesOf])
    (fun i hi acc hp => by
      obtain ⟨p1, p2, p3⟩ := hp
      have hi2 : i < w.size := by omega
      have hx := bytesOf_get w i hi
      have hone := bytesOf_one w i hi
      have hs1 : (w.extract i (i + 1)).size = 1 := by rw [← bytesOf_length, hone]; rfl
      have hal := bytesOf_length acc.1
      generalize (bytesOf w)[i] = x at hx hone
      have hstep : ∀ r, Ev (fun k => spec_loAnew.l1 k w acc.1 acc.2 i (ixL (bytesOf acc.1) x) (acc.1.size : Int)) r → Ev (fun k => spec_loAnew.l0 k w acc.1 acc.2 i) r := fun r hr => by
        refine Ev.step (fun k => by rw [spec_loAnew.l0]) ?_
        exact Ev.pos (by omega) (anew_l1 w acc.1 acc.2 i x (by omega) (by omega) hx (by omega) p3 r hr)
      by_cases hm : x ∈ bytesOf acc.1
      · have hlt : (bytesOf acc.1).idxOf x < (bytesOf acc.1).length := List.idxOf_lt_length_iff.2 hm
        rw [ixL, if_pos hm] at hstep
        generalize ha : (bytesOf acc.1).idxOf x = a at hlt hstep
        have h16 : a < 16 := by omega
        have hsz : (acc.2 ++ abc16.extract a (a + 1)).size = acc.2.size + 1 := by rw [ByteArray.size_append, abc_size a h16]
        refine .inl ⟨(acc.1, acc.2 ++ abc16.extract a (a + 1)), ⟨by dsimp only; omega, by dsimp only; omega, p3⟩, ?_, fun r hr2 => hstep r ?_⟩
        · rw [anew, if_pos hm, ha]
          dsimp only
          rw [bytesOf_append, abc_one a h16]
          simp
        · refine Ev.step (fun k => by rw [spec_loAnew.l1]) ?_
          refine Ev.neg (by omega) (Ev.neg (by omega) (Ev.pos (by omega) ?_))
          rw [w64 (x := (a : Int) + 1) (by omega) (by omega), w64 (x := (i : Int) + 1) (by omega) (by omega), show ((a : Int) + 1).toNat = a + 1 by omega, Int.toNat_natCast]
          refine Ev.pos (by omega) (Ev.pos (by omega) (Ev.pos ?_ hr2))
          have h := abc_size a h16
          unfold abc16 at h
          omega
      · rw [ixL, if_neg hm] at hstep
        have h16 : acc.1.size < 16 := by omega
        have hsz : (acc.1 ++ w.extract i (i + 1)).size = acc.1.size + 1 := by rw [ByteArray.size_append, hs1]
        have hsz2 : (acc.2 ++ abc16.extract acc.1.size (acc.1.size + 1)).size = acc.2.size + 1 := by rw [ByteArray.size_append, abc_size _ h16]
        refine .inl ⟨(acc.1 ++ w.extract i (i + 1), acc.2 ++ abc16.extract acc.1.size (acc.1.size + 1)), ⟨by dsimp only; omega, by dsimp only; omega, ?_⟩, ?_, fun r hr2 => hstep r ?_⟩
        · dsimp only
          rw [bytesOf_append, hone]
          refine List.nodup_append.2 ⟨p3, by simp, fun a ha b hb => ?_⟩
          obtain rfl : b = x := by simpa using hb
          exact fun e => hm (e ▸ ha)
        · rw [anew, if_neg hm, idx_none _ _ hm, hal]
          dsimp only
          rw [bytesOf_append, bytesOf_append, hone, abc_one _ h16]
          simp
        · refine Ev.step (fun k => by rw [spec_loAnew.l1]) ?_
          refine Ev.neg (by omega) (Ev.pos (by omega) (Ev.pos (by omega) ?_))
          rw [w64 (x := (acc.1.size : Int) + 1) (by omega) (by omega), w64 (x := (i : Int) + 1) (by omega) (by omega), show ((acc.1.size : Int) + 1).toNat = acc.1.size + 1 by omega, show ((i : Int) + 1).toNat = i + 1 by omega, Int.toNat_natCast, Int.toNat_natCast]
          refine Ev.pos (by omega) (Ev.pos (by omega) (Ev.pos (by omega) (Ev.pos (by omega) (Ev.pos (by omega) (Ev.pos (by omega) (Ev.pos ?_ hr2))))))
          have h := abc_size _ h16
          unfold abc16 at h
          omega)
    ((⟨#[]⟩ : ByteArray), (⟨#[]⟩ : ByteArray)) ⟨rfl, by simp [ByteArray.size], by simp [bytesOf]⟩
  exact e
end Go.Proofs.YtkfllbbpclgffaaDoor.M
