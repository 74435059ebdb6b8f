/- Letters are interlaced both ways, loops that are turned and told back are the same and drawn alike, and crossings are taken out. (Part 3 of 6.) -/
import Derived.Shelf.SlGeneric
import Derived.Shelf.SlicesE.Reverse
import Derived.Ground.SlgnProg
import Derived.Test.YtcgoaipbfnhjhaaGreatDoorProg
import Derived.Lib.MinMaxS
import Derived.Lib.OthersKept
import Derived.Laws.RangeString
import Derived.BigQuiet
import Derived.Deep.QuietTactic
import Derived.IntWalk
import Derived.Laws.Strings
import Derived.Lib.Bytealg
import Derived.Test.YtcgoaipbfnhjhaaGreatDoorKFnLoopsLace0
import Derived.Test.YtcgoaipbfnhjhaaGreatDoorKFnLoopsLace1
-- Written by a program for this claim.
namespace Go.Proofs.YtcgoaipbfnhjhaaGreatDoor.Pr
open Go.RowKit Go.Proofs.YtcgoaipbfnhjhaaGreatDoorW.PrintWords Go.Proofs.YtcgoaipbfnhjhaaGreatDoorW.PrintLast Go.Proofs.YtcgoaipbfnhjhaaGreatDoorW.PrintMore
attribute [local go_sem] max2_int min2_int max_two min_two max_three min_three max_four min_four   -- for this text's walks alone
set_option linter.unusedVariables false
set_option linter.unusedSimpArgs false

/-! ### spec_loWith: function 97 -/
def spec_loWith.l0 : Nat → ByteArray → Int → ByteArray → Int → Option (ByteArray)
  | 0, _, _, _, _ => none
  | k + 1, x0, x1, x5, x6 => if x6 < (wrap64 ((x0.size : Int) / 2)) then ((spec_loLaced.f k x0 x1 ((wrap64 (97 + x6)) % 256)).bind fun t163 => (if t163 = true then (if 0 ≤ x6 then (if x6 ≤ (wrap64 (x6 + 1)) then (if (wrap64 (x6 + 1)) ≤ 16 then (if x5.size + ((⟨#[97, 98, 99, 100, 101, 102, 103, 104, 105, 106, 107, 108, 109, 110, 111, 112]⟩ : ByteArray).extract (x6 : Int).toNat ((wrap64 (x6 + 1)) : Int).toNat).size ≤ 9223372036854775807 then (spec_loWith.l0 k x0 x1 (x5 ++ ((⟨#[97, 98, 99, 100, 101, 102, 103, 104, 105, 106, 107, 108, 109, 110, 111, 112]⟩ : ByteArray).extract (x6 : Int).toNat ((wrap64 (x6 + 1)) : Int).toNat)) (wrap64 (x6 + 1))) else (none)) else (none)) else (none)) else (none)) else (spec_loWith.l0 k x0 x1 x5 (wrap64 (x6 + 1))))) else (some x5)
def spec_loWith.f (k : Nat) (a0 : ByteArray) (a1 : Int) : Option (ByteArray) := spec_loWith.l0 k a0 a1 (⟨#[]⟩ : ByteArray) 0
theorem spec_loWith.mono_l : ∀ k, (∀ y0 y1 y2 y3, LeO (spec_loWith.l0 k y0 y1 y2 y3) (spec_loWith.l0 (k + 1) y0 y1 y2 y3))
  | 0 => fun _ _ _ _ r h => by simp [spec_loWith.l0] at h
  | k + 1 => by
    have ih0 := spec_loWith.mono_l k
    · intro y0 y1 y2 y3
      unfold spec_loWith.l0
      repeat' first
      | (with_reducible exact ih0 _ _ _ _)
      | (with_reducible exact spec_loLaced.mono _ _ _ _)
      | (with_reducible exact LeO.refl _)
      | (with_reducible exact LeO.none _)
      | (with_reducible refine LeO.ite ?_ ?_)
      | (with_reducible refine LeO.bind ?_ (fun _ => ?_))
      | exact ih0 _ _ _ _
      | exact spec_loLaced.mono _ _ _ _
      | exact LeO.none _
      | refine LeO.ite ?_ ?_
      | refine LeO.bind ?_ (fun _ => ?_)
theorem spec_loWith.mono : ∀ a0 a1 k, LeO (spec_loWith.f k a0 a1) (spec_loWith.f (k + 1) a0 a1) := by
  intro a0 a1 k
  have ih0 := spec_loWith.mono_l k
  unfold spec_loWith.f
  repeat' first
      | (with_reducible exact ih0 _ _ _ _)
      | (with_reducible exact spec_loLaced.mono _ _ _ _)
      | (with_reducible exact LeO.refl _)
      | (with_reducible exact LeO.none _)
      | (with_reducible refine LeO.ite ?_ ?_)
      | (with_reducible refine LeO.bind ?_ (fun _ => ?_))
      | exact ih0 _ _ _ _
      | exact spec_loLaced.mono _ _ _ _
      | exact LeO.none _
      | refine LeO.ite ?_ ?_
      | refine LeO.bind ?_ (fun _ => ?_)
set_option maxHeartbeats 8000000 in
set_option maxRecDepth 100000 in
theorem spec_loWith.calls (k : Nat) (a0 : ByteArray) (a1 : Int) (r : ByteArray) (w : World) (h : spec_loWith.f k a0 a1 = some r) :
    Calls Tryz.prog 97 #[.string a0, .int .u8 a1] w fun e w' => e = .returned (.string r) ∧ Drawn0 w w' := by
  have H : (spec_loWith.l0 k a0 a1 (⟨#[]⟩ : ByteArray) 0) = some r := h
  clear h
  have H' := Aside0.mk H
  clear H
  go_enter Tryz.func97, Tryz.ntmps97
  go_wp2
  go_loopg [5, 6] k (fun kq v5 v6 w' => ∃ (x5_1 : ByteArray) (x6_1 : Int), v5 = .string x5_1 ∧ v6 = .int .i64 x6_1 ∧ Aside0 (spec_loWith.l0 kq a0 a1 x5_1 x6_1 = some r) ∧ Aside0 (kq ≤ k) ∧ Drawn0 w w')
  case atStart => exact ⟨((⟨#[]⟩ : ByteArray)), (0), (by first | rfl | (simp; done) | (simp [*]; done)), (by first | rfl | (simp; done) | (simp [*]; done)), H', ⟨Nat.le_refl _⟩, by repeat (first | exact Drawn0.refl _ | apply Drawn0.step)⟩
  case round =>
    clear H'
    try clear p2
    obtain ⟨x5_1, x6_1, rfl, rfl, HA, HK1, ⟨m1, rfl⟩⟩ := hrel
    cases gk with
    | zero => exact absurd HA.out (by simp [spec_loWith.l0])
    | succ k1 =>
      have H := HA.out
      clear HA
      simp only [spec_loWith.l0] at H
      by_cases c3 : x6_1 < (wrap64 ((a0.size : Int) / 2))
      · rw [if_pos c3] at H
        have c3b0 : decide (x6_1 < (wrap64 ((a0.size : Int) / 2))) = true := decide_eq_true c3
        clear c3
        replace H := Option.bind_eq_some_iff.mp H
        obtain ⟨t163, A40, H⟩ := H
        replace H : (if t163 = true then (if 0 ≤ x6_1 then (if x6_1 ≤ (wrap64 (x6_1 + 1)) then (if (wrap64 (x6_1 + 1)) ≤ 16 then (if x5_1.size + ((⟨#[97, 98, 99, 100, 101, 102, 103, 104, 105, 106, 107, 108, 109, 110, 111, 112]⟩ : ByteArray).extract (x6_1 : Int).toNat ((wrap64 (x6_1 + 1)) : Int).toNat).size ≤ 9223372036854775807 then (spec_loWith.l0 k1 a0 a1 (x5_1 ++ ((⟨#[97, 98, 99, 100, 101, 102, 103, 104, 105, 106, 107, 108, 109, 110, 111, 112]⟩ : ByteArray).extract (x6_1 : Int).toNat ((wrap64 (x6_1 + 1)) : Int).toNat)) (wrap64 (x6_1 + 1))) else (none)) else (none)) else (none)) else (none)) else (spec_loWith.l0 k1 a0 a1 x5_1 (wrap64 (x6_1 + 1)))) = some r := H
        have A4 := Aside0.mk A40
        clear A40
        by_cases c5 : t163 = true
        · subst c5
          have H1 : (if 0 ≤ x6_1 then (if x6_1 ≤ (wrap64 (x6_1 + 1)) then (if (wrap64 (x6_1 + 1)) ≤ 16 then (if x5_1.size + ((⟨#[97, 98, 99, 100, 101, 102, 103, 104, 105, 106, 107, 108, 109, 110, 111, 112]⟩ : ByteArray).extract (x6_1 : Int).toNat ((wrap64 (x6_1 + 1)) : Int).toNat).size ≤ 9223372036854775807 then (spec_loWith.l0 k1 a0 a1 (x5_1 ++ ((⟨#[97, 98, 99, 100, 101, 102, 103, 104, 105, 106, 107, 108, 109, 110, 111, 112]⟩ : ByteArray).extract (x6_1 : Int).toNat ((wrap64 (x6_1 + 1)) : Int).toNat)) (wrap64 (x6_1 + 1))) else (none)) else (none)) else (none)) else (none)) = some r := by rw [if_pos rfl] at H; exact H
          clear H
          have H := H1
          clear H1
          by_cases c6 : 0 ≤ x6_1
          · rw [if_pos c6] at H
            have c6b0 := eq_true c6
            have c6b1 : decide (0 ≤ x6_1) = true := decide_eq_true c6
            clear c6
            by_cases c7 : x6_1 ≤ (wrap64 (x6_1 + 1))
            · rw [if_pos c7] at H
              have c7b0 := eq_true c7
              have c7b1 : decide (x6_1 ≤ (wrap64 (x6_1 + 1))) = true := decide_eq_true c7
              by_cases c8 : (wrap64 (x6_1 + 1)) ≤ 16
              · rw [if_pos c8] at H
                have c8b0 := eq_true c8
                have c8b1 : decide ((wrap64 (x6_1 + 1)) ≤ 16) = true := decide_eq_true c8
                by_cases c9 : x5_1.size + ((⟨#[97, 98, 99, 100, 101, 102, 103, 104, 105, 106, 107, 108, 109, 110, 111, 112]⟩ : ByteArray).extract (x6_1 : Int).toNat ((wrap64 (x6_1 + 1)) : Int).toNat).size ≤ 9223372036854775807
                · rw [if_pos c9] at H
                  have c9b0 := eq_true c9
                  have c9b1 : decide (x5_1.size + ((⟨#[97, 98, 99, 100, 101, 102, 103, 104, 105, 106, 107, 108, 109, 110, 111, 112]⟩ : ByteArray).extract (x6_1 : Int).toNat ((wrap64 (x6_1 + 1)) : Int).toNat).size ≤ 9223372036854775807) = true := decide_eq_true c9
                  try have c9b2 : (9223372036854775807 < x5_1.size + ((⟨#[97, 98, 99, 100, 101, 102, 103, 104, 105, 106, 107, 108, 109, 110, 111, 112]⟩ : ByteArray).extract (x6_1 : Int).toNat ((wrap64 (x6_1 + 1)) : Int).toNat).size) = False := eq_false (Nat.not_lt.2 c9)
                  have H' := Aside0.mk H
                  clear H
                  go_wp2_with (first | ((with_reducible refine gate_callee (f := 96) rfl ?_); refine goesL_ (some 19) rfl rfl Tryz.func96 (by kernel_rfl) rfl #[.string a0, .int .u8 a1, .int .u8 ((wrap64 (97 + x6_1)) % 256)] rfl (by (try simp only [List.map_toArray, List.map_cons, List.map_nil]); first | done | rfl | (simp only [List.length_drop, List.length_take]; rfl)) ?_; (with_reducible refine (spec_loLaced.calls k1 a0 a1 ((wrap64 (97 + x6_1)) % 256) true _ A4.out).mono ?_); rintro e w' ⟨rfl, ⟨nd, rfl⟩⟩; refine ⟨_, rfl, ?_⟩))
                  go_roundg k1
                  case measure => have := HK1.out; omega
                  case rel => exact ⟨(x5_1 ++ ((⟨#[97, 98, 99, 100, 101, 102, 103, 104, 105, 106, 107, 108, 109, 110, 111, 112]⟩ : ByteArray).extract (x6_1 : Int).toNat ((wrap64 (x6_1 + 1)) : Int).toNat)), (wrap64 (x6_1 + 1)), (by first | rfl | (simp; done) | (simp [*]; done)), (by first | rfl | (simp; done) | (simp [*]; done)), H', ⟨by have := HK1.out; omega⟩, by repeat (first | exact Drawn0.refl _ | apply Drawn0.step)⟩
                · rw [if_neg c9] at H
                  exact absurd H (by simp)
              · rw [if_neg c8] at H
                exact absurd H (by simp)
            · rw [if_neg c7] at H
              exact absurd H (by simp)
          · rw [if_neg c6] at H
            exact absurd H (by simp)
        · replace c5 := Bool.eq_false_iff.mpr c5
          subst c5
          have H1 : (spec_loWith.l0 k1 a0 a1 x5_1 (wrap64 (x6_1 + 1))) = some r := by rw [if_neg (show ¬ (false = true) by decide)] at H; exact H
          clear H
          have H := H1
          clear H1
          have H' := Aside0.mk H
          clear H
          go_wp2_with (first | ((with_reducible refine gate_callee (f := 96) rfl ?_); refine goesL_ (some 19) rfl rfl Tryz.func96 (by kernel_rfl) rfl #[.string a0, .int .u8 a1, .int .u8 ((wrap64 (97 + x6_1)) % 256)] rfl (by (try simp only [List.map_toArray, List.map_cons, List.map_nil]); first | done | rfl | (simp only [List.length_drop, List.length_take]; rfl)) ?_; (with_reducible refine (spec_loLaced.calls k1 a0 a1 ((wrap64 (97 + x6_1)) % 256) false _ A4.out).mono ?_); rintro e w' ⟨rfl, ⟨nd, rfl⟩⟩; refine ⟨_, rfl, ?_⟩))
          go_roundg k1
          case measure => have := HK1.out; omega
          case rel => exact ⟨(x5_1), (wrap64 (x6_1 + 1)), (by first | rfl | (simp; done) | (simp [*]; done)), (by first | rfl | (simp; done) | (simp [*]; done)), H', ⟨by have := HK1.out; omega⟩, by repeat (first | exact Drawn0.refl _ | apply Drawn0.step)⟩
      · rw [if_neg c3] at H
        have c3b0 : decide (x6_1 < (wrap64 ((a0.size : Int) / 2))) = false := decide_eq_false c3
        clear c3
        obtain rfl := Option.some.inj H
        go_wp2
        go_ret
        exact ⟨by first | rfl | (simp; done) | (simp [*]; done), by repeat (first | exact Drawn0.refl _ | apply Drawn0.step)⟩

end Go.Proofs.YtcgoaipbfnhjhaaGreatDoor.Pr

-- Written by a program for this claim.
namespace Go.Proofs.YtcgoaipbfnhjhaaGreatDoor.Pr
open Go.RowKit Go.Proofs.YtcgoaipbfnhjhaaGreatDoorW.PrintWords Go.Proofs.YtcgoaipbfnhjhaaGreatDoorW.PrintLast Go.Proofs.YtcgoaipbfnhjhaaGreatDoorW.PrintMore
attribute [local go_sem] max2_int min2_int max_two min_two max_three min_three max_four min_four   -- for this text's walks alone
set_option linter.unusedVariables false
set_option linter.unusedSimpArgs false

/-! ### spec_loEven: function 81 -/
def spec_loEven.l0 : Nat → ByteArray → Int → Option (Bool)
  | 0, _, _ => none
  | k + 1, x0, x3 => if x3 < (wrap64 ((x0.size : Int) / 2)) then ((spec_loWith.f k x0 ((wrap64 (97 + x3)) % 256)).bind fun t164 => (if ((t164.size : Int) % 2) = 0 then (spec_loEven.l0 k x0 (wrap64 (x3 + 1))) else (some false))) else (some true)
def spec_loEven.f (k : Nat) (a0 : ByteArray) : Option (Bool) := spec_loEven.l0 k a0 0
theorem spec_loEven.mono_l : ∀ k, (∀ y0 y1, LeO (spec_loEven.l0 k y0 y1) (spec_loEven.l0 (k + 1) y0 y1))
  | 0 => fun _ _ r h => by simp [spec_loEven.l0] at h
  | k + 1 => by
    have ih0 := spec_loEven.mono_l k
    · intro y0 y1
      unfold spec_loEven.l0
      repeat' first
      | (with_reducible exact ih0 _ _)
      | (with_reducible exact spec_loWith.mono _ _ _)
      | (with_reducible exact LeO.refl _)
      | (with_reducible exact LeO.none _)
      | (with_reducible refine LeO.ite ?_ ?_)
      | (with_reducible refine LeO.bind ?_ (fun _ => ?_))
      | exact ih0 _ _
      | exact spec_loWith.mono _ _ _
      | exact LeO.none _
      | refine LeO.ite ?_ ?_
      | refine LeO.bind ?_ (fun _ => ?_)
theorem spec_loEven.mono : ∀ a0 k, LeO (spec_loEven.f k a0) (spec_loEven.f (k + 1) a0) := by
  intro a0 k
  have ih0 := spec_loEven.mono_l k
  unfold spec_loEven.f
  repeat' first
      | (with_reducible exact ih0 _ _)
      | (with_reducible exact spec_loWith.mono _ _ _)
      | (with_reducible exact LeO.refl _)
      | (with_reducible exact LeO.none _)
      | (with_reducible refine LeO.ite ?_ ?_)
      | (with_reducible refine LeO.bind ?_ (fun _ => ?_))
      | exact ih0 _ _
      | exact spec_loWith.mono _ _ _
      | exact LeO.none _
      | refine LeO.ite ?_ ?_
      | refine LeO.bind ?_ (fun _ => ?_)
set_option maxHeartbeats 8000000 in
set_option maxRecDepth 100000 in
theorem spec_loEven.calls (k : Nat) (a0 : ByteArray) (r : Bool) (w : World) (h : spec_loEven.f k a0 = some r) :
    Calls Tryz.prog 81 #[.string a0] w fun e w' => e = .returned (.bool r) ∧ Drawn0 w w' := by
  have H : (spec_loEven.l0 k a0 0) = some r := h
  clear h
  have H' := Aside0.mk H
  clear H
  go_enter Tryz.func81, Tryz.ntmps81
  go_wp2
  go_loopg [3] k (fun kq v3 w' => ∃ (x3_1 : Int), v3 = .int .i64 x3_1 ∧ Aside0 (spec_loEven.l0 kq a0 x3_1 = some r) ∧ Aside0 (kq ≤ k) ∧ Drawn0 w w')
  case atStart => exact ⟨(0), (by first | rfl | (simp; done) | (simp [*]; done)), H', ⟨Nat.le_refl _⟩, by repeat (first | exact Drawn0.refl _ | apply Drawn0.step)⟩
  case round =>
    clear H'
    obtain ⟨x3_1, rfl, HA, HK1, ⟨m1, rfl⟩⟩ := hrel
    cases gk with
    | zero => exact absurd HA.out (by simp [spec_loEven.l0])
    | succ k1 =>
      have H := HA.out
      clear HA
      simp only [spec_loEven.l0] at H
      by_cases c2 : x3_1 < (wrap64 ((a0.size : Int) / 2))
      · rw [if_pos c2] at H
        have c2b0 : decide (x3_1 < (wrap64 ((a0.size : Int) / 2))) = true := decide_eq_true c2
        clear c2
        replace H := Option.bind_eq_some_iff.mp H
        obtain ⟨t164, A30, H⟩ := H
        replace H : (if ((t164.size : Int) % 2) = 0 then (spec_loEven.l0 k1 a0 (wrap64 (x3_1 + 1))) else (some false)) = some r := H
        have A3 := Aside0.mk A30
        clear A30
        by_cases c4 : ((t164.size : Int) % 2) = 0
        · rw [if_pos c4] at H
          have c4b0 : (((t164.size : Int) % 2) == 0) = true := beq_iff_eq.mpr c4
          have c4b1 : (((t164.size : Int) % 2) != 0) = false := bne_eq_false_iff_eq.mpr c4
          clear c4
          have H' := Aside0.mk H
          clear H
          go_wp2_with (first | ((with_reducible refine gate_callee (f := 97) rfl ?_); refine goesL_ (some 15) rfl rfl Tryz.func97 (by kernel_rfl) rfl #[.string a0, .int .u8 ((wrap64 (97 + x3_1)) % 256)] rfl (by (try simp only [List.map_toArray, List.map_cons, List.map_nil]); first | done | rfl | (simp only [List.length_drop, List.length_take]; rfl)) ?_; (with_reducible refine (spec_loWith.calls k1 a0 ((wrap64 (97 + x3_1)) % 256) t164 _ A3.out).mono ?_); rintro e w' ⟨rfl, ⟨nd, rfl⟩⟩; refine ⟨_, rfl, ?_⟩))
          go_roundg k1
          case measure => have := HK1.out; omega
          case rel => exact ⟨(wrap64 (x3_1 + 1)), (by first | rfl | (simp; done) | (simp [*]; done)), H', ⟨by have := HK1.out; omega⟩, by repeat (first | exact Drawn0.refl _ | apply Drawn0.step)⟩
        · rw [if_neg c4] at H
          have c4b0 : (((t164.size : Int) % 2) == 0) = false := beq_eq_false_iff_ne.mpr c4
          have c4b1 : (((t164.size : Int) % 2) != 0) = true := bne_iff_ne.mpr c4
          obtain rfl := Option.some.inj H
          go_wp2_with (first | ((with_reducible refine gate_callee (f := 97) rfl ?_); refine goesL_ (some 15) rfl rfl Tryz.func97 (by kernel_rfl) rfl #[.string a0, .int .u8 ((wrap64 (97 + x3_1)) % 256)] rfl (by (try simp only [List.map_toArray, List.map_cons, List.map_nil]); first | done | rfl | (simp only [List.length_drop, List.length_take]; rfl)) ?_; (with_reducible refine (spec_loWith.calls k1 a0 ((wrap64 (97 + x3_1)) % 256) t164 _ A3.out).mono ?_); rintro e w' ⟨rfl, ⟨nd, rfl⟩⟩; refine ⟨_, rfl, ?_⟩))
          go_ret
          exact ⟨by first | rfl | (simp; done) | (simp [*]; done), by repeat (first | exact Drawn0.refl _ | apply Drawn0.step)⟩
      · rw [if_neg c2] at H
        have c2b0 : decide (x3_1 < (wrap64 ((a0.size : Int) / 2))) = false := decide_eq_false c2
        clear c2
        obtain rfl := Option.some.inj H
        go_wp2
        go_ret
        exact ⟨by first | rfl | (simp; done) | (simp [*]; done), by repeat (first | exact Drawn0.refl _ | apply Drawn0.step)⟩

end Go.Proofs.YtcgoaipbfnhjhaaGreatDoor.Pr

-- Written by a program for this claim.
namespace Go.Proofs.YtcgoaipbfnhjhaaGreatDoor.Pr
open Go.RowKit Go.Proofs.YtcgoaipbfnhjhaaGreatDoorW.PrintWords Go.Proofs.YtcgoaipbfnhjhaaGreatDoorW.PrintLast Go.Proofs.YtcgoaipbfnhjhaaGreatDoorW.PrintMore
attribute [local go_sem] max2_int min2_int max_two min_two max_three min_three max_four min_four   -- for this text's walks alone
set_option linter.unusedVariables false
set_option linter.unusedSimpArgs false

/-! ### spec_loBoth: function 114 -/
def spec_loBoth.l0 : Nat → ByteArray → Int → Int → Int → Int → Option (Int)
  | 0, _, _, _, _, _ => none
  | k + 1, x0, x1, x2, x7, x8 => if x8 < (wrap64 ((x0.size : Int) / 2)) then ((spec_loLaced.f k x0 x1 ((wrap64 (97 + x8)) % 256)).bind fun t165 => (if t165 = true then ((spec_loLaced.f k x0 x2 ((wrap64 (97 + x8)) % 256)).bind fun t166 => (if t166 = true then (spec_loBoth.l0 k x0 x1 x2 (wrap64 (x7 + 1)) (wrap64 (x8 + 1))) else (spec_loBoth.l0 k x0 x1 x2 x7 (wrap64 (x8 + 1))))) else (spec_loBoth.l0 k x0 x1 x2 x7 (wrap64 (x8 + 1))))) else (some x7)
def spec_loBoth.f (k : Nat) (a0 : ByteArray) (a1 : Int) (a2 : Int) : Option (Int) := spec_loBoth.l0 k a0 a1 a2 0 0
theorem spec_loBoth.mono_l : ∀ k, (∀ y0 y1 y2 y3 y4, LeO (spec_loBoth.l0 k y0 y1 y2 y3 y4) (spec_loBoth.l0 (k + 1) y0 y1 y2 y3 y4))
  | 0 => fun _ _ _ _ _ r h => by simp [spec_loBoth.l0] at h
  | k + 1 => by
    have ih0 := spec_loBoth.mono_l k
    · intro y0 y1 y2 y3 y4
      unfold spec_loBoth.l0
      repeat' first
      | (with_reducible exact ih0 _ _ _ _ _)
      | (with_reducible exact spec_loLaced.mono _ _ _ _)
      | (with_reducible exact LeO.refl _)
      | (with_reducible exact LeO.none _)
      | (with_reducible refine LeO.ite ?_ ?_)
      | (with_reducible refine LeO.bind ?_ (fun _ => ?_))
      | exact ih0 _ _ _ _ _
      | exact spec_loLaced.mono _ _ _ _
      | exact LeO.none _
      | refine LeO.ite ?_ ?_
      | refine LeO.bind ?_ (fun _ => ?_)
theorem spec_loBoth.mono : ∀ a0 a1 a2 k, LeO (spec_loBoth.f k a0 a1 a2) (spec_loBoth.f (k + 1) a0 a1 a2) := by
  intro a0 a1 a2 k
  have ih0 := spec_loBoth.mono_l k
  unfold spec_loBoth.f
  repeat' first
      | (with_reducible exact ih0 _ _ _ _ _)
      | (with_reducible exact spec_loLaced.mono _ _ _ _)
      | (with_reducible exact LeO.refl _)
      | (with_reducible exact LeO.none _)
      | (with_reducible refine LeO.ite ?_ ?_)
      | (with_reducible refine LeO.bind ?_ (fun _ => ?_))
      | exact ih0 _ _ _ _ _
      | exact spec_loLaced.mono _ _ _ _
      | exact LeO.none _
      | refine LeO.ite ?_ ?_
      | refine LeO.bind ?_ (fun _ => ?_)
set_option maxHeartbeats 8000000 in
set_option maxRecDepth 100000 in
theorem spec_loBoth.calls (k : Nat) (a0 : ByteArray) (a1 : Int) (a2 : Int) (r : Int) (w : World) (h : spec_loBoth.f k a0 a1 a2 = some r) :
    Calls Tryz.prog 114 #[.string a0, .int .u8 a1, .int .u8 a2] w fun e w' => e = .returned (.int .i64 r) ∧ Drawn0 w w' := by
  have H : (spec_loBoth.l0 k a0 a1 a2 0 0) = some r := h
  clear h
  have H' := Aside0.mk H
  clear H
  go_enter Tryz.func114, Tryz.ntmps114
  go_wp2
  go_loopg [7, 8] k (fun kq v7 v8 w' => ∃ (x7_1 : Int) (x8_1 : Int), v7 = .int .i64 x7_1 ∧ v8 = .int .i64 x8_1 ∧ Aside0 (spec_loBoth.l0 kq a0 a1 a2 x7_1 x8_1 = some r) ∧ Aside0 (kq ≤ k) ∧ Drawn0 w w')
  case atStart => exact ⟨(0), (0), (by first | rfl | (simp; done) | (simp [*]; done)), (by first | rfl | (simp; done) | (simp [*]; done)), H', ⟨Nat.le_refl _⟩, by repeat (first | exact Drawn0.refl _ | apply Drawn0.step)⟩
  case round =>
    clear H'
    try clear c1
    try clear p2
    obtain ⟨x7_1, x8_1, rfl, rfl, HA, HK1, ⟨m1, rfl⟩⟩ := hrel
    cases gk with
    | zero => exact absurd HA.out (by simp [spec_loBoth.l0])
    | succ k1 =>
      have H := HA.out
      clear HA
      simp only [spec_loBoth.l0] at H
      by_cases c4 : x8_1 < (wrap64 ((a0.size : Int) / 2))
      · rw [if_pos c4] at H
        have c4b0 : decide (x8_1 < (wrap64 ((a0.size : Int) / 2))) = true := decide_eq_true c4
        clear c4
        replace H := Option.bind_eq_some_iff.mp H
        obtain ⟨t165, A50, H⟩ := H
        replace H : (if t165 = true then ((spec_loLaced.f k1 a0 a2 ((wrap64 (97 + x8_1)) % 256)).bind fun t166 => (if t166 = true then (spec_loBoth.l0 k1 a0 a1 a2 (wrap64 (x7_1 + 1)) (wrap64 (x8_1 + 1))) else (spec_loBoth.l0 k1 a0 a1 a2 x7_1 (wrap64 (x8_1 + 1))))) else (spec_loBoth.l0 k1 a0 a1 a2 x7_1 (wrap64 (x8_1 + 1)))) = some r := H
        have A5 := Aside0.mk A50
        clear A50
        by_cases c6 : t165 = true
        · subst c6
          have H1 : ((spec_loLaced.f k1 a0 a2 ((wrap64 (97 + x8_1)) % 256)).bind fun t166 => (if t166 = true then (spec_loBoth.l0 k1 a0 a1 a2 (wrap64 (x7_1 + 1)) (wrap64 (x8_1 + 1))) else (spec_loBoth.l0 k1 a0 a1 a2 x7_1 (wrap64 (x8_1 + 1))))) = some r := by rw [if_pos rfl] at H; exact H
          clear H
          have H := H1
          clear H1
          replace H := Option.bind_eq_some_iff.mp H
          obtain ⟨t166, A70, H⟩ := H
          replace H : (if t166 = true then (spec_loBoth.l0 k1 a0 a1 a2 (wrap64 (x7_1 + 1)) (wrap64 (x8_1 + 1))) else (spec_loBoth.l0 k1 a0 a1 a2 x7_1 (wrap64 (x8_1 + 1)))) = some r := H
          have A7 := Aside0.mk A70
          clear A70
          by_cases c8 : t166 = true
          · subst c8
            have H1 : (spec_loBoth.l0 k1 a0 a1 a2 (wrap64 (x7_1 + 1)) (wrap64 (x8_1 + 1))) = some r := by rw [if_pos rfl] at H; exact H
            clear H
            have H := H1
            clear H1
            have H' := Aside0.mk H
            clear H
            go_wp2_with (first | ((with_reducible refine gate_callee (f := 96) rfl ?_); refine goesL_ (some 21) rfl rfl Tryz.func96 (by kernel_rfl) rfl #[.string a0, .int .u8 a1, .int .u8 ((wrap64 (97 + x8_1)) % 256)] rfl (by (try simp only [List.map_toArray, List.map_cons, List.map_nil]); first | done | rfl | (simp only [List.length_drop, List.length_take]; rfl)) ?_; (with_reducible refine (spec_loLaced.calls k1 a0 a1 ((wrap64 (97 + x8_1)) % 256) true _ A5.out).mono ?_); rintro e w' ⟨rfl, ⟨nd, rfl⟩⟩; refine ⟨_, rfl, ?_⟩) | (go_at_call 96; (with_reducible refine (spec_loLaced.calls k1 a0 a2 ((wrap64 (97 + x8_1)) % 256) true _ A7.out).mono ?_); rintro e w' ⟨rfl, ⟨nd, rfl⟩⟩))
            go_roundg k1
            case measure => have := HK1.out; omega
            case rel => exact ⟨(wrap64 (x7_1 + 1)), (wrap64 (x8_1 + 1)), (by first | rfl | (simp; done) | (simp [*]; done)), (by first | rfl | (simp; done) | (simp [*]; done)), H', ⟨by have := HK1.out; omega⟩, by repeat (first | exact Drawn0.refl _ | apply Drawn0.step)⟩
          · replace c8 := Bool.eq_false_iff.mpr c8
            subst c8
            have H1 : (spec_loBoth.l0 k1 a0 a1 a2 x7_1 (wrap64 (x8_1 + 1))) = some r := by rw [if_neg (show ¬ (false = true) by decide)] at H; exact H
            clear H
            have H := H1
            clear H1
            have H' := Aside0.mk H
            clear H
            go_wp2_with (first | ((with_reducible refine gate_callee (f := 96) rfl ?_); refine goesL_ (some 21) rfl rfl Tryz.func96 (by kernel_rfl) rfl #[.string a0, .int .u8 a1, .int .u8 ((wrap64 (97 + x8_1)) % 256)] rfl (by (try simp only [List.map_toArray, List.map_cons, List.map_nil]); first | done | rfl | (simp only [List.length_drop, List.length_take]; rfl)) ?_; (with_reducible refine (spec_loLaced.calls k1 a0 a1 ((wrap64 (97 + x8_1)) % 256) true _ A5.out).mono ?_); rintro e w' ⟨rfl, ⟨nd, rfl⟩⟩; refine ⟨_, rfl, ?_⟩) | (go_at_call 96; (with_reducible refine (spec_loLaced.calls k1 a0 a2 ((wrap64 (97 + x8_1)) % 256) false _ A7.out).mono ?_); rintro e w' ⟨rfl, ⟨nd, rfl⟩⟩))
            go_roundg k1
            case measure => have := HK1.out; omega
            case rel => exact ⟨(x7_1), (wrap64 (x8_1 + 1)), (by first | rfl | (simp; done) | (simp [*]; done)), (by first | rfl | (simp; done) | (simp [*]; done)), H', ⟨by have := HK1.out; omega⟩, by repeat (first | exact Drawn0.refl _ | apply Drawn0.step)⟩
        · replace c6 := Bool.eq_false_iff.mpr c6
          subst c6
          have H1 : (spec_loBoth.l0 k1 a0 a1 a2 x7_1 (wrap64 (x8_1 + 1))) = some r := by rw [if_neg (show ¬ (false = true) by decide)] at H; exact H
          clear H
          have H := H1
          clear H1
          have H' := Aside0.mk H
          clear H
          go_wp2_with (first | ((with_reducible refine gate_callee (f := 96) rfl ?_); refine goesL_ (some 21) rfl rfl Tryz.func96 (by kernel_rfl) rfl #[.string a0, .int .u8 a1, .int .u8 ((wrap64 (97 + x8_1)) % 256)] rfl (by (try simp only [List.map_toArray, List.map_cons, List.map_nil]); first | done | rfl | (simp only [List.length_drop, List.length_take]; rfl)) ?_; (with_reducible refine (spec_loLaced.calls k1 a0 a1 ((wrap64 (97 + x8_1)) % 256) false _ A5.out).mono ?_); rintro e w' ⟨rfl, ⟨nd, rfl⟩⟩; refine ⟨_, rfl, ?_⟩))
          go_roundg k1
          case measure => have := HK1.out; omega
          case rel => exact ⟨(x7_1), (wrap64 (x8_1 + 1)), (by first | rfl | (simp; done) | (simp [*]; done)), (by first | rfl | (simp; done) | (simp [*]; done)), H', ⟨by have := HK1.out; omega⟩, by repeat (first | exact Drawn0.refl _ | apply Drawn0.step)⟩
      · rw [if_neg c4] at H
        have c4b0 : decide (x8_1 < (wrap64 ((a0.size : Int) / 2))) = false := decide_eq_false c4
        clear c4
        obtain rfl := Option.some.inj H
        go_wp2
        go_ret
        exact ⟨by first | rfl | (simp; done) | (simp [*]; done), by repeat (first | exact Drawn0.refl _ | apply Drawn0.step)⟩

end Go.Proofs.YtcgoaipbfnhjhaaGreatDoor.Pr

-- Written by a program for this claim.
namespace Go.Proofs.YtcgoaipbfnhjhaaGreatDoor.Pr
open Go.RowKit Go.Proofs.YtcgoaipbfnhjhaaGreatDoorW.PrintWords Go.Proofs.YtcgoaipbfnhjhaaGreatDoorW.PrintLast Go.Proofs.YtcgoaipbfnhjhaaGreatDoorW.PrintMore
attribute [local go_sem] max2_int min2_int max_two min_two max_three min_three max_four min_four   -- for this text's walks alone
set_option linter.unusedVariables false
set_option linter.unusedSimpArgs false

/-! ### spec_loDrawn: function 69 -/
mutual
def spec_loDrawn.l0 : Nat → ByteArray → Int → Int → Option (Bool)
  | 0, _, _, _ => none
  | k + 1, x0, x3, x4 => if x4 < x3 then (spec_loDrawn.l1 k x0 x3 x4 0) else (spec_loDrawn.l2 k x0 x3 0)
def spec_loDrawn.l1 : Nat → ByteArray → Int → Int → Int → Option (Bool)
  | 0, _, _, _, _ => none
  | k + 1, x0, x3, x4, x5 => if x5 < x4 then ((spec_loLaced.f k x0 ((wrap64 (97 + x4)) % 256) ((wrap64 (97 + x5)) % 256)).bind fun t168 => (if t168 = true then (spec_loDrawn.l1 k x0 x3 x4 (wrap64 (x5 + 1))) else ((spec_loBoth.f k x0 ((wrap64 (97 + x4)) % 256) ((wrap64 (97 + x5)) % 256)).bind fun t169 => (if (Int.tmod t169 2) = 0 then (spec_loDrawn.l1 k x0 x3 x4 (wrap64 (x5 + 1))) else (some false))))) else (spec_loDrawn.l0 k x0 x3 (wrap64 (x4 + 1)))
def spec_loDrawn.l2 : Nat → ByteArray → Int → Int → Option (Bool)
  | 0, _, _, _ => none
  | k + 1, x0, x3, x8 => if 0 ≤ x3 then (if x8 < (shl .i64 1 x3) then (spec_loDrawn.l3 k x0 x3 x8 true 0) else (some false)) else (none)
def spec_loDrawn.l3 : Nat → ByteArray → Int → Int → Bool → Int → Option (Bool)
  | 0, _, _, _, _, _ => none
  | k + 1, x0, x3, x8, x9, x10 => if x10 < x3 then (spec_loDrawn.j4 k x0 x3 x8 x9 x10 x9) else (spec_loDrawn.j4 k x0 x3 x8 x9 x10 false)
def spec_loDrawn.j4 : Nat → ByteArray → Int → Int → Bool → Int → Bool → Option (Bool)
  | 0, _, _, _, _, _, _ => none
  | k + 1, x0, x3, x8, x9, x10, x60 => if x60 = true then (spec_loDrawn.l4 k x0 x3 x8 x9 x10 0) else (if x9 = true then (some true) else (spec_loDrawn.l2 k x0 x3 (wrap64 (x8 + 1))))
def spec_loDrawn.l4 : Nat → ByteArray → Int → Int → Bool → Int → Int → Option (Bool)
  | 0, _, _, _, _, _, _ => none
  | k + 1, x0, x3, x8, x9, x10, x11 => if x11 < x10 then ((spec_loLaced.f k x0 ((wrap64 (97 + x10)) % 256) ((wrap64 (97 + x11)) % 256)).bind fun t170 => (if t170 = true then (if 0 ≤ x10 then (if 0 ≤ x11 then ((spec_loBoth.f k x0 ((wrap64 (97 + x10)) % 256) ((wrap64 (97 + x11)) % 256)).bind fun t171 => (if (((Go.bits .and .i64 (shr .i64 x8 x10) 1) != (Go.bits .and .i64 (shr .i64 x8 x11) 1)) != ((Int.tmod t171 2) == 0)) = true then (spec_loDrawn.l4 k x0 x3 x8 false x10 (wrap64 (x11 + 1))) else (spec_loDrawn.l4 k x0 x3 x8 x9 x10 (wrap64 (x11 + 1))))) else (none)) else (none)) else (spec_loDrawn.l4 k x0 x3 x8 x9 x10 (wrap64 (x11 + 1))))) else (spec_loDrawn.l3 k x0 x3 x8 x9 (wrap64 (x10 + 1)))
end
def spec_loDrawn.f (k : Nat) (a0 : ByteArray) : Option (Bool) := (spec_loEven.f k a0).bind fun t167 => (if t167 = true then (spec_loDrawn.l0 k a0 (wrap64 ((a0.size : Int) / 2)) 0) else (some false))
theorem spec_loDrawn.mono_l : ∀ k, (∀ y0 y1 y2, LeO (spec_loDrawn.l0 k y0 y1 y2) (spec_loDrawn.l0 (k + 1) y0 y1 y2)) ∧ (∀ y0 y1 y2 y3, LeO (spec_loDrawn.l1 k y0 y1 y2 y3) (spec_loDrawn.l1 (k + 1) y0 y1 y2 y3)) ∧ (∀ y0 y1 y2, LeO (spec_loDrawn.l2 k y0 y1 y2) (spec_loDrawn.l2 (k + 1) y0 y1 y2)) ∧ (∀ y0 y1 y2 y3 y4, LeO (spec_loDrawn.l3 k y0 y1 y2 y3 y4) (spec_loDrawn.l3 (k + 1) y0 y1 y2 y3 y4)) ∧ (∀ y0 y1 y2 y3 y4 y5, LeO (spec_loDrawn.j4 k y0 y1 y2 y3 y4 y5) (spec_loDrawn.j4 (k + 1) y0 y1 y2 y3 y4 y5)) ∧ (∀ y0 y1 y2 y3 y4 y5, LeO (spec_loDrawn.l4 k y0 y1 y2 y3 y4 y5) (spec_loDrawn.l4 (k + 1) y0 y1 y2 y3 y4 y5))
  | 0 => ⟨fun _ _ _ r h => by simp [spec_loDrawn.l0] at h, fun _ _ _ _ r h => by simp [spec_loDrawn.l1] at h, fun _ _ _ r h => by simp [spec_loDrawn.l2] at h, fun _ _ _ _ _ r h => by simp [spec_loDrawn.l3] at h, fun _ _ _ _ _ _ r h => by simp [spec_loDrawn.j4] at h, fun _ _ _ _ _ _ r h => by simp [spec_loDrawn.l4] at h⟩
  | k + 1 => by
    obtain ⟨ih0, ih1, ih2, ih3, ih4, ih5⟩ := spec_loDrawn.mono_l k
    refine ⟨?_, ?_, ?_, ?_, ?_, ?_⟩
    · intro y0 y1 y2
      unfold spec_loDrawn.l0
      repeat' first
      | (with_reducible exact ih0 _ _ _)
      | (with_reducible exact ih1 _ _ _ _)
      | (with_reducible exact ih2 _ _ _)
      | (with_reducible exact ih3 _ _ _ _ _)
      | (with_reducible exact ih4 _ _ _ _ _ _)
      | (with_reducible exact ih5 _ _ _ _ _ _)
      | (with_reducible exact spec_loBoth.mono _ _ _ _)
      | (with_reducible exact spec_loEven.mono _ _)
      | (with_reducible exact spec_loLaced.mono _ _ _ _)
      | (with_reducible exact LeO.refl _)
      | (with_reducible exact LeO.none _)
      | (with_reducible refine LeO.ite ?_ ?_)
      | (with_reducible refine LeO.bind ?_ (fun _ => ?_))
      | exact ih0 _ _ _
      | exact ih1 _ _ _ _
      | exact ih2 _ _ _
      | exact ih3 _ _ _ _ _
      | exact ih4 _ _ _ _ _ _
      | exact ih5 _ _ _ _ _ _
      | exact spec_loBoth.mono _ _ _ _
      | exact spec_loEven.mono _ _
      | exact spec_loLaced.mono _ _ _ _
      | exact LeO.none _
      | refine LeO.ite ?_ ?_
      | refine LeO.bind ?_ (fun _ => ?_)
    · intro y0 y1 y2 y3
      unfold spec_loDrawn.l1
      repeat' first
      | (with_reducible exact ih0 _ _ _)
      | (with_reducible exact ih1 _ _ _ _)
      | (with_reducible exact ih2 _ _ _)
      | (with_reducible exact ih3 _ _ _ _ _)
      | (with_reducible exact ih4 _ _ _ _ _ _)
      | (with_reducible exact ih5 _ _ _ _ _ _)
      | (with_reducible exact spec_loBoth.mono _ _ _ _)
      | (with_reducible exact spec_loEven.mono _ _)
      | (with_reducible exact spec_loLaced.mono _ _ _ _)
      | (with_reducible exact LeO.refl _)
      | (with_reducible exact LeO.none _)
      | (with_reducible refine LeO.ite ?_ ?_)
      | (with_reducible refine LeO.bind ?_ (fun _ => ?_))
      | exact ih0 _ _ _
      | exact ih1 _ _ _ _
      | exact ih2 _ _ _
      | exact ih3 _ _ _ _ _
      | exact ih4 _ _ _ _ _ _
      | exact ih5 _ _ _ _ _ _
      | exact spec_loBoth.mono _ _ _ _
      | exact spec_loEven.mono _ _
      | exact spec_loLaced.mono _ _ _ _
      | exact LeO.none _
      | refine LeO.ite ?_ ?_
      | refine LeO.bind ?_ (fun _ => ?_)
    · intro y0 y1 y2
      unfold spec_loDrawn.l2
      repeat' first
      | (with_reducible exact ih0 _ _ _)
      | (with_reducible exact ih1 _ _ _ _)
      | (with_reducible exact ih2 _ _ _)
      | (with_reducible exact ih3 _ _ _ _ _)
      | (with_reducible exact ih4 _ _ _ _ _ _)
      | (with_reducible exact ih5 _ _ _ _ _ _)
      | (with_reducible exact spec_loBoth.mono _ _ _ _)
      | (with_reducible exact spec_loEven.mono _ _)
      | (with_reducible exact spec_loLaced.mono _ _ _ _)
      | (with_reducible exact LeO.refl _)
      | (with_reducible exact LeO.none _)
      | (with_reducible refine LeO.ite ?_ ?_)
      | (with_reducible refine LeO.bind ?_ (fun _ => ?_))
      | exact ih0 _ _ _
      | exact ih1 _ _ _ _
      | exact ih2 _ _ _
      | exact ih3 _ _ _ _ _
      | exact ih4 _ _ _ _ _ _
      | exact ih5 _ _ _ _ _ _
      | exact spec_loBoth.mono _ _ _ _
      | exact spec_loEven.mono _ _
      | exact spec_loLaced.mono _ _ _ _
      | exact LeO.none _
      | refine LeO.ite ?_ ?_
      | refine LeO.bind ?_ (fun _ => ?_)
    · intro y0 y1 y2 y3 y4
      unfold spec_loDrawn.l3
      repeat' first
      | (with_reducible exact ih0 _ _ _)
      | (with_reducible exact ih1 _ _ _ _)
      | (with_reducible exact ih2 _ _ _)
      | (with_reducible exact ih3 _ _ _ _ _)
      | (with_reducible exact ih4 _ _ _ _ _ _)
      | (with_reducible exact ih5 _ _ _ _ _ _)
      | (with_reducible exact spec_loBoth.mono _ _ _ _)
      | (with_reducible exact spec_loEven.mono _ _)
      | (with_reducible exact spec_loLaced.mono _ _ _ _)
      | (with_reducible exact LeO.refl _)
      | (with_reducible exact LeO.none _)
      | (with_reducible refine LeO.ite ?_ ?_)
      | (with_reducible refine LeO.bind ?_ (fun _ => ?_))
      | exact ih0 _ _ _
      | exact ih1 _ _ _ _
      | exact ih2 _ _ _
      | exact ih3 _ _ _ _ _
      | exact ih4 _ _ _ _ _ _
      | exact ih5 _ _ _ _ _ _
      | exact spec_loBoth.mono _ _ _ _
      | exact spec_loEven.mono _ _
      | exact spec_loLaced.mono _ _ _ _
      | exact LeO.none _
      | refine LeO.ite ?_ ?_
      | refine LeO.bind ?_ (fun _ => ?_)
    · intro y0 y1 y2 y3 y4 y5
      unfold spec_loDrawn.j4
      repeat' first
      | (with_reducible exact ih0 _ _ _)
      | (with_reducible exact ih1 _ _ _ _)
      | (with_reducible exact ih2 _ _ _)
      | (with_reducible exact ih3 _ _ _ _ _)
      | (with_reducible exact ih4 _ _ _ _ _ _)
      | (with_reducible exact ih5 _ _ _ _ _ _)
      | (with_reducible exact spec_loBoth.mono _ _ _ _)
      | (with_reducible exact spec_loEven.mono _ _)
      | (with_reducible exact spec_loLaced.mono _ _ _ _)
      | (with_reducible exact LeO.refl _)
      | (with_reducible exact LeO.none _)
      | (with_reducible refine LeO.ite ?_ ?_)
      | (with_reducible refine LeO.bind ?_ (fun _ => ?_))
      | exact ih0 _ _ _
      | exact ih1 _ _ _ _
      | exact ih2 _ _ _
      | exact ih3 _ _ _ _ _
      | exact ih4 _ _ _ _ _ _
      | exact ih5 _ _ _ _ _ _
      | exact spec_loBoth.mono _ _ _ _
      | exact spec_loEven.mono _ _
      | exact spec_loLaced.mono _ _ _ _
      | exact LeO.none _
      | refine LeO.ite ?_ ?_
      | refine LeO.bind ?_ (fun _ => ?_)
    · intro y0 y1 y2 y3 y4 y5
      unfold spec_loDrawn.l4
      repeat' first
      | (with_reducible exact ih0 _ _ _)
      | (with_reducible exact ih1 _ _ _ _)
      | (with_reducible exact ih2 _ _ _)
      | (with_reducible exact ih3 _ _ _ _ _)
      | (with_reducible exact ih4 _ _ _ _ _ _)
      | (with_reducible exact ih5 _ _ _ _ _ _)
      | (with_reducible exact spec_loBoth.mono _ _ _ _)
      | (with_reducible exact spec_loEven.mono _ _)
      | (with_reducible exact spec_loLaced.mono _ _ _ _)
      | (with_reducible exact LeO.refl _)
      | (with_reducible exact LeO.none _)
      | (with_reducible refine LeO.ite ?_ ?_)
      | (with_reducible refine LeO.bind ?_ (fun _ => ?_))
      | exact ih0 _ _ _
      | exact ih1 _ _ _ _
      | exact ih2 _ _ _
      | exact ih3 _ _ _ _ _
      | exact ih4 _ _ _ _ _ _
      | exact ih5 _ _ _ _ _ _
      | exact spec_loBoth.mono _ _ _ _
      | exact spec_loEven.mono _ _
      | exact spec_loLaced.mono _ _ _ _
      | exact LeO.none _
      | refine LeO.ite ?_ ?_
      | refine LeO.bind ?_ (fun _ => ?_)
theorem spec_loDrawn.mono : ∀ a0 k, LeO (spec_loDrawn.f k a0) (spec_loDrawn.f (k + 1) a0) := by
  intro a0 k
  obtain ⟨ih0, ih1, ih2, ih3, ih4, ih5⟩ := spec_loDrawn.mono_l k
  unfold spec_loDrawn.f
  repeat' first
      | (with_reducible exact ih0 _ _ _)
      | (with_reducible exact ih1 _ _ _ _)
      | (with_reducible exact ih2 _ _ _)
      | (with_reducible exact ih3 _ _ _ _ _)
      | (with_reducible exact ih4 _ _ _ _ _ _)
      | (with_reducible exact ih5 _ _ _ _ _ _)
      | (with_reducible exact spec_loBoth.mono _ _ _ _)
      | (with_reducible exact spec_loEven.mono _ _)
      | (with_reducible exact spec_loLaced.mono _ _ _ _)
      | (with_reducible exact LeO.refl _)
      | (with_reducible exact LeO.none _)
      | (with_reducible refine LeO.ite ?_ ?_)
      | (with_reducible refine LeO.bind ?_ (fun _ => ?_))
      | exact ih0 _ _ _
      | exact ih1 _ _ _ _
      | exact ih2 _ _ _
      | exact ih3 _ _ _ _ _
      | exact ih4 _ _ _ _ _ _
      | exact ih5 _ _ _ _ _ _
      | exact spec_loBoth.mono _ _ _ _
      | exact spec_loEven.mono _ _
      | exact spec_loLaced.mono _ _ _ _
      | exact LeO.none _
      | refine LeO.ite ?_ ?_
      | refine LeO.bind ?_ (fun _ => ?_)
set_option maxHeartbeats 8000000 in
set_option maxRecDepth 100000 in
theorem spec_loDrawn.calls (k : Nat) (a0 : ByteArray) (r : Bool) (w : World) (h : spec_loDrawn.f k a0 = some r) :
    Calls Tryz.prog 69 #[.string a0] w fun e w' => e = .returned (.bool r) ∧ Drawn0 w w' := by
  have H : ((spec_loEven.f k a0).bind fun t167 => (if t167 = true then (spec_loDrawn.l0 k a0 (wrap64 ((a0.size : Int) / 2)) 0) else (some false))) = some r := h
  clear h
  replace H := Option.bind_eq_some_iff.mp H
  obtain ⟨t167, A20, H⟩ := H
  replace H : (if t167 = true then (spec_loDrawn.l0 k a0 (wrap64 ((a0.size : Int) / 2)) 0) else (some false)) = some r := H
  have A2 := Aside0.mk A20
  clear A20
  by_cases c3 : t167 = true
  · subst c3
    have H1 : (spec_loDrawn.l0 k a0 (wrap64 ((a0.size : Int) / 2)) 0) = some r := by rw [if_pos rfl] at H; exact H
    clear H
    have H := H1
    clear H1
    have H' := Aside0.mk H
    clear H
    go_enter Tryz.func69, Tryz.ntmps69
    go_wp2_with (first | (go_at_call 81; (with_reducible refine (spec_loEven.calls k a0 true _ A2.out).mono ?_); rintro e w' ⟨rfl, ⟨nd, rfl⟩⟩; (try first | exact ⟨rfl, _, World.drewN_drewN _ _ _⟩ | exact ⟨rfl, _, Eq.trans (World.drewN_drewN _ _ _) (congrArg (World.drewN _) (Nat.add_assoc _ _ _))⟩)))
    repeat (go_quiet (first | (go_at_call 81; (with_reducible refine (spec_loEven.calls k a0 true _ A2.out).mono ?_); rintro e w' ⟨rfl, ⟨nd, rfl⟩⟩; (try first | exact ⟨rfl, _, World.drewN_drewN _ _ _⟩ | exact ⟨rfl, _, Eq.trans (World.drewN_drewN _ _ _) (congrArg (World.drewN _) (Nat.add_assoc _ _ _))⟩))); try go_wp2_with (first | (go_at_call 81; (with_reducible refine (spec_loEven.calls k a0 true _ A2.out).mono ?_); rintro e w' ⟨rfl, ⟨nd, rfl⟩⟩; (try first | exact ⟨rfl, _, World.drewN_drewN _ _ _⟩ | exact ⟨rfl, _, Eq.trans (World.drewN_drewN _ _ _) (congrArg (World.drewN _) (Nat.add_assoc _ _ _))⟩))))
    go_loopg [4] k (fun kq v4 w' => ∃ (x4_1 : Int), v4 = .int .i64 x4_1 ∧ Aside0 (spec_loDrawn.l0 kq a0 (wrap64 ((a0.size : Int) / 2)) x4_1 = some r) ∧ Aside0 (kq ≤ k) ∧ Drawn0 w w')
    case atStart => exact ⟨(0), (by first | rfl | (simp; done) | (simp [*]; done)), H', ⟨Nat.le_refl _⟩, by repeat (first | exact Drawn0.refl _ | apply Drawn0.step)⟩
    case round =>
      clear H'
      try clear p2
      try clear c3
      obtain ⟨x4_1, rfl, HA, HK1, ⟨m1, rfl⟩⟩ := hrel
      cases gk with
      | zero => exact absurd HA.out (by simp [spec_loDrawn.l0])
      | succ k1 =>
        have H := HA.out
        clear HA
        simp only [spec_loDrawn.l0] at H
        by_cases c4 : x4_1 < (wrap64 ((a0.size : Int) / 2))
        · rw [if_pos c4] at H
          have c4b0 : decide (x4_1 < (wrap64 ((a0.size : Int) / 2))) = true := decide_eq_true c4
          clear c4
          have H' := Aside0.mk H
          clear H
          go_wp2
          repeat (go_quiet (fail); try go_wp2)
          go_loopg [5] k1 (fun kq v5 w' => ∃ (x5_2 : Int), v5 = .int .i64 x5_2 ∧ Aside0 (spec_loDrawn.l1 kq a0 (wrap64 ((a0.size : Int) / 2)) x4_1 x5_2 = some r) ∧ Aside0 (kq ≤ k1) ∧ Drawn0 w w')
          case atStart => exact ⟨(0), (by first | rfl | (simp; done) | (simp [*]; done)), H', ⟨Nat.le_refl _⟩, by repeat (first | exact Drawn0.refl _ | apply Drawn0.step)⟩
          case round =>
            clear H'
            try clear p2
            try clear c3
            try clear c4
            try clear c4b0
            try clear p2
            obtain ⟨x5_2, rfl, HA, HK2, ⟨m2, rfl⟩⟩ := hrel
            cases gk with
            | zero => exact absurd HA.out (by simp [spec_loDrawn.l1])
            | succ k2 =>
              have H := HA.out
              clear HA
              simp only [spec_loDrawn.l1] at H
              by_cases c5 : x5_2 < x4_1
              · rw [if_pos c5] at H
                have c5b0 : decide (x5_2 < x4_1) = true := decide_eq_true c5
                clear c5
                replace H := Option.bind_eq_some_iff.mp H
                obtain ⟨t168, A60, H⟩ := H
                replace H : (if t168 = true then (spec_loDrawn.l1 k2 a0 (wrap64 ((a0.size : Int) / 2)) x4_1 (wrap64 (x5_2 + 1))) else ((spec_loBoth.f k2 a0 ((wrap64 (97 + x4_1)) % 256) ((wrap64 (97 + x5_2)) % 256)).bind fun t169 => (if (Int.tmod t169 2) = 0 then (spec_loDrawn.l1 k2 a0 (wrap64 ((a0.size : Int) / 2)) x4_1 (wrap64 (x5_2 + 1))) else (some false)))) = some r := H
                have A6 := Aside0.mk A60
                clear A60
                by_cases c7 : t168 = true
                · subst c7
                  have H1 : (spec_loDrawn.l1 k2 a0 (wrap64 ((a0.size : Int) / 2)) x4_1 (wrap64 (x5_2 + 1))) = some r := by rw [if_pos rfl] at H; exact H
                  clear H
                  have H := H1
                  clear H1
                  have H' := Aside0.mk H
                  clear H
                  go_wp2_with (first | (go_at_call 96; (with_reducible refine (spec_loLaced.calls k2 a0 ((wrap64 (97 + x4_1)) % 256) ((wrap64 (97 + x5_2)) % 256) true _ A6.out).mono ?_); rintro e w' ⟨rfl, ⟨nd, rfl⟩⟩; (try first | exact ⟨rfl, _, World.drewN_drewN _ _ _⟩ | exact ⟨rfl, _, Eq.trans (World.drewN_drewN _ _ _) (congrArg (World.drewN _) (Nat.add_assoc _ _ _))⟩)))
                  repeat (go_quiet (first | (go_at_call 96; (with_reducible refine (spec_loLaced.calls k2 a0 ((wrap64 (97 + x4_1)) % 256) ((wrap64 (97 + x5_2)) % 256) true _ A6.out).mono ?_); rintro e w' ⟨rfl, ⟨nd, rfl⟩⟩; (try first | exact ⟨rfl, _, World.drewN_drewN _ _ _⟩ | exact ⟨rfl, _, Eq.trans (World.drewN_drewN _ _ _) (congrArg (World.drewN _) (Nat.add_assoc _ _ _))⟩))); try go_wp2_with (first | (go_at_call 96; (with_reducible refine (spec_loLaced.calls k2 a0 ((wrap64 (97 + x4_1)) % 256) ((wrap64 (97 + x5_2)) % 256) true _ A6.out).mono ?_); rintro e w' ⟨rfl, ⟨nd, rfl⟩⟩; (try first | exact ⟨rfl, _, World.drewN_drewN _ _ _⟩ | exact ⟨rfl, _, Eq.trans (World.drewN_drewN _ _ _) (congrArg (World.drewN _) (Nat.add_assoc _ _ _))⟩))))
                  go_roundg k2
                  case measure => have := HK1.out; have := HK2.out; omega
                  case rel => exact ⟨(wrap64 (x5_2 + 1)), (by first | rfl | (simp; done) | (simp [*]; done)), H', ⟨by have := HK1.out; have := HK2.out; omega⟩, by repeat (first | exact Drawn0.refl _ | apply Drawn0.step)⟩
                · replace c7 := Bool.eq_false_iff.mpr c7
                  subst c7
                  have H1 : ((spec_loBoth.f k2 a0 ((wrap64 (97 + x4_1)) % 256) ((wrap64 (97 + x5_2)) % 256)).bind fun t169 => (if (Int.tmod t169 2) = 0 then (spec_loDrawn.l1 k2 a0 (wrap64 ((a0.size : Int) / 2)) x4_1 (wrap64 (x5_2 + 1))) else (some false))) = some r := by rw [if_neg (show ¬ (false = true) by decide)] at H; exact H
                  clear H
                  have H := H1
                  clear H1
                  replace H := Option.bind_eq_some_iff.mp H
                  obtain ⟨t169, A80, H⟩ := H
                  replace H : (if (Int.tmod t169 2) = 0 then (spec_loDrawn.l1 k2 a0 (wrap64 ((a0.size : Int) / 2)) x4_1 (wrap64 (x5_2 + 1))) else (some false)) = some r := H
                  have A8 := Aside0.mk A80
                  clear A80
                  by_cases c9 : (Int.tmod t169 2) = 0
                  · rw [if_pos c9] at H
                    have c9b0 : ((Int.tmod t169 2) == 0) = true := beq_iff_eq.mpr c9
                    have c9b1 : ((Int.tmod t169 2) != 0) = false := bne_eq_false_iff_eq.mpr c9
                    clear c9
                    have H' := Aside0.mk H
                    clear H
                    go_wp2_with (first | (go_at_call 96; (with_reducible refine (spec_loLaced.calls k2 a0 ((wrap64 (97 + x4_1)) % 256) ((wrap64 (97 + x5_2)) % 256) false _ A6.out).mono ?_); rintro e w' ⟨rfl, ⟨nd, rfl⟩⟩; (try first | exact ⟨rfl, _, World.drewN_drewN _ _ _⟩ | exact ⟨rfl, _, Eq.trans (World.drewN_drewN _ _ _) (congrArg (World.drewN _) (Nat.add_assoc _ _ _))⟩)) | (go_at_call 114; (with_reducible refine (spec_loBoth.calls k2 a0 ((wrap64 (97 + x4_1)) % 256) ((wrap64 (97 + x5_2)) % 256) t169 _ A8.out).mono ?_); rintro e w' ⟨rfl, ⟨nd, rfl⟩⟩; (try first | exact ⟨rfl, _, World.drewN_drewN _ _ _⟩ | exact ⟨rfl, _, Eq.trans (World.drewN_drewN _ _ _) (congrArg (World.drewN _) (Nat.add_assoc _ _ _))⟩)))
                    repeat (go_quiet (first | (go_at_call 96; (with_reducible refine (spec_loLaced.calls k2 a0 ((wrap64 (97 + x4_1)) % 256) ((wrap64 (97 + x5_2)) % 256) false _ A6.out).mono ?_); rintro e w' ⟨rfl, ⟨nd, rfl⟩⟩; (try first | exact ⟨rfl, _, World.drewN_drewN _ _ _⟩ | exact ⟨rfl, _, Eq.trans (World.drewN_drewN _ _ _) (congrArg (World.drewN _) (Nat.add_assoc _ _ _))⟩)) | (go_at_call 114; (with_reducible refine (spec_loBoth.calls k2 a0 ((wrap64 (97 + x4_1)) % 256) ((wrap64 (97 + x5_2)) % 256) t169 _ A8.out).mono ?_); rintro e w' ⟨rfl, ⟨nd, rfl⟩⟩; (try first | exact ⟨rfl, _, World.drewN_drewN _ _ _⟩ | exact ⟨rfl, _, Eq.trans (World.drewN_drewN _ _ _) (congrArg (World.drewN _) (Nat.add_assoc _ _ _))⟩))); try go_wp2_with (first | (go_at_call 96; (with_reducible refine (spec_loLaced.calls k2 a0 ((wrap64 (97 + x4_1)) % 256) ((wrap64 (97 + x5_2)) % 256) false _ A6.out).mono ?_); rintro e w' ⟨rfl, ⟨nd, rfl⟩⟩; (try first | exact ⟨rfl, _, World.drewN_drewN _ _ _⟩ | exact ⟨rfl, _, Eq.trans (World.drewN_drewN _ _ _) (congrArg (World.drewN _) (Nat.add_assoc _ _ _))⟩)) | (go_at_call 114; (with_reducible refine (spec_loBoth.calls k2 a0 ((wrap64 (97 + x4_1)) % 256) ((wrap64 (97 + x5_2)) % 256) t169 _ A8.out).mono ?_); rintro e w' ⟨rfl, ⟨nd, rfl⟩⟩; (try first | exact ⟨rfl, _, World.drewN_drewN _ _ _⟩ | exact ⟨rfl, _, Eq.trans (World.drewN_drewN _ _ _) (congrArg (World.drewN _) (Nat.add_assoc _ _ _))⟩))))
                    go_roundg k2
                    case measure => have := HK1.out; have := HK2.out; omega
                    case rel => exact ⟨(wrap64 (x5_2 + 1)), (by first | rfl | (simp; done) | (simp [*]; done)), H', ⟨by have := HK1.out; have := HK2.out; omega⟩, by repeat (first | exact Drawn0.refl _ | apply Drawn0.step)⟩
                  · rw [if_neg c9] at H
                    have c9b0 : ((Int.tmod t169 2) == 0) = false := beq_eq_false_iff_ne.mpr c9
                    have c9b1 : ((Int.tmod t169 2) != 0) = true := bne_iff_ne.mpr c9
                    obtain rfl := Option.some.inj H
                    go_wp2_with (first | (go_at_call 96; (with_reducible refine (spec_loLaced.calls k2 a0 ((wrap64 (97 + x4_1)) % 256) ((wrap64 (97 + x5_2)) % 256) false _ A6.out).mono ?_); rintro e w' ⟨rfl, ⟨nd, rfl⟩⟩; (try first | exact ⟨rfl, _, World.drewN_drewN _ _ _⟩ | exact ⟨rfl, _, Eq.trans (World.drewN_drewN _ _ _) (congrArg (World.drewN _) (Nat.add_assoc _ _ _))⟩)) | (go_at_call 114; (with_reducible refine (spec_loBoth.calls k2 a0 ((wrap64 (97 + x4_1)) % 256) ((wrap64 (97 + x5_2)) % 256) t169 _ A8.out).mono ?_); rintro e w' ⟨rfl, ⟨nd, rfl⟩⟩; (try first | exact ⟨rfl, _, World.drewN_drewN _ _ _⟩ | exact ⟨rfl, _, Eq.trans (World.drewN_drewN _ _ _) (congrArg (World.drewN _) (Nat.add_assoc _ _ _))⟩)))
                    repeat (go_quiet (first | (go_at_call 96; (with_reducible refine (spec_loLaced.calls k2 a0 ((wrap64 (97 + x4_1)) % 256) ((wrap64 (97 + x5_2)) % 256) false _ A6.out).mono ?_); rintro e w' ⟨rfl, ⟨nd, rfl⟩⟩; (try first | exact ⟨rfl, _, World.drewN_drewN _ _ _⟩ | exact ⟨rfl, _, Eq.trans (World.drewN_drewN _ _ _) (congrArg (World.drewN _) (Nat.add_assoc _ _ _))⟩)) | (go_at_call 114; (with_reducible refine (spec_loBoth.calls k2 a0 ((wrap64 (97 + x4_1)) % 256) ((wrap64 (97 + x5_2)) % 256) t169 _ A8.out).mono ?_); rintro e w' ⟨rfl, ⟨nd, rfl⟩⟩; (try first | exact ⟨rfl, _, World.drewN_drewN _ _ _⟩ | exact ⟨rfl, _, Eq.trans (World.drewN_drewN _ _ _) (congrArg (World.drewN _) (Nat.add_assoc _ _ _))⟩))); try go_wp2_with (first | (go_at_call 96; (with_reducible refine (spec_loLaced.calls k2 a0 ((wrap64 (97 + x4_1)) % 256) ((wrap64 (97 + x5_2)) % 256) false _ A6.out).mono ?_); rintro e w' ⟨rfl, ⟨nd, rfl⟩⟩; (try first | exact ⟨rfl, _, World.drewN_drewN _ _ _⟩ | exact ⟨rfl, _, Eq.trans (World.drewN_drewN _ _ _) (congrArg (World.drewN _) (Nat.add_assoc _ _ _))⟩)) | (go_at_call 114; (with_reducible refine (spec_loBoth.calls k2 a0 ((wrap64 (97 + x4_1)) % 256) ((wrap64 (97 + x5_2)) % 256) t169 _ A8.out).mono ?_); rintro e w' ⟨rfl, ⟨nd, rfl⟩⟩; (try first | exact ⟨rfl, _, World.drewN_drewN _ _ _⟩ | exact ⟨rfl, _, Eq.trans (World.drewN_drewN _ _ _) (congrArg (World.drewN _) (Nat.add_assoc _ _ _))⟩))))
                    go_ret
                    exact ⟨by first | rfl | (simp; done) | (simp [*]; done), by repeat (first | exact Drawn0.refl _ | apply Drawn0.step)⟩
              · rw [if_neg c5] at H
                have c5b0 : decide (x5_2 < x4_1) = false := decide_eq_false c5
                clear c5
                have H' := Aside0.mk H
                clear H
                go_wp2
                repeat (go_quiet (fail); try go_wp2)
                go_roundg k2
                case measure => have := HK1.out; have := HK2.out; omega
                case rel => exact ⟨(wrap64 (x4_1 + 1)), (by first | rfl | (simp; done) | (simp [*]; done)), H', ⟨by have := HK1.out; have := HK2.out; omega⟩, by repeat (first | exact Drawn0.refl _ | apply Drawn0.step)⟩
        · rw [if_neg c4] at H
          have c4b0 : decide (x4_1 < (wrap64 ((a0.size : Int) / 2))) = false := decide_eq_false c4
          clear c4
          have H' := Aside0.mk H
          clear H
          go_wp2
          repeat (go_quiet (fail); try go_wp2)
          go_loopg [8] k1 (fun kq v8 w' => ∃ (x8_2 : Int), v8 = .int .i64 x8_2 ∧ Aside0 (spec_loDrawn.l2 kq a0 (wrap64 ((a0.size : Int) / 2)) x8_2 = some r) ∧ Aside0 (kq ≤ k1) ∧ Drawn0 w w')
          case atStart => exact ⟨(0), (by first | rfl | (simp; done) | (simp [*]; done)), H', ⟨Nat.le_refl _⟩, by repeat (first | exact Drawn0.refl _ | apply Drawn0.step)⟩
          case round =>
            clear H'
            try clear p2
            try clear c3
            try clear c4
            try clear c4b0
            try clear c5
            try clear c5b0
            try clear c6
            try clear p6
            try clear c7
            try clear c9
            try clear c9b0
            try clear c9b1
            try clear p2
            obtain ⟨x8_2, rfl, HA, HK2, ⟨m2, rfl⟩⟩ := hrel
            cases gk with
            | zero => exact absurd HA.out (by simp [spec_loDrawn.l2])
            | succ k2 =>
              have H := HA.out
              clear HA
              simp only [spec_loDrawn.l2] at H
              obtain ⟨ji10, hji10⟩ : ∃ j_ : Int, (wrap64 ((a0.size : Int) / 2)) = j_ := ⟨_, rfl⟩
              replace H : (if 0 ≤ (ji10) then (if x8_2 < (shl .i64 1 (ji10)) then (spec_loDrawn.l3 k2 a0 (ji10) x8_2 true 0) else (some false)) else (none)) = some r := by first | (rw [hji10] at H; exact H) | (simp only [hji10] at H ⊢; exact H)
              (try rw [hji10] at c4b0)
              have hji10w : (IntKind.i64.wrap ((a0.size : Int) / 2)) = ji10 := (i64_w _).trans hji10
              by_cases c11 : 0 ≤ (ji10)
              · rw [if_pos c11] at H
                have c11b0 := eq_true c11
                have c11b1 : decide (0 ≤ (ji10)) = true := decide_eq_true c11
                clear c11
                obtain ⟨ji12, hji12⟩ : ∃ j_ : Int, (shl .i64 1 (ji10)) = j_ := ⟨_, rfl⟩
                replace H : (if x8_2 < (ji12) then (spec_loDrawn.l3 k2 a0 (ji10) x8_2 true 0) else (some false)) = some r := by first | (rw [hji12] at H; exact H) | (simp only [hji12] at H ⊢; exact H)
                have hji12_ : (IntKind.i64.wrap (1 * 2 ^ min (ji10).toNat 64)) = ji12 := hji12
                have hji12z : (ji10) ≤ 64 → (IntKind.i64.wrap (1 * 2 ^ (ji10).toNat)) = ji12 := shl_small hji12
                have hji12u : (IntKind.i64.wrap (2 ^ min (ji10).toNat 64)) = ji12 := by have h_ := hji12_; rw [Int.one_mul] at h_; exact h_
                have hji12v : (ji10) ≤ 64 → (IntKind.i64.wrap (2 ^ (ji10).toNat)) = ji12 := fun hle_ => by have h_ := hji12z hle_; rw [Int.one_mul] at h_; exact h_
                have hji12y : (wrap64 (1 * 2 ^ min (ji10).toNat 64)) = ji12 := (i64_w _).symm.trans hji12_
                have hji12x : (ji10) ≤ 64 → (wrap64 (1 * 2 ^ (ji10).toNat)) = ji12 := fun h_ => (i64_w _).symm.trans (hji12z h_)
                by_cases c13 : x8_2 < (ji12)
                · rw [if_pos c13] at H
                  have c13b0 : decide (x8_2 < (ji12)) = true := decide_eq_true c13
                  clear c13
                  have H' := Aside0.mk H
                  clear H
                  go_wp2
                  repeat (go_quiet (fail); try go_wp2)
                  go_loopg [9, 10] k2 (fun kq v9 v10 w' => ∃ (x9_3 : Bool) (x10_3 : Int), v9 = .bool x9_3 ∧ v10 = .int .i64 x10_3 ∧ Aside0 (spec_loDrawn.l3 kq a0 (ji10) x8_2 x9_3 x10_3 = some r) ∧ Aside0 (kq ≤ k2) ∧ Drawn0 w w')
                  case atStart => exact ⟨(true), (0), (by first | rfl | (simp; done) | (simp [*]; done)), (by first | rfl | (simp; done) | (simp [*]; done)), H', ⟨Nat.le_refl _⟩, by repeat (first | exact Drawn0.refl _ | apply Drawn0.step)⟩
                  case round =>
                    clear H'
                    try clear c1
                    try clear p2
                    try clear c3
                    try clear c4
                    try clear c4b0
                    try clear c5
                    try clear c5b0
                    try clear c6
                    try clear p6
                    try clear c7
                    try clear c9
                    try clear c9b0
                    try clear c9b1
                    try clear c11
                    try clear c11b0
                    try clear c11b1
                    try clear c13
                    try clear c13b0
                    try clear p2
                    try clear p6
                    obtain ⟨x9_3, x10_3, rfl, rfl, HA, HK3, ⟨m3, rfl⟩⟩ := hrel
                    cases gk with
                    | zero => exact absurd HA.out (by simp [spec_loDrawn.l3])
                    | succ k3 =>
                      have H := HA.out
                      clear HA
                      simp only [spec_loDrawn.l3] at H
                      have HC14 := Aside0.mk H
                      clear H
                      go_upto_region 18 with (fail)
                      repeat (go_quiet (fail); go_upto_region 18 with (fail))
                      go_cut [60] (fun v60 wc => ∃ (kq : Nat) (x60_13 : Bool), v60 = .bool x60_13 ∧ Aside0 (spec_loDrawn.j4 kq a0 (ji10) x8_2 x9_3 x10_3 x60_13 = some r) ∧ Aside0 (kq ≤ k3) ∧ Drawn0 w wc)
                      case first =>
                        have H := HC14.out
                        clear HC14
                        by_cases c15 : x10_3 < (ji10)
                        · rw [if_pos c15] at H
                          have c15b0 : decide (x10_3 < (ji10)) = true := decide_eq_true c15
                          clear c15
                          (first | rw [c15b0] | (simp only [i64_w, i32_w]; rw [c15b0]) | skip)
                          have H' := Aside0.mk H
                          clear H
                          go_wp2
                          repeat (go_quiet (fail); try go_wp2)
                          go_meet
                          case rel => exact ⟨_, (x9_3), (by first | rfl | (simp; done) | (simp [*]; done)), (by first | exact H' | (rw [hji10]; exact H') | (rw [hji12]; exact H')), ⟨by have := HK1.out; have := HK2.out; have := HK3.out; first | omega | exact Nat.le_refl _⟩, by repeat (first | exact Drawn0.refl _ | apply Drawn0.step)⟩
                        · rw [if_neg c15] at H
                          have c15b0 : decide (x10_3 < (ji10)) = false := decide_eq_false c15
                          clear c15
                          (first | rw [c15b0] | (simp only [i64_w, i32_w]; rw [c15b0]) | skip)
                          have H' := Aside0.mk H
                          clear H
                          go_wp2
                          repeat (go_quiet (fail); try go_wp2)
                          go_meet
                          case rel => exact ⟨_, (false), (by first | rfl | (simp; done) | (simp [*]; done)), (by first | exact H' | (rw [hji10]; exact H') | (rw [hji12]; exact H')), ⟨by have := HK1.out; have := HK2.out; have := HK3.out; first | omega | exact Nat.le_refl _⟩, by repeat (first | exact Drawn0.refl _ | apply Drawn0.step)⟩
                      case rest =>
                        clear HC14
                        try clear c1
                        try clear p2
                        try clear c3
                        try clear c4
                        try clear c4b0
                        try clear c5
                        try clear c5b0
                        try clear c6
                        try clear p6
                        try clear c7
                        try clear c9
                        try clear c9b0
                        try clear c9b1
                        try clear c11
                        try clear c11b0
                        try clear c11b1
                        try clear c13
                        try clear c13b0
                        try clear c15
                        try clear c15b0
                        try clear p2
                        try clear p6
                        obtain ⟨kq, x60_13, rfl, HA, HJ13, ⟨mc13, rfl⟩⟩ := hcut
                        cases kq with
                        | zero => exact absurd HA.out (by simp [spec_loDrawn.j4])
                        | succ kj13 =>
                          have H := HA.out
                          clear HA
                          simp only [spec_loDrawn.j4] at H
                          by_cases c16 : x60_13 = true
                          · subst c16
                            have H1 : (spec_loDrawn.l4 kj13 a0 (ji10) x8_2 x9_3 x10_3 0) = some r := by rw [if_pos rfl] at H; exact H
                            clear H
                            have H := H1
                            clear H1
                            have H' := Aside0.mk H
                            clear H
                            go_wp2
                            repeat (go_quiet (fail); try go_wp2)
                            go_loopg [9, 11] kj13 (fun kq v9 v11 w' => ∃ (x9_5 : Bool) (x11_5 : Int), v9 = .bool x9_5 ∧ v11 = .int .i64 x11_5 ∧ Aside0 (spec_loDrawn.l4 kq a0 (ji10) x8_2 x9_5 x10_3 x11_5 = some r) ∧ Aside0 (kq ≤ kj13) ∧ Drawn0 w w')
                            case atStart => exact ⟨(x9_3), (0), (by first | rfl | (simp; done) | (simp [*]; done)), (by first | rfl | (simp; done) | (simp [*]; done)), H', ⟨Nat.le_refl _⟩, by repeat (first | exact Drawn0.refl _ | apply Drawn0.step)⟩
                            case round =>
                              clear H'
                              try clear c1
                              try clear p2
                              try clear c3
                              try clear c4
                              try clear c4b0
                              try clear c5
                              try clear c5b0
                              try clear c6
                              try clear p6
                              try clear c7
                              try clear c9
                              try clear c9b0
                              try clear c9b1
                              try clear c11
                              try clear c11b0
                              try clear c11b1
                              try clear c13
                              try clear c13b0
                              try clear c15
                              try clear c15b0
                              try clear c16
                              try clear p2
                              try clear p6
                              obtain ⟨x9_5, x11_5, rfl, rfl, HA, HK5, ⟨m5, rfl⟩⟩ := hrel
                              cases gk with
                              | zero => exact absurd HA.out (by simp [spec_loDrawn.l4])
                              | succ k5 =>
                                have H := HA.out
                                clear HA
                                simp only [spec_loDrawn.l4] at H
                                by_cases c17 : x11_5 < x10_3
                                · rw [if_pos c17] at H
                                  have c17b0 : decide (x11_5 < x10_3) = true := decide_eq_true c17
                                  clear c17
                                  replace H := Option.bind_eq_some_iff.mp H
                                  obtain ⟨t170, A180, H⟩ := H
                                  replace H : (if t170 = true then (if 0 ≤ x10_3 then (if 0 ≤ x11_5 then ((spec_loBoth.f k5 a0 ((wrap64 (97 + x10_3)) % 256) ((wrap64 (97 + x11_5)) % 256)).bind fun t171 => (if (((Go.bits .and .i64 (shr .i64 x8_2 x10_3) 1) != (Go.bits .and .i64 (shr .i64 x8_2 x11_5) 1)) != ((Int.tmod t171 2) == 0)) = true then (spec_loDrawn.l4 k5 a0 (ji10) x8_2 false x10_3 (wrap64 (x11_5 + 1))) else (spec_loDrawn.l4 k5 a0 (ji10) x8_2 x9_5 x10_3 (wrap64 (x11_5 + 1))))) else (none)) else (none)) else (spec_loDrawn.l4 k5 a0 (ji10) x8_2 x9_5 x10_3 (wrap64 (x11_5 + 1)))) = some r := H
                                  have A18 := Aside0.mk A180
                                  clear A180
                                  by_cases c19 : t170 = true
                                  · subst c19
                                    have H1 : (if 0 ≤ x10_3 then (if 0 ≤ x11_5 then ((spec_loBoth.f k5 a0 ((wrap64 (97 + x10_3)) % 256) ((wrap64 (97 + x11_5)) % 256)).bind fun t171 => (if (((Go.bits .and .i64 (shr .i64 x8_2 x10_3) 1) != (Go.bits .and .i64 (shr .i64 x8_2 x11_5) 1)) != ((Int.tmod t171 2) == 0)) = true then (spec_loDrawn.l4 k5 a0 (ji10) x8_2 false x10_3 (wrap64 (x11_5 + 1))) else (spec_loDrawn.l4 k5 a0 (ji10) x8_2 x9_5 x10_3 (wrap64 (x11_5 + 1))))) else (none)) else (none)) = some r := by rw [if_pos rfl] at H; exact H
                                    clear H
                                    have H := H1
                                    clear H1
                                    by_cases c20 : 0 ≤ x10_3
                                    · rw [if_pos c20] at H
                                      have c20b0 := eq_true c20
                                      have c20b1 : decide (0 ≤ x10_3) = true := decide_eq_true c20
                                      clear c20
                                      obtain ⟨ji21, hji21⟩ : ∃ j_ : Int, (shr .i64 x8_2 x10_3) = j_ := ⟨_, rfl⟩
                                      replace H : (if 0 ≤ x11_5 then ((spec_loBoth.f k5 a0 ((wrap64 (97 + x10_3)) % 256) ((wrap64 (97 + x11_5)) % 256)).bind fun t171 => (if (((Go.bits .and .i64 (ji21) 1) != (Go.bits .and .i64 (shr .i64 x8_2 x11_5) 1)) != ((Int.tmod t171 2) == 0)) = true then (spec_loDrawn.l4 k5 a0 (ji10) x8_2 false x10_3 (wrap64 (x11_5 + 1))) else (spec_loDrawn.l4 k5 a0 (ji10) x8_2 x9_5 x10_3 (wrap64 (x11_5 + 1))))) else (none)) = some r := by first | (rw [hji21] at H; exact H) | (simp only [hji21] at H ⊢; exact H)
                                      (try rw [hji21] at A18)
                                      have hji21_ : (x8_2 / 2 ^ min x10_3.toNat 64) = ji21 := hji21
                                      have hji21z : x10_3 ≤ 64 → (x8_2 / 2 ^ x10_3.toNat) = ji21 := shr_small hji21
                                      by_cases c22 : 0 ≤ x11_5
                                      · rw [if_pos c22] at H
                                        have c22b0 := eq_true c22
                                        have c22b1 : decide (0 ≤ x11_5) = true := decide_eq_true c22
                                        clear c22
                                        obtain ⟨ji23, hji23⟩ : ∃ j_ : Int, (shr .i64 x8_2 x11_5) = j_ := ⟨_, rfl⟩
                                        replace H : ((spec_loBoth.f k5 a0 ((wrap64 (97 + x10_3)) % 256) ((wrap64 (97 + x11_5)) % 256)).bind fun t171 => (if (((Go.bits .and .i64 (ji21) 1) != (Go.bits .and .i64 (ji23) 1)) != ((Int.tmod t171 2) == 0)) = true then (spec_loDrawn.l4 k5 a0 (ji10) x8_2 false x10_3 (wrap64 (x11_5 + 1))) else (spec_loDrawn.l4 k5 a0 (ji10) x8_2 x9_5 x10_3 (wrap64 (x11_5 + 1))))) = some r := by first | (rw [hji23] at H; exact H) | (simp only [hji23] at H ⊢; exact H)
                                        (try rw [hji23] at A18)
                                        have hji23_ : (x8_2 / 2 ^ min x11_5.toNat 64) = ji23 := hji23
                                        have hji23z : x11_5 ≤ 64 → (x8_2 / 2 ^ x11_5.toNat) = ji23 := shr_small hji23
                                        replace H := Option.bind_eq_some_iff.mp H
                                        obtain ⟨t171, A240, H⟩ := H
                                        replace H : (if (((Go.bits .and .i64 (ji21) 1) != (Go.bits .and .i64 (ji23) 1)) != ((Int.tmod t171 2) == 0)) = true then (spec_loDrawn.l4 k5 a0 (ji10) x8_2 false x10_3 (wrap64 (x11_5 + 1))) else (spec_loDrawn.l4 k5 a0 (ji10) x8_2 x9_5 x10_3 (wrap64 (x11_5 + 1)))) = some r := H
                                        have A24 := Aside0.mk A240
                                        clear A240
                                        by_cases c25 : (((Go.bits .and .i64 (ji21) 1) != (Go.bits .and .i64 (ji23) 1)) != ((Int.tmod t171 2) == 0)) = true
                                        · rw [if_pos c25] at H
                                          have c25b0 : (((Go.bits .and .i64 (ji21) 1) != (Go.bits .and .i64 (ji23) 1)) != ((Int.tmod t171 2) == 0)) = true := c25
                                          (try (have c25b1 : decide (((Go.bits .and .i64 (ji21) 1) != (Go.bits .and .i64 (ji23) 1)) = ((Int.tmod t171 2) == 0)) = false := by simpa using c25))
                                          (try (have c25b2 : (((Go.bits .and .i64 (ji21) 1) != (Go.bits .and .i64 (ji23) 1)) == ((Int.tmod t171 2) == 0)) = false := by simpa using c25))
                                          (try (have c25b3 : ¬ (((Go.bits .and .i64 (ji21) 1) != (Go.bits .and .i64 (ji23) 1)) = ((Int.tmod t171 2) == 0)) := by simpa using c25))
                                          clear c25
                                          have H' := Aside0.mk H
                                          clear H
                                          go_wp2_with (first | (go_at_call 96; (with_reducible refine (spec_loLaced.calls k5 a0 ((wrap64 (97 + x10_3)) % 256) ((wrap64 (97 + x11_5)) % 256) true _ A18.out).mono ?_); rintro e w' ⟨rfl, ⟨nd, rfl⟩⟩; (try first | exact ⟨rfl, _, World.drewN_drewN _ _ _⟩ | exact ⟨rfl, _, Eq.trans (World.drewN_drewN _ _ _) (congrArg (World.drewN _) (Nat.add_assoc _ _ _))⟩)) | (go_at_call 114; (with_reducible refine (spec_loBoth.calls k5 a0 ((wrap64 (97 + x10_3)) % 256) ((wrap64 (97 + x11_5)) % 256) t171 _ A24.out).mono ?_); rintro e w' ⟨rfl, ⟨nd, rfl⟩⟩; (try first | exact ⟨rfl, _, World.drewN_drewN _ _ _⟩ | exact ⟨rfl, _, Eq.trans (World.drewN_drewN _ _ _) (congrArg (World.drewN _) (Nat.add_assoc _ _ _))⟩)))
                                          repeat (go_quiet (first | (go_at_call 96; (with_reducible refine (spec_loLaced.calls k5 a0 ((wrap64 (97 + x10_3)) % 256) ((wrap64 (97 + x11_5)) % 256) true _ A18.out).mono ?_); rintro e w' ⟨rfl, ⟨nd, rfl⟩⟩; (try first | exact ⟨rfl, _, World.drewN_drewN _ _ _⟩ | exact ⟨rfl, _, Eq.trans (World.drewN_drewN _ _ _) (congrArg (World.drewN _) (Nat.add_assoc _ _ _))⟩)) | (go_at_call 114; (with_reducible refine (spec_loBoth.calls k5 a0 ((wrap64 (97 + x10_3)) % 256) ((wrap64 (97 + x11_5)) % 256) t171 _ A24.out).mono ?_); rintro e w' ⟨rfl, ⟨nd, rfl⟩⟩; (try first | exact ⟨rfl, _, World.drewN_drewN _ _ _⟩ | exact ⟨rfl, _, Eq.trans (World.drewN_drewN _ _ _) (congrArg (World.drewN _) (Nat.add_assoc _ _ _))⟩))); try go_wp2_with (first | (go_at_call 96; (with_reducible refine (spec_loLaced.calls k5 a0 ((wrap64 (97 + x10_3)) % 256) ((wrap64 (97 + x11_5)) % 256) true _ A18.out).mono ?_); rintro e w' ⟨rfl, ⟨nd, rfl⟩⟩; (try first | exact ⟨rfl, _, World.drewN_drewN _ _ _⟩ | exact ⟨rfl, _, Eq.trans (World.drewN_drewN _ _ _) (congrArg (World.drewN _) (Nat.add_assoc _ _ _))⟩)) | (go_at_call 114; (with_reducible refine (spec_loBoth.calls k5 a0 ((wrap64 (97 + x10_3)) % 256) ((wrap64 (97 + x11_5)) % 256) t171 _ A24.out).mono ?_); rintro e w' ⟨rfl, ⟨nd, rfl⟩⟩; (try first | exact ⟨rfl, _, World.drewN_drewN _ _ _⟩ | exact ⟨rfl, _, Eq.trans (World.drewN_drewN _ _ _) (congrArg (World.drewN _) (Nat.add_assoc _ _ _))⟩))))
                                          go_roundg k5
                                          case measure => have := HK1.out; have := HK2.out; have := HK3.out; have := HJ13.out; have := HK5.out; omega
                                          case rel => exact ⟨(false), (wrap64 (x11_5 + 1)), (by first | rfl | (simp; done) | (simp [*]; done)), (by first | rfl | (simp; done) | (simp [*]; done)), (by first | exact H' | (rw [hji10]; exact H') | (rw [hji12]; exact H') | (rw [hji21]; exact H') | (rw [hji23]; exact H')), ⟨by have := HK1.out; have := HK2.out; have := HK3.out; have := HJ13.out; have := HK5.out; omega⟩, by repeat (first | exact Drawn0.refl _ | apply Drawn0.step)⟩
                                        · rw [if_neg c25] at H
                                          have c25b0 : (((Go.bits .and .i64 (ji21) 1) != (Go.bits .and .i64 (ji23) 1)) != ((Int.tmod t171 2) == 0)) = false := by simpa using c25
                                          (try (have c25b1 : decide (((Go.bits .and .i64 (ji21) 1) != (Go.bits .and .i64 (ji23) 1)) = ((Int.tmod t171 2) == 0)) = true := by simpa using c25))
                                          (try (have c25b2 : (((Go.bits .and .i64 (ji21) 1) != (Go.bits .and .i64 (ji23) 1)) == ((Int.tmod t171 2) == 0)) = true := by simpa using c25))
                                          clear c25
                                          have H' := Aside0.mk H
                                          clear H
                                          go_wp2_with (first | (go_at_call 96; (with_reducible refine (spec_loLaced.calls k5 a0 ((wrap64 (97 + x10_3)) % 256) ((wrap64 (97 + x11_5)) % 256) true _ A18.out).mono ?_); rintro e w' ⟨rfl, ⟨nd, rfl⟩⟩; (try first | exact ⟨rfl, _, World.drewN_drewN _ _ _⟩ | exact ⟨rfl, _, Eq.trans (World.drewN_drewN _ _ _) (congrArg (World.drewN _) (Nat.add_assoc _ _ _))⟩)) | (go_at_call 114; (with_reducible refine (spec_loBoth.calls k5 a0 ((wrap64 (97 + x10_3)) % 256) ((wrap64 (97 + x11_5)) % 256) t171 _ A24.out).mono ?_); rintro e w' ⟨rfl, ⟨nd, rfl⟩⟩; (try first | exact ⟨rfl, _, World.drewN_drewN _ _ _⟩ | exact ⟨rfl, _, Eq.trans (World.drewN_drewN _ _ _) (congrArg (World.drewN _) (Nat.add_assoc _ _ _))⟩)))
                                          repeat (go_quiet (first | (go_at_call 96; (with_reducible refine (spec_loLaced.calls k5 a0 ((wrap64 (97 + x10_3)) % 256) ((wrap64 (97 + x11_5)) % 256) true _ A18.out).mono ?_); rintro e w' ⟨rfl, ⟨nd, rfl⟩⟩; (try first | exact ⟨rfl, _, World.drewN_drewN _ _ _⟩ | exact ⟨rfl, _, Eq.trans (World.drewN_drewN _ _ _) (congrArg (World.drewN _) (Nat.add_assoc _ _ _))⟩)) | (go_at_call 114; (with_reducible refine (spec_loBoth.calls k5 a0 ((wrap64 (97 + x10_3)) % 256) ((wrap64 (97 + x11_5)) % 256) t171 _ A24.out).mono ?_); rintro e w' ⟨rfl, ⟨nd, rfl⟩⟩; (try first | exact ⟨rfl, _, World.drewN_drewN _ _ _⟩ | exact ⟨rfl, _, Eq.trans (World.drewN_drewN _ _ _) (congrArg (World.drewN _) (Nat.add_assoc _ _ _))⟩))); try go_wp2_with (first | (go_at_call 96; (with_reducible refine (spec_loLaced.calls k5 a0 ((wrap64 (97 + x10_3)) % 256) ((wrap64 (97 + x11_5)) % 256) true _ A18.out).mono ?_); rintro e w' ⟨rfl, ⟨nd, rfl⟩⟩; (try first | exact ⟨rfl, _, World.drewN_drewN _ _ _⟩ | exact ⟨rfl, _, Eq.trans (World.drewN_drewN _ _ _) (congrArg (World.drewN _) (Nat.add_assoc _ _ _))⟩)) | (go_at_call 114; (with_reducible refine (spec_loBoth.calls k5 a0 ((wrap64 (97 + x10_3)) % 256) ((wrap64 (97 + x11_5)) % 256) t171 _ A24.out).mono ?_); rintro e w' ⟨rfl, ⟨nd, rfl⟩⟩; (try first | exact ⟨rfl, _, World.drewN_drewN _ _ _⟩ | exact ⟨rfl, _, Eq.trans (World.drewN_drewN _ _ _) (congrArg (World.drewN _) (Nat.add_assoc _ _ _))⟩))))
                                          go_roundg k5
                                          case measure => have := HK1.out; have := HK2.out; have := HK3.out; have := HJ13.out; have := HK5.out; omega
                                          case rel => exact ⟨(x9_5), (wrap64 (x11_5 + 1)), (by first | rfl | (simp; done) | (simp [*]; done)), (by first | rfl | (simp; done) | (simp [*]; done)), (by first | exact H' | (rw [hji10]; exact H') | (rw [hji12]; exact H') | (rw [hji21]; exact H') | (rw [hji23]; exact H')), ⟨by have := HK1.out; have := HK2.out; have := HK3.out; have := HJ13.out; have := HK5.out; omega⟩, by repeat (first | exact Drawn0.refl _ | apply Drawn0.step)⟩
                                      · rw [if_neg c22] at H
                                        exact absurd H (by simp)
                                    · rw [if_neg c20] at H
                                      exact absurd H (by simp)
                                  · replace c19 := Bool.eq_false_iff.mpr c19
                                    subst c19
                                    have H1 : (spec_loDrawn.l4 k5 a0 (ji10) x8_2 x9_5 x10_3 (wrap64 (x11_5 + 1))) = some r := by rw [if_neg (show ¬ (false = true) by decide)] at H; exact H
                                    clear H
                                    have H := H1
                                    clear H1
                                    have H' := Aside0.mk H
                                    clear H
                                    go_wp2_with (first | (go_at_call 96; (with_reducible refine (spec_loLaced.calls k5 a0 ((wrap64 (97 + x10_3)) % 256) ((wrap64 (97 + x11_5)) % 256) false _ A18.out).mono ?_); rintro e w' ⟨rfl, ⟨nd, rfl⟩⟩; (try first | exact ⟨rfl, _, World.drewN_drewN _ _ _⟩ | exact ⟨rfl, _, Eq.trans (World.drewN_drewN _ _ _) (congrArg (World.drewN _) (Nat.add_assoc _ _ _))⟩)))
                                    repeat (go_quiet (first | (go_at_call 96; (with_reducible refine (spec_loLaced.calls k5 a0 ((wrap64 (97 + x10_3)) % 256) ((wrap64 (97 + x11_5)) % 256) false _ A18.out).mono ?_); rintro e w' ⟨rfl, ⟨nd, rfl⟩⟩; (try first | exact ⟨rfl, _, World.drewN_drewN _ _ _⟩ | exact ⟨rfl, _, Eq.trans (World.drewN_drewN _ _ _) (congrArg (World.drewN _) (Nat.add_assoc _ _ _))⟩))); try go_wp2_with (first | (go_at_call 96; (with_reducible refine (spec_loLaced.calls k5 a0 ((wrap64 (97 + x10_3)) % 256) ((wrap64 (97 + x11_5)) % 256) false _ A18.out).mono ?_); rintro e w' ⟨rfl, ⟨nd, rfl⟩⟩; (try first | exact ⟨rfl, _, World.drewN_drewN _ _ _⟩ | exact ⟨rfl, _, Eq.trans (World.drewN_drewN _ _ _) (congrArg (World.drewN _) (Nat.add_assoc _ _ _))⟩))))
                                    go_roundg k5
                                    case measure => have := HK1.out; have := HK2.out; have := HK3.out; have := HJ13.out; have := HK5.out; omega
                                    case rel => exact ⟨(x9_5), (wrap64 (x11_5 + 1)), (by first | rfl | (simp; done) | (simp [*]; done)), (by first | rfl | (simp; done) | (simp [*]; done)), (by first | exact H' | (rw [hji10]; exact H') | (rw [hji12]; exact H') | (rw [hji21]; exact H') | (rw [hji23]; exact H')), ⟨by have := HK1.out; have := HK2.out; have := HK3.out; have := HJ13.out; have := HK5.out; omega⟩, by repeat (first | exact Drawn0.refl _ | apply Drawn0.step)⟩
                                · rw [if_neg c17] at H
                                  have c17b0 : decide (x11_5 < x10_3) = false := decide_eq_false c17
                                  clear c17
                                  have H' := Aside0.mk H
                                  clear H
                                  go_wp2
                                  repeat (go_quiet (fail); try go_wp2)
                                  go_roundg k5
                                  case measure => have := HK1.out; have := HK2.out; have := HK3.out; have := HJ13.out; have := HK5.out; omega
                                  case rel => exact ⟨(x9_5), (wrap64 (x10_3 + 1)), (by first | rfl | (simp; done) | (simp [*]; done)), (by first | rfl | (simp; done) | (simp [*]; done)), (by first | exact H' | (rw [hji10]; exact H') | (rw [hji12]; exact H') | (rw [hji21]; exact H') | (rw [hji23]; exact H')), ⟨by have := HK1.out; have := HK2.out; have := HK3.out; have := HJ13.out; have := HK5.out; omega⟩, by repeat (first | exact Drawn0.refl _ | apply Drawn0.step)⟩
                          · replace c16 := Bool.eq_false_iff.mpr c16
                            subst c16
                            have H1 : (if x9_3 = true then (some true) else (spec_loDrawn.l2 kj13 a0 (ji10) (wrap64 (x8_2 + 1)))) = some r := by rw [if_neg (show ¬ (false = true) by decide)] at H; exact H
                            clear H
                            have H := H1
                            clear H1
                            by_cases c26 : x9_3 = true
                            · subst c26
                              have H1 : (some true) = some r := by rw [if_pos rfl] at H; exact H
                              clear H
                              have H := H1
                              clear H1
                              obtain rfl := Option.some.inj H
                              go_wp2
                              repeat (go_quiet (fail); try go_wp2)
                              go_ret
                              exact ⟨by first | rfl | (simp; done) | (simp only [← hji10, ← hji12] <;> (first | rfl | simp)) | (simp [*]; done), by repeat (first | exact Drawn0.refl _ | apply Drawn0.step)⟩
                            · replace c26 := Bool.eq_false_iff.mpr c26
                              subst c26
                              have H1 : (spec_loDrawn.l2 kj13 a0 (ji10) (wrap64 (x8_2 + 1))) = some r := by rw [if_neg (show ¬ (false = true) by decide)] at H; exact H
                              clear H
                              have H := H1
                              clear H1
                              have H' := Aside0.mk H
                              clear H
                              go_wp2
                              repeat (go_quiet (fail); try go_wp2)
                              go_roundg kj13
                              case measure => have := HK1.out; have := HK2.out; have := HK3.out; have := HJ13.out; omega
                              case rel => exact ⟨(wrap64 (x8_2 + 1)), (by first | rfl | (simp; done) | (simp [*]; done)), (by first | exact H' | (rw [hji10]; exact H') | (rw [hji12]; exact H') | (rw [hji21]; exact H') | (rw [hji23]; exact H')), ⟨by have := HK1.out; have := HK2.out; have := HK3.out; have := HJ13.out; omega⟩, by repeat (first | exact Drawn0.refl _ | apply Drawn0.step)⟩
                · rw [if_neg c13] at H
                  have c13b0 : decide (x8_2 < (ji12)) = false := decide_eq_false c13
                  clear c13
                  obtain rfl := Option.some.inj H
                  go_wp2
                  repeat (go_quiet (fail); try go_wp2)
                  go_ret
                  exact ⟨by first | rfl | (simp; done) | (simp only [← hji10, ← hji12] <;> (first | rfl | simp)) | (simp [*]; done), by repeat (first | exact Drawn0.refl _ | apply Drawn0.step)⟩
              · rw [if_neg c11] at H
                exact absurd H (by simp)
  · replace c3 := Bool.eq_false_iff.mpr c3
    subst c3
    have H1 : (some false) = some r := by rw [if_neg (show ¬ (false = true) by decide)] at H; exact H
    clear H
    have H := H1
    clear H1
    obtain rfl := Option.some.inj H
    go_enter Tryz.func69, Tryz.ntmps69
    go_wp2_with (first | (go_at_call 81; (with_reducible refine (spec_loEven.calls k a0 false _ A2.out).mono ?_); rintro e w' ⟨rfl, ⟨nd, rfl⟩⟩; (try first | exact ⟨rfl, _, World.drewN_drewN _ _ _⟩ | exact ⟨rfl, _, Eq.trans (World.drewN_drewN _ _ _) (congrArg (World.drewN _) (Nat.add_assoc _ _ _))⟩)))
    repeat (go_quiet (first | (go_at_call 81; (with_reducible refine (spec_loEven.calls k a0 false _ A2.out).mono ?_); rintro e w' ⟨rfl, ⟨nd, rfl⟩⟩; (try first | exact ⟨rfl, _, World.drewN_drewN _ _ _⟩ | exact ⟨rfl, _, Eq.trans (World.drewN_drewN _ _ _) (congrArg (World.drewN _) (Nat.add_assoc _ _ _))⟩))); try go_wp2_with (first | (go_at_call 81; (with_reducible refine (spec_loEven.calls k a0 false _ A2.out).mono ?_); rintro e w' ⟨rfl, ⟨nd, rfl⟩⟩; (try first | exact ⟨rfl, _, World.drewN_drewN _ _ _⟩ | exact ⟨rfl, _, Eq.trans (World.drewN_drewN _ _ _) (congrArg (World.drewN _) (Nat.add_assoc _ _ _))⟩))))
    go_ret
    exact ⟨by first | rfl | (simp; done) | (simp [*]; done), by repeat (first | exact Drawn0.refl _ | apply Drawn0.step)⟩

end Go.Proofs.YtcgoaipbfnhjhaaGreatDoor.Pr

-- Written by a program for this claim.
namespace Go.Proofs.YtcgoaipbfnhjhaaGreatDoor.Pr
open Go.RowKit Go.Proofs.YtcgoaipbfnhjhaaGreatDoorW.PrintWords Go.Proofs.YtcgoaipbfnhjhaaGreatDoorW.PrintLast Go.Proofs.YtcgoaipbfnhjhaaGreatDoorW.PrintMore
attribute [local go_sem] max2_int min2_int max_two min_two max_three min_three max_four min_four   -- for this text's walks alone
set_option linter.unusedVariables false
set_option linter.unusedSimpArgs false

/-! ### spec_CanBeDrawn: function 30 -/
def spec_CanBeDrawn.f (k : Nat) (a0 : ByteArray) : Option (Bool × Bool) := (spec_loGood.f k a0).bind fun t172 => (if t172 = true then ((spec_loDrawn.f k a0).bind fun t173 => (some (t173, true))) else (some (false, false)))
theorem spec_CanBeDrawn.mono : ∀ a0 k, LeO (spec_CanBeDrawn.f k a0) (spec_CanBeDrawn.f (k + 1) a0) := by
  intro a0 k
  unfold spec_CanBeDrawn.f
  repeat' first
      | (with_reducible exact spec_loDrawn.mono _ _)
      | (with_reducible exact spec_loGood.mono _ _)
      | (with_reducible exact LeO.refl _)
      | (with_reducible exact LeO.none _)
      | (with_reducible refine LeO.ite ?_ ?_)
      | (with_reducible refine LeO.bind ?_ (fun _ => ?_))
      | exact spec_loDrawn.mono _ _
      | exact spec_loGood.mono _ _
      | exact LeO.none _
      | refine LeO.ite ?_ ?_
      | refine LeO.bind ?_ (fun _ => ?_)
set_option maxHeartbeats 8000000 in
set_option maxRecDepth 100000 in
theorem spec_CanBeDrawn.calls (k : Nat) (a0 : ByteArray) (r1 : Bool) (r2 : Bool) (w : World) (h : spec_CanBeDrawn.f k a0 = some (r1, r2)) :
    Calls Tryz.prog 30 #[.string a0] w fun e w' => e = .returned (.tuple #[.bool r1, .bool r2]) ∧ Drawn0 w w' := by
  have H : ((spec_loGood.f k a0).bind fun t172 => (if t172 = true then ((spec_loDrawn.f k a0).bind fun t173 => (some (t173, true))) else (some (false, false)))) = some (r1, r2) := h
  clear h
  replace H := Option.bind_eq_some_iff.mp H
  obtain ⟨t172, A20, H⟩ := H
  replace H : (if t172 = true then ((spec_loDrawn.f k a0).bind fun t173 => (some (t173, true))) else (some (false, false))) = some (r1, r2) := H
  have A2 := Aside0.mk A20
  clear A20
  by_cases c3 : t172 = true
  · subst c3
    have H1 : ((spec_loDrawn.f k a0).bind fun t173 => (some (t173, true))) = some (r1, r2) := by rw [if_pos rfl] at H; exact H
    clear H
    have H := H1
    clear H1
    replace H := Option.bind_eq_some_iff.mp H
    obtain ⟨t173, A40, H⟩ := H
    replace H : (some (t173, true)) = some (r1, r2) := H
    have A4 := Aside0.mk A40
    clear A40
    simp only [Option.some.injEq, Prod.mk.injEq] at H
    obtain ⟨rfl, rfl⟩ := H
    go_enter Tryz.func30, Tryz.ntmps30
    go_wp2_with (first | ((with_reducible refine gate_callee (f := 71) rfl ?_); refine goesL_ (some 5) rfl rfl Tryz.func71 (by kernel_rfl) rfl #[.string a0] rfl (by (try simp only [List.map_toArray, List.map_cons, List.map_nil]); first | done | rfl | (simp only [List.length_drop, List.length_take]; rfl)) ?_; (with_reducible refine (spec_loGood.calls k a0 true _ A2.out).mono ?_); rintro e w' ⟨rfl, ⟨nd, rfl⟩⟩; refine ⟨_, rfl, ?_⟩) | ((with_reducible refine gate_callee (f := 69) rfl ?_); refine goesL_ (some 8) rfl rfl Tryz.func69 (by kernel_rfl) rfl #[.string a0] rfl (by (try simp only [List.map_toArray, List.map_cons, List.map_nil]); first | done | rfl | (simp only [List.length_drop, List.length_take]; rfl)) ?_; (with_reducible refine (spec_loDrawn.calls k a0 t173 _ A4.out).mono ?_); rintro e w' ⟨rfl, ⟨nd, rfl⟩⟩; refine ⟨_, rfl, ?_⟩))
    go_ret2
    exact ⟨by first | rfl | (simp; done) | (simp [*]; done), by repeat (first | exact Drawn0.refl _ | apply Drawn0.step)⟩
  · replace c3 := Bool.eq_false_iff.mpr c3
    subst c3
    have H1 : (some (false, false)) = some (r1, r2) := by rw [if_neg (show ¬ (false = true) by decide)] at H; exact H
    clear H
    have H := H1
    clear H1
    simp only [Option.some.injEq, Prod.mk.injEq] at H
    obtain ⟨rfl, rfl⟩ := H
    go_enter Tryz.func30, Tryz.ntmps30
    go_wp2_with (first | ((with_reducible refine gate_callee (f := 71) rfl ?_); refine goesL_ (some 5) rfl rfl Tryz.func71 (by kernel_rfl) rfl #[.string a0] rfl (by (try simp only [List.map_toArray, List.map_cons, List.map_nil]); first | done | rfl | (simp only [List.length_drop, List.length_take]; rfl)) ?_; (with_reducible refine (spec_loGood.calls k a0 false _ A2.out).mono ?_); rintro e w' ⟨rfl, ⟨nd, rfl⟩⟩; refine ⟨_, rfl, ?_⟩))
    go_ret2
    exact ⟨by first | rfl | (simp; done) | (simp [*]; done), by repeat (first | exact Drawn0.refl _ | apply Drawn0.step)⟩

end Go.Proofs.YtcgoaipbfnhjhaaGreatDoor.Pr

-- Written by a program for this claim.
namespace Go.Proofs.YtcgoaipbfnhjhaaGreatDoor.Pr
open Go.RowKit Go.Proofs.YtcgoaipbfnhjhaaGreatDoorW.PrintWords Go.Proofs.YtcgoaipbfnhjhaaGreatDoorW.PrintLast Go.Proofs.YtcgoaipbfnhjhaaGreatDoorW.PrintMore
attribute [local go_sem] max2_int min2_int max_two min_two max_three min_three max_four min_four   -- for this text's walks alone
set_option linter.unusedVariables false
set_option linter.unusedSimpArgs false

/-! ### impl_IsEvenLoop: function 31 -/
def impl_IsEvenLoop.f (k : Nat) (a0 : ByteArray) : Option (Bool × Bool) := (impl_IsLoop.f k a0).bind fun t143 => (if t143 = true then ((impl_isEvenLoop.f a0).bind fun t144 => (some (t144, true))) else (some (false, false)))
theorem impl_IsEvenLoop.mono : ∀ a0 k, LeO (impl_IsEvenLoop.f k a0) (impl_IsEvenLoop.f (k + 1) a0) := by
  intro a0 k
  unfold impl_IsEvenLoop.f
  repeat' first
      | (with_reducible exact impl_IsLoop.mono _ _)
      | (with_reducible exact LeO.refl _)
      | (with_reducible exact LeO.none _)
      | (with_reducible refine LeO.ite ?_ ?_)
      | (with_reducible refine LeO.bind ?_ (fun _ => ?_))
      | exact impl_IsLoop.mono _ _
      | exact LeO.none _
      | refine LeO.ite ?_ ?_
      | refine LeO.bind ?_ (fun _ => ?_)
set_option maxHeartbeats 8000000 in
set_option maxRecDepth 100000 in
theorem impl_IsEvenLoop.calls (k : Nat) (a0 : ByteArray) (r1 : Bool) (r2 : Bool) (w : World) (h : impl_IsEvenLoop.f k a0 = some (r1, r2)) :
    Calls Tryz.prog 31 #[.string a0] w fun e w' => e = .returned (.tuple #[.bool r1, .bool r2]) ∧ Below w.heap.size w w' := by
  have HB := Aside0.mk (Below.refl w.heap.size w)
  have H : ((impl_IsLoop.f k a0).bind fun t143 => (if t143 = true then ((impl_isEvenLoop.f a0).bind fun t144 => (some (t144, true))) else (some (false, false)))) = some (r1, r2) := h
  clear h
  replace H := Option.bind_eq_some_iff.mp H
  obtain ⟨t143, A20, H⟩ := H
  replace H : (if t143 = true then ((impl_isEvenLoop.f a0).bind fun t144 => (some (t144, true))) else (some (false, false))) = some (r1, r2) := H
  have A2 := Aside0.mk A20
  clear A20
  by_cases c3 : t143 = true
  · subst c3
    have H1 : ((impl_isEvenLoop.f a0).bind fun t144 => (some (t144, true))) = some (r1, r2) := by rw [if_pos rfl] at H; exact H
    clear H
    have H := H1
    clear H1
    replace H := Option.bind_eq_some_iff.mp H
    obtain ⟨t144, A40, H⟩ := H
    replace H : (some (t144, true)) = some (r1, r2) := H
    have A4 := Aside0.mk A40
    clear A40
    simp only [Option.some.injEq, Prod.mk.injEq] at H
    obtain ⟨rfl, rfl⟩ := H
    go_enter Tryz.func31, Tryz.ntmps31
    go_wp2_with (first | ((with_reducible refine gate_callee (f := 12) rfl ?_); refine goesL_ (some 5) rfl rfl Tryz.func12 (by kernel_rfl) rfl #[.string a0] rfl (by (try simp only [List.map_toArray, List.map_cons, List.map_nil]); first | done | rfl | (simp only [List.length_drop, List.length_take]; rfl)) ?_; (with_reducible refine (impl_IsLoop.calls k a0 true _ A2.out).mono ?_); rintro e w5 ⟨rfl, hb⟩; refine ⟨_, rfl, ?_⟩; have n0_ := Aside0.mk (below_step (by repeat (first | (with_reducible first | exact HB.out | apply below_alloc | apply pw_below_drewN | apply below_drew1) | exact HB.out)) hb); clear HB; have HB := n0_; clear n0_; (try clear hb); (try clear hb2); (try clear hk); (try clear hi)) | ((with_reducible refine gate_callee (f := 80) rfl ?_); refine goesL_ (some 8) rfl rfl Tryz.func80 (by kernel_rfl) rfl #[.string a0] rfl (by (try simp only [List.map_toArray, List.map_cons, List.map_nil]); first | done | rfl | (simp only [List.length_drop, List.length_take]; rfl)) ?_; (with_reducible refine (impl_isEvenLoop.calls a0 t144 _ A4.out).mono ?_); rintro e w6 ⟨rfl, hb⟩; refine ⟨_, rfl, ?_⟩; have n0_ := Aside0.mk (below_step (by repeat (first | (with_reducible first | exact HB.out | apply below_alloc | apply pw_below_drewN | apply below_drew1) | exact HB.out)) hb); clear HB; have HB := n0_; clear n0_; (try clear hb); (try clear hb2); (try clear hk); (try clear hi)))
    go_ret2
    exact ⟨by first | rfl | (simp [errW_none, errW_some] <;> rfl) | (simp [*, errW_none, errW_some] <;> rfl), by repeat (first | (with_reducible first | exact HB.out | apply below_alloc | apply pw_below_drewN | apply below_drew1) | exact HB.out)⟩
  · replace c3 := Bool.eq_false_iff.mpr c3
    subst c3
    have H1 : (some (false, false)) = some (r1, r2) := by rw [if_neg (show ¬ (false = true) by decide)] at H; exact H
    clear H
    have H := H1
    clear H1
    simp only [Option.some.injEq, Prod.mk.injEq] at H
    obtain ⟨rfl, rfl⟩ := H
    go_enter Tryz.func31, Tryz.ntmps31
    go_wp2_with (first | ((with_reducible refine gate_callee (f := 12) rfl ?_); refine goesL_ (some 5) rfl rfl Tryz.func12 (by kernel_rfl) rfl #[.string a0] rfl (by (try simp only [List.map_toArray, List.map_cons, List.map_nil]); first | done | rfl | (simp only [List.length_drop, List.length_take]; rfl)) ?_; (with_reducible refine (impl_IsLoop.calls k a0 false _ A2.out).mono ?_); rintro e w7 ⟨rfl, hb⟩; refine ⟨_, rfl, ?_⟩; have n0_ := Aside0.mk (below_step (by repeat (first | (with_reducible first | exact HB.out | apply below_alloc | apply pw_below_drewN | apply below_drew1) | exact HB.out)) hb); clear HB; have HB := n0_; clear n0_; (try clear hb); (try clear hb2); (try clear hk); (try clear hi)))
    go_ret2
    exact ⟨by first | rfl | (simp [errW_none, errW_some] <;> rfl) | (simp [*, errW_none, errW_some] <;> rfl), by repeat (first | (with_reducible first | exact HB.out | apply below_alloc | apply pw_below_drewN | apply below_drew1) | exact HB.out)⟩

end Go.Proofs.YtcgoaipbfnhjhaaGreatDoor.Pr

-- Written by a program for this claim.
namespace Go.Proofs.YtcgoaipbfnhjhaaGreatDoor.Pr
open Go.RowKit Go.Proofs.YtcgoaipbfnhjhaaGreatDoorW.PrintWords Go.Proofs.YtcgoaipbfnhjhaaGreatDoorW.PrintLast Go.Proofs.YtcgoaipbfnhjhaaGreatDoorW.PrintMore
attribute [local go_sem] max2_int min2_int max_two min_two max_three min_three max_four min_four   -- for this text's walks alone
set_option linter.unusedVariables false
set_option linter.unusedSimpArgs false

/-! ### spec_IsEvenLoop: function 32 -/
def spec_IsEvenLoop.f (k : Nat) (a0 : ByteArray) : Option (Bool × Bool) := (spec_loGood.f k a0).bind fun t265 => (if t265 = true then ((spec_loEven.f k a0).bind fun t266 => (some (t266, true))) else (some (false, false)))
theorem spec_IsEvenLoop.mono : ∀ a0 k, LeO (spec_IsEvenLoop.f k a0) (spec_IsEvenLoop.f (k + 1) a0) := by
  intro a0 k
  unfold spec_IsEvenLoop.f
  repeat' first
      | (with_reducible exact spec_loEven.mono _ _)
      | (with_reducible exact spec_loGood.mono _ _)
      | (with_reducible exact LeO.refl _)
      | (with_reducible exact LeO.none _)
      | (with_reducible refine LeO.ite ?_ ?_)
      | (with_reducible refine LeO.bind ?_ (fun _ => ?_))
      | exact spec_loEven.mono _ _
      | exact spec_loGood.mono _ _
      | exact LeO.none _
      | refine LeO.ite ?_ ?_
      | refine LeO.bind ?_ (fun _ => ?_)
set_option maxHeartbeats 8000000 in
set_option maxRecDepth 100000 in
theorem spec_IsEvenLoop.calls (k : Nat) (a0 : ByteArray) (r1 : Bool) (r2 : Bool) (w : World) (h : spec_IsEvenLoop.f k a0 = some (r1, r2)) :
    Calls Tryz.prog 32 #[.string a0] w fun e w' => e = .returned (.tuple #[.bool r1, .bool r2]) ∧ Drawn0 w w' := by
  have H : ((spec_loGood.f k a0).bind fun t265 => (if t265 = true then ((spec_loEven.f k a0).bind fun t266 => (some (t266, true))) else (some (false, false)))) = some (r1, r2) := h
  clear h
  replace H := Option.bind_eq_some_iff.mp H
  obtain ⟨t265, A20, H⟩ := H
  replace H : (if t265 = true then ((spec_loEven.f k a0).bind fun t266 => (some (t266, true))) else (some (false, false))) = some (r1, r2) := H
  have A2 := Aside0.mk A20
  clear A20
  by_cases c3 : t265 = true
  · subst c3
    have H1 : ((spec_loEven.f k a0).bind fun t266 => (some (t266, true))) = some (r1, r2) := by rw [if_pos rfl] at H; exact H
    clear H
    have H := H1
    clear H1
    replace H := Option.bind_eq_some_iff.mp H
    obtain ⟨t266, A40, H⟩ := H
    replace H : (some (t266, true)) = some (r1, r2) := H
    have A4 := Aside0.mk A40
    clear A40
    simp only [Option.some.injEq, Prod.mk.injEq] at H
    obtain ⟨rfl, rfl⟩ := H
    go_enter Tryz.func32, Tryz.ntmps32
    go_wp2_with (first | ((with_reducible refine gate_callee (f := 71) rfl ?_); refine goesL_ (some 5) rfl rfl Tryz.func71 (by kernel_rfl) rfl #[.string a0] rfl (by (try simp only [List.map_toArray, List.map_cons, List.map_nil]); first | done | rfl | (simp only [List.length_drop, List.length_take]; rfl)) ?_; (with_reducible refine (spec_loGood.calls k a0 true _ A2.out).mono ?_); rintro e w' ⟨rfl, ⟨nd, rfl⟩⟩; refine ⟨_, rfl, ?_⟩) | ((with_reducible refine gate_callee (f := 81) rfl ?_); refine goesL_ (some 8) rfl rfl Tryz.func81 (by kernel_rfl) rfl #[.string a0] rfl (by (try simp only [List.map_toArray, List.map_cons, List.map_nil]); first | done | rfl | (simp only [List.length_drop, List.length_take]; rfl)) ?_; (with_reducible refine (spec_loEven.calls k a0 t266 _ A4.out).mono ?_); rintro e w' ⟨rfl, ⟨nd, rfl⟩⟩; refine ⟨_, rfl, ?_⟩))
    go_ret2
    exact ⟨by first | rfl | (simp; done) | (simp [*]; done), by repeat (first | exact Drawn0.refl _ | apply Drawn0.step)⟩
  · replace c3 := Bool.eq_false_iff.mpr c3
    subst c3
    have H1 : (some (false, false)) = some (r1, r2) := by rw [if_neg (show ¬ (false = true) by decide)] at H; exact H
    clear H
    have H := H1
    clear H1
    simp only [Option.some.injEq, Prod.mk.injEq] at H
    obtain ⟨rfl, rfl⟩ := H
    go_enter Tryz.func32, Tryz.ntmps32
    go_wp2_with (first | ((with_reducible refine gate_callee (f := 71) rfl ?_); refine goesL_ (some 5) rfl rfl Tryz.func71 (by kernel_rfl) rfl #[.string a0] rfl (by (try simp only [List.map_toArray, List.map_cons, List.map_nil]); first | done | rfl | (simp only [List.length_drop, List.length_take]; rfl)) ?_; (with_reducible refine (spec_loGood.calls k a0 false _ A2.out).mono ?_); rintro e w' ⟨rfl, ⟨nd, rfl⟩⟩; refine ⟨_, rfl, ?_⟩))
    go_ret2
    exact ⟨by first | rfl | (simp; done) | (simp [*]; done), by repeat (first | exact Drawn0.refl _ | apply Drawn0.step)⟩

end Go.Proofs.YtcgoaipbfnhjhaaGreatDoor.Pr

/-
  DERIVED: THE SHELF's CONTRACTS AT THIS DUMP, IN PLAIN WORDS (tools/lay-plain.mjs out of 'YtcgoaipbfnhjhaaGreatDoorRevLay.lean', which tools/lay-shelf.mjs wrote): THE SAME DECLARATIONS UNDER THE SAME NAMES: 'import', 'namespace', 'open', 'def', 'theorem' AND NOTHING ELSE: no command of the shelf's: FOR A HAND-IN. Each laying: the table of numbers ('.._ren') and one theorem, a field a fact of the dump's own or the kernel's comparison; each contract: ONE APPLICATION.
-/
namespace Go.Proofs
open Go.Shelf
def Tryz.revB_ren : Go.Shelf.Ren := ⟨fun | 35 => 121 | n => n, fun | 22 => 22 | 23 => 5 | 3 => 3 | 4 => 4 | 0 => 0 | n => n, fun | n => n⟩
theorem Tryz.revB : Go.Proofs.SlLaysE.n35 Tryz.prog Tryz.revB_ren := {
  mixed := by kernel_rfl
  f35 := ⟨Tryz.f121.name, by decide, Tryz.func121.trans (congrArg some (by kernel_rfl))⟩
  t0 := Tryz.underlying0
  a0 := Tryz.isAgg0
  z0 := Tryz.sizeOf0
  v0 := Tryz.zeroValue0
  t3 := Tryz.underlying3
  a3 := Tryz.isAgg3
  z3 := Tryz.sizeOf3
  v3 := Tryz.zeroValue3
  t4 := Tryz.underlying4
  a4 := Tryz.isAgg4
  z4 := Tryz.sizeOf4
  v4 := Tryz.zeroValue4
  t22 := Tryz.underlying22
  a22 := Tryz.isAgg22
  z22 := Tryz.sizeOf22
  v22 := Tryz.zeroValue22
  a23 := Tryz.isAgg5
  z23 := Tryz.sizeOf5 }
end Go.Proofs

/- What the program's backward computes: a text told back. -/
namespace Go.Proofs.YtcgoaipbfnhjhaaGreatDoor.Pr
open Go.RowKit Go.Sort Go.Proofs.YtcgoaipbfnhjhaaGreatDoorW.PrintWords Go.Proofs.YtcgoaipbfnhjhaaGreatDoorW.PrintLast Go.Proofs.YtcgoaipbfnhjhaaGreatDoorW.PrintMore
set_option linter.unusedVariables false
set_option maxRecDepth 100000
set_option linter.unusedSimpArgs false

theorem holds_bytes (W : World) (e : Nat) (s : ByteArray) (hs : s.size ≤ 1000000) : Holds (Value.int .u8) (Lib.bytesWorld W e s) W.heap.size 0 (bytesOf s).toArray := by
  have hC := bytes_C W e s (by omega)
  have hl := bytesOf_length s
  intro j hj
  have hj2 : j < (bytesOf s).length := by simpa using hj
  obtain ⟨ad, e1, hc⟩ := hC.2.2 (by omega)
  injection e1 with e1
  subst e1
  obtain ⟨cs, h1, h2, h3⟩ := hc j (bytesOf s)[j] (List.getElem?_eq_getElem hj2)
  have h4 := h3 0 (.int .u8 (bytesOf s)[j]) (by rw [show cs = [Value.int .u8 (bytesOf s)[j]] from h2]; rfl)
  have ha : (⟨W.heap.size, 0, none⟩ : Addr).add (j * (Kd.int .u8).sz + 0) = ⟨W.heap.size, 0 + j, none⟩ := by
    rw [add_plain]
    show (⟨W.heap.size, j * 1 + 0, none⟩ : Addr) = _
    rw [show j * 1 + 0 = 0 + j by omega]
  rw [ha] at h4
  refine ⟨by rw [h4]; simp [hj2], ?_⟩
  have hn := Lib.bytesWorld_at_new W e s
  have hz : s.size ≤ (Lib.bytesCells W e s).size := by
    unfold Lib.bytesCells
    rw [Array.size_append, Array.size_map]
    exact Nat.le_add_right _ _
  unfold World.frozen?
  rw [hn]
  simp
  omega
theorem below_putB {w : World} {g base : Nat} (F : Array Int) (hg : base ≤ g) : Below base w (putRow (Value.int .u8) w g 0 F) :=
  ⟨rfl, rfl, rfl, by rw [size_putRow]; exact Nat.le_refl _, fun k hk => by
    show (w.heap.modify g (onCells (putCells (Value.int .u8) 0 F)))[k]? = _
    rw [Array.getElem?_modify, if_neg (by omega)]⟩
theorem reverse_bytes (W : World) (s : ByteArray) (cap : Nat) (hs : s.size ≤ 1000000) :
    Calls Tryz.prog 121 #[.slice (some ⟨W.heap.size, 0, none⟩) s.size cap] (Lib.bytesWorld W 5 s) fun e w' => e = .returned (.tuple #[]) ∧ Below W.heap.size W w' ∧ ∀ i, i < s.size → w'.cell? ⟨W.heap.size, 0 + i, none⟩ = some (.int .u8 ((bytesOf s).reverse.getD i 0)) := by
  have hl := bytesOf_length s
  have hH := holds_bytes W 5 s hs
  have h := AnyE.slices_Reverse Tryz.revB (Value.int .u8) (fun _ => rfl) W.heap.size 0 cap (bytesOf s) (Lib.bytesWorld W 5 s) hH (by omega)
  rw [hl] at h
  refine h.mono ?_
  rintro e w' ⟨rfl, n, rfl⟩
  refine ⟨rfl, ?_, fun i hi => ?_⟩
  · have h1 : Below W.heap.size W (Sort.ahead (Lib.bytesWorld W 5 s) n) := (bytes_below (Below.refl _ _) (Nat.le_refl _) 5 s).trans ⟨rfl, rfl, rfl, Nat.le_refl _, fun _ _ => rfl⟩
    exact h1.trans (below_putB _ (Nat.le_refl _))
  · have h2 := (holds_putRow (Value.int .u8) (Sort.ahead (Lib.bytesWorld W 5 s) n) W.heap.size 0 (bytesOf s).toArray (bytesOf s).reverse.toArray hH (by simp)) i (by simp; omega)
    rw [h2.1]
    simp [hl, hi, List.getD_eq_getElem?_getD]

def impl_backward.f (a0 : ByteArray) : Option (ByteArray) := if a0.size ≤ 1000000 then some (strOfNums (bytesOf a0).reverse) else none

set_option maxHeartbeats 2000000 in
theorem impl_backward.calls (a0 : ByteArray) (r : ByteArray) (w : World) (h : impl_backward.f a0 = some r) :
    Calls Tryz.prog 89 #[.string a0] w fun e w' => e = .returned (.string r) ∧ Below w.heap.size w w' := by
  unfold impl_backward.f at h
  by_cases hs : a0.size ≤ 1000000
  · rw [if_pos hs] at h
    obtain rfl := Option.some.inj h
    have hl := bytesOf_length a0
    clear h
    have hR := Aside0.mk (fun cap => reverse_bytes w a0 cap hs)
    go_enter Tryz.func89, Tryz.ntmps89
    go_wp2_with fail
    rw [print_bytes 9 22 5 Tryz.underlying9 Tryz.underlying22 Tryz.underlying5]
    simp only [Result.andThen]
    rw [Oper.upon_value]
    go_wp2_with (go_at_call 121; refine (hR.out _).mono ?_; rintro e w' ⟨rfl, hb, hcell⟩)
    rw [run_convert_bytes_arg w' 22 5 Tryz.underlying22 Tryz.underlying5 w.heap.size 0 a0.size _ (bytesOf a0).reverse (by simp [hl]) hcell 9 Tryz.underlying9]
    simp only [Result.andThen]
    rw [Oper.upon_value]
    go_wp2_with fail
    go_ret
    exact ⟨rfl, hb⟩
  · rw [if_neg hs] at h; cases h
end Go.Proofs.YtcgoaipbfnhjhaaGreatDoor.Pr

/- The lesser of two texts, as a step of the walk. -/
namespace Go.Proofs.YtcgoaipbfnhjhaaGreatDoor.Pr
open Go.RowKit Go.Lib
theorem run_min2_strs {P : Program} (w : World) (x y : ByteArray) : (Builtin.min2 (.string x) (.string y)).run P w = .ok (.string (minS x y)) w := by
  by_cases h : x.data.toList < y.data.toList <;> by_cases h' : x.data.toList = y.data.toList <;> simp [Builtin.min2, Op.stringOp, asBool, minS, Proofs.bytesLess_eq, Lib.toList_data, h, h'] <;> (intro e; exact absurd (congrArg Array.toList e) h')
end Go.Proofs.YtcgoaipbfnhjhaaGreatDoor.Pr

-- Written by a program for this claim.
namespace Go.Proofs.YtcgoaipbfnhjhaaGreatDoor.Pr
open Go.RowKit Go.Proofs.YtcgoaipbfnhjhaaGreatDoorW.PrintWords Go.Proofs.YtcgoaipbfnhjhaaGreatDoorW.PrintLast Go.Proofs.YtcgoaipbfnhjhaaGreatDoorW.PrintMore
attribute [local go_sem] run_min2_strs max2_int min2_int max_two min_two max_three min_three max_four min_four   -- for this text's walks alone
set_option linter.unusedVariables false
set_option linter.unusedSimpArgs false

/-! ### impl_firstLoop: function 76 -/
mutual
def impl_firstLoop.l0 : Nat → ByteArray → ByteArray → List ByteArray → Int → Int → Option (ByteArray)
  | 0, _, _, _, _, _ => none
  | k + 1, x0, x3, x11, x12, x13 => if x13 < x12 then (if 0 ≤ x13 then (if x13 < (x11.length : Int) then (impl_firstLoop.l1 k x0 x3 (rdOf ByteArray.empty x11 x13) x11 x12 x13 (x0.size : Int) 0) else (none)) else (none)) else (some x3)
def impl_firstLoop.l1 : Nat → ByteArray → ByteArray → ByteArray → List ByteArray → Int → Int → Int → Int → Option (ByteArray)
  | 0, _, _, _, _, _, _, _, _ => none
  | k + 1, x0, x3, x5, x11, x12, x13, x18, x19 => if x19 < x18 then (if 0 ≤ x19 then (if x19 ≤ (x5.size : Int) then (if (x5.extract (x19 : Int).toNat x5.size).size + (x5.extract 0 (x19 : Int).toNat).size ≤ 9223372036854775807 then ((impl_named.f k ((x5.extract (x19 : Int).toNat x5.size) ++ (x5.extract 0 (x19 : Int).toNat))).bind fun t138 => (impl_firstLoop.l1 k x0 (Lib.minS x3 t138) x5 x11 x12 x13 x18 (wrap64 (x19 + 1)))) else (none)) else (none)) else (none)) else (impl_firstLoop.l0 k x0 x3 x11 x12 (wrap64 (x13 + 1)))
end
def impl_firstLoop.f (k : Nat) (a0 : ByteArray) : Option (ByteArray) := (impl_backward.f a0).bind fun t133 => ((some (([a0, t133] : List ByteArray) : List ByteArray)).bind fun y134 => (impl_firstLoop.l0 k a0 a0 y134 (y134.length : Int) 0))
theorem impl_firstLoop.mono_l : ∀ k, (∀ y0 y1 y2 y3 y4, LeO (impl_firstLoop.l0 k y0 y1 y2 y3 y4) (impl_firstLoop.l0 (k + 1) y0 y1 y2 y3 y4)) ∧ (∀ y0 y1 y2 y3 y4 y5 y6 y7, LeO (impl_firstLoop.l1 k y0 y1 y2 y3 y4 y5 y6 y7) (impl_firstLoop.l1 (k + 1) y0 y1 y2 y3 y4 y5 y6 y7))
  | 0 => ⟨fun _ _ _ _ _ r h => by simp [impl_firstLoop.l0] at h, fun _ _ _ _ _ _ _ _ r h => by simp [impl_firstLoop.l1] at h⟩
  | k + 1 => by
    obtain ⟨ih0, ih1⟩ := impl_firstLoop.mono_l k
    refine ⟨?_, ?_⟩
    · intro y0 y1 y2 y3 y4
      unfold impl_firstLoop.l0
      repeat' first
      | (with_reducible exact ih0 _ _ _ _ _)
      | (with_reducible exact ih1 _ _ _ _ _ _ _ _)
      | (with_reducible exact impl_named.mono _ _)
      | (with_reducible exact LeO.refl _)
      | (with_reducible exact LeO.none _)
      | (with_reducible refine LeO.ite ?_ ?_)
      | (with_reducible refine LeO.bind ?_ (fun _ => ?_))
      | exact ih0 _ _ _ _ _
      | exact ih1 _ _ _ _ _ _ _ _
      | exact impl_named.mono _ _
      | exact LeO.none _
      | refine LeO.ite ?_ ?_
      | refine LeO.bind ?_ (fun _ => ?_)
    · intro y0 y1 y2 y3 y4 y5 y6 y7
      unfold impl_firstLoop.l1
      repeat' first
      | (with_reducible exact ih0 _ _ _ _ _)
      | (with_reducible exact ih1 _ _ _ _ _ _ _ _)
      | (with_reducible exact impl_named.mono _ _)
      | (with_reducible exact LeO.refl _)
      | (with_reducible exact LeO.none _)
      | (with_reducible refine LeO.ite ?_ ?_)
      | (with_reducible refine LeO.bind ?_ (fun _ => ?_))
      | exact ih0 _ _ _ _ _
      | exact ih1 _ _ _ _ _ _ _ _
      | exact impl_named.mono _ _
      | exact LeO.none _
      | refine LeO.ite ?_ ?_
      | refine LeO.bind ?_ (fun _ => ?_)
theorem impl_firstLoop.mono : ∀ a0 k, LeO (impl_firstLoop.f k a0) (impl_firstLoop.f (k + 1) a0) := by
  intro a0 k
  obtain ⟨ih0, ih1⟩ := impl_firstLoop.mono_l k
  unfold impl_firstLoop.f
  repeat' first
      | (with_reducible exact ih0 _ _ _ _ _)
      | (with_reducible exact ih1 _ _ _ _ _ _ _ _)
      | (with_reducible exact impl_named.mono _ _)
      | (with_reducible exact LeO.refl _)
      | (with_reducible exact LeO.none _)
      | (with_reducible refine LeO.ite ?_ ?_)
      | (with_reducible refine LeO.bind ?_ (fun _ => ?_))
      | exact ih0 _ _ _ _ _
      | exact ih1 _ _ _ _ _ _ _ _
      | exact impl_named.mono _ _
      | exact LeO.none _
      | refine LeO.ite ?_ ?_
      | refine LeO.bind ?_ (fun _ => ?_)
def impl_firstLoop.T8 : Bool × List (List Nat × List Nat) := (true, [([], []), ([], []), ([], []), ([1, 2], [1, 2]), ([], []), ([], []), ([4, 5], [4, 5]), ([3, 6], [3, 6]), ([7], [7]), ([0, 8], [0, 8]), ([9, 8, 0, 1, 2, 3, 4, 5, 6, 7, 8, 9], [0, 9])])
def impl_firstLoop.B8 : List Nat := [0, 0, 0, 6, 0, 0, 48, 126, 254, 511, 1023]
theorem impl_firstLoop.tab8 : rtab .any (opsOf Tryz.f76 8) = impl_firstLoop.T8 := by kernel_rfl
theorem impl_firstLoop.bits8 : waitsOk impl_firstLoop.T8.2 impl_firstLoop.B8 = true := by kernel_rfl
set_option maxHeartbeats 8000000 in
set_option maxRecDepth 100000 in
theorem impl_firstLoop.calls (k : Nat) (a0 : ByteArray) (r : ByteArray) (w : World) (h : impl_firstLoop.f k a0 = some r) :
    Calls Tryz.prog 76 #[.string a0] w fun e w' => e = .returned (.string r) ∧ Below w.heap.size w w' := by
  have HB := Aside0.mk (Below.refl w.heap.size w)
  have H : ((impl_backward.f a0).bind fun t133 => ((some (([a0, t133] : List ByteArray) : List ByteArray)).bind fun y134 => (impl_firstLoop.l0 k a0 a0 y134 (y134.length : Int) 0))) = some r := h
  clear h
  replace H := Option.bind_eq_some_iff.mp H
  obtain ⟨t133, A20, H⟩ := H
  replace H : ((some (([a0, t133] : List ByteArray) : List ByteArray)).bind fun y134 => (impl_firstLoop.l0 k a0 a0 y134 (y134.length : Int) 0)) = some r := H
  have A2 := Aside0.mk A20
  clear A20
  obtain ⟨y134, hy134⟩ : ∃ y_ : List ByteArray, y_ = (([a0, t133] : List ByteArray)) := ⟨_, rfl⟩
  replace H : (impl_firstLoop.l0 k a0 a0 y134 (y134.length : Int) 0) = some r := by first | (rw [hy134]; with_reducible exact H) | (have H2_ := (Option.bind_some _ _).symm.trans H; rw [hy134]; with_reducible exact H2_) | (have H2_ := (Option.bind_some _ _).symm.trans H; with_reducible exact H2_) | with_reducible exact H | (rw [hy134]; exact H) | exact H
  have Ny134 := Aside0.mk hy134
  clear hy134
  have H' := Aside0.mk H
  clear H
  go_enter Tryz.func76, Tryz.ntmps76
  go_wp2_with (first | ((with_reducible refine gate_callee (f := 89) rfl ?_); refine goesL_ (some 10) rfl rfl Tryz.func89 (by kernel_rfl) rfl #[.string a0] rfl (by (try simp only [List.map_toArray, List.map_cons, List.map_nil]); first | done | rfl | (simp only [List.length_drop, List.length_take]; rfl)) ?_; (with_reducible refine (impl_backward.calls a0 t133 _ A2.out).mono ?_); rintro e w3 ⟨rfl, hb⟩; refine ⟨_, rfl, ?_⟩; have n0_ := Aside0.mk (below_step (by repeat (first | (with_reducible first | exact HB.out | apply below_alloc | apply pw_below_drewN | apply below_drew1) | exact HB.out)) hb); clear HB; have HB := n0_; clear n0_; (try clear hb); (try clear hb2); (try clear hk); (try clear hi)) | ((with_reducible refine gate_dst (N := 11) rfl ?_); refine Kd.R_lit Kd.string _ 9 ?hg (N := 11) ?hd (xs := ([a0, t133] : List ByteArray)) (inner := [.string a0, .string t133]) (ok := fun _ => True) (okp := fun _ => True) ?hr ?hp (fun _ hk => hk) trivial (Below.refl _ _) (Nat.le_refl _) (by simp) ?_; (case hd => rfl); (case hg => rfl); (case hr => first | (go_simp; done) | (go_simp; rfl)); (case hp => exact (Reps.one (show Kd.M Kd.string _ _ _ a0 [.string a0] from rfl) (Reps.one (show Kd.M Kd.string _ _ _ t133 [.string t133] from rfl) (Reps.none _ _)))); intro v135 w4 ho5 hb hg_ hnew_; clear hg_ hnew_; (first | rw [← Ny134.out] at ho5 | (simp only [Int.reduceToNat] at ho5; rw [← Ny134.out] at ho5)); have n0_ := Aside0.mk (Kd.R_lower ho5 (below_size (by repeat (first | (with_reducible first | exact HB.out | apply below_alloc | apply pw_below_drewN | apply below_drew1) | exact HB.out)))); have n1_ := Aside0.mk (below_step (by repeat (first | (with_reducible first | exact HB.out | apply below_alloc | apply pw_below_drewN | apply below_drew1) | exact HB.out)) hb); clear HB; have HO136 := n0_; have HB := n1_; clear n0_ n1_; clear hb ho5; obtain ⟨Ao6, co6, eo6⟩ := Kd.R_slice HO136.out; subst eo6))
  go_loopg [3, 13] k (fun kq v3 v13 w' => ∃ (x3_1 : ByteArray) (x13_1 : Int), v3 = .string x3_1 ∧ v13 = .int .i64 x13_1 ∧ Aside0 (impl_firstLoop.l0 kq a0 x3_1 y134 (y134.length : Int) x13_1 = some r) ∧ Aside0 (kq ≤ k) ∧ Aside0 (Kd.R Kd.string 9 w' w.heap.size (fun _ => True) (.slice Ao6 y134.length co6) y134) ∧ Aside0 (Below w.heap.size w w'))
  case atStart => exact ⟨(a0), (0), (by first | rfl | (simp; done) | (simp [*]; done)), (by first | rfl | (simp; done) | (simp [*]; done)), H', ⟨Nat.le_refl _⟩, ⟨by (with_reducible repeat (first | apply Kd.R_alloc | apply Kd.R_drewN | apply Kd.R_drew)); exact HO136.out⟩, ⟨by repeat (first | (with_reducible first | exact HB.out | apply below_alloc | apply pw_below_drewN | apply below_drew1) | exact HB.out)⟩⟩
  case round =>
    clear H'
    try clear p2
    obtain ⟨x3_1, x13_1, rfl, rfl, HA, HK1, HO_11, HB⟩ := hrel
    cases gk with
    | zero => exact absurd HA.out (by simp [impl_firstLoop.l0])
    | succ k1 =>
      have H := HA.out
      clear HA
      simp only [impl_firstLoop.l0] at H
      by_cases c7 : x13_1 < (y134.length : Int)
      · rw [if_pos c7] at H
        have c7b0 : decide (x13_1 < (y134.length : Int)) = true := decide_eq_true c7
        clear c7
        by_cases c8 : 0 ≤ x13_1
        · rw [if_pos c8] at H
          have c8b0 : decide (0 ≤ x13_1) = true := decide_eq_true c8
          clear c8
          by_cases c9 : x13_1 < (y134.length : Int)
          · rw [if_pos c9] at H
            have c9b0 : decide (x13_1 < (y134.length : Int)) = true := decide_eq_true c9
            clear c9
            have H' := Aside0.mk H
            clear H
            have p137 : 0 ≤ (x13_1 : Int) := of_decide_eq_true (by first | (with_reducible assumption) | assumption)
            have q137 : x13_1 < (y134.length : Int) := of_decide_eq_true (by first | (with_reducible assumption) | assumption)
            obtain ⟨ad137, e137, hx137_0⟩ := Kd.at_string (Kd.R_reads' HO_11.out).2.2 x13_1 p137 q137
            cases e137
            replace p137 := eq_true p137
            replace q137 := eq_true q137
            go_wp2
            go_loopg [3, 19] k1 (fun kq v3 v19 w' => ∃ (x3_2 : ByteArray) (x19_2 : Int), v3 = .string x3_2 ∧ v19 = .int .i64 x19_2 ∧ Aside0 (impl_firstLoop.l1 kq a0 x3_2 (rdOf ByteArray.empty y134 x13_1) y134 (y134.length : Int) x13_1 (a0.size : Int) x19_2 = some r) ∧ Aside0 (kq ≤ k1) ∧ Aside0 (Kd.R Kd.string 9 w' w.heap.size (fun _ => True) (.slice (some ad137) y134.length co6) y134) ∧ Aside0 (Below w.heap.size w w'))
            case atStart => exact ⟨(x3_1), (0), (by first | rfl | (simp; done) | (simp [*]; done)), (by first | rfl | (simp; done) | (simp [*]; done)), H', ⟨Nat.le_refl _⟩, ⟨by (with_reducible repeat (first | apply Kd.R_alloc | apply Kd.R_drewN | apply Kd.R_drew)); exact HO_11.out⟩, ⟨by repeat (first | (with_reducible first | exact HB.out | apply below_alloc | apply pw_below_drewN | apply below_drew1) | exact HB.out)⟩⟩
            case round =>
              clear H'
              try clear p1
              try clear q1
              try clear hx1
              try clear p2
              try clear c7
              try clear c7b0
              try clear c8
              try clear c8b0
              try clear c9
              try clear c9b0
              try clear hx137_0
              try clear p137
              try clear p2
              try clear q137
              obtain ⟨x3_2, x19_2, rfl, rfl, HA, HK2, HO_11, HB⟩ := hrel
              cases gk with
              | zero => exact absurd HA.out (by simp [impl_firstLoop.l1])
              | succ k2 =>
                have H := HA.out
                clear HA
                simp only [impl_firstLoop.l1] at H
                by_cases c10 : x19_2 < (a0.size : Int)
                · rw [if_pos c10] at H
                  have c10b0 : decide (x19_2 < (a0.size : Int)) = true := decide_eq_true c10
                  clear c10
                  by_cases c11 : 0 ≤ x19_2
                  · rw [if_pos c11] at H
                    have c11b0 := eq_true c11
                    have c11b1 : decide (0 ≤ x19_2) = true := decide_eq_true c11
                    clear c11
                    by_cases c12 : x19_2 ≤ ((rdOf ByteArray.empty y134 x13_1).size : Int)
                    · rw [if_pos c12] at H
                      have c12b0 := eq_true c12
                      have c12b1 : decide (x19_2 ≤ ((rdOf ByteArray.empty y134 x13_1).size : Int)) = true := decide_eq_true c12
                      clear c12
                      have c13b0 := eq_true (of_decide_eq_true (by first | (with_reducible assumption) | assumption) : 0 ≤ x19_2)
                      have c14b0 := eq_true (of_decide_eq_true (by first | (with_reducible assumption) | assumption) : x19_2 ≤ ((rdOf ByteArray.empty y134 x13_1).size : Int))
                      by_cases c15 : ((rdOf ByteArray.empty y134 x13_1).extract (x19_2 : Int).toNat (rdOf ByteArray.empty y134 x13_1).size).size + ((rdOf ByteArray.empty y134 x13_1).extract 0 (x19_2 : Int).toNat).size ≤ 9223372036854775807
                      · rw [if_pos c15] at H
                        have c15b0 := eq_true c15
                        have c15b1 : decide (((rdOf ByteArray.empty y134 x13_1).extract (x19_2 : Int).toNat (rdOf ByteArray.empty y134 x13_1).size).size + ((rdOf ByteArray.empty y134 x13_1).extract 0 (x19_2 : Int).toNat).size ≤ 9223372036854775807) = true := decide_eq_true c15
                        try have c15b2 : (9223372036854775807 < ((rdOf ByteArray.empty y134 x13_1).extract (x19_2 : Int).toNat (rdOf ByteArray.empty y134 x13_1).size).size + ((rdOf ByteArray.empty y134 x13_1).extract 0 (x19_2 : Int).toNat).size) = False := eq_false (Nat.not_lt.2 c15)
                        try have c15b4 : (9223372036854775807 < (rdOf ByteArray.empty y134 x13_1).size) = False := eq_false (by have h1_ := c15; rw [ByteArray.size_extract, ByteArray.size_extract] at h1_; omega)
                        replace H := Option.bind_eq_some_iff.mp H
                        obtain ⟨t138, A160, H⟩ := H
                        replace H : (impl_firstLoop.l1 k2 a0 (Lib.minS x3_2 t138) (rdOf ByteArray.empty y134 x13_1) y134 (y134.length : Int) x13_1 (a0.size : Int) (wrap64 (x19_2 + 1))) = some r := H
                        have A16 := Aside0.mk A160
                        clear A160
                        have H' := Aside0.mk H
                        clear H
                        try go_wp2
                        have n0_ := Aside0.mk (Kd.R_drew HO_11.out)
                        have n1_ := Aside0.mk (below_drew1 HB.out)
                        clear HO_11
                        clear HB
                        have HO_11 := n0_
                        have HB := n1_
                        clear n0_ n1_
                        refine start_ (n := 11) (S := fun w' => True) (ds := []) #[false, false, false, false, false, false, false, false, false, false, false] (by kernel_rfl) rfl rfl trivial (fun hHeld => ?_); refine with_tabW impl_firstLoop.tab8 impl_firstLoop.bits8 (fun HT_ HW_ => ?_)
                        generalize wr.drew = w17 at HO_11 HB hHeld ⊢
                        refine pure_ (i := 0) (N := some 22) (v := ?_) (a' := ?_) #[true, false, false, false, false, false, false, false, false, false, false] rfl rfl (any_of HT_.out (by kernel_rfl)) (fun _ _ _ h => h) (Or.inl ⟨by rfl, ?_⟩) ?_ ?_
                        rotate_left
                        · intro w'
                          go_simp
                          with_reducible rfl
                        rotate_left
                        · simp only [Act.put, List.setIfInBounds_toArray, List.set_cons_zero, List.set_cons_succ, i64_w, i32_w]
                          rfl
                        refine pure_ (i := 1) (N := some 23) (v := ?_) (a' := ?_) #[true, true, false, false, false, false, false, false, false, false, false] rfl rfl (any_of HT_.out (by kernel_rfl)) (fun _ _ _ h => h) (Or.inl ⟨by rfl, ?_⟩) ?_ ?_
                        rotate_left
                        · intro w'
                          go_simp
                          with_reducible rfl
                        rotate_left
                        · simp only [Act.put, List.setIfInBounds_toArray, List.set_cons_zero, List.set_cons_succ, i64_w, i32_w]
                          rfl
                        refine pure_ (i := 2) (N := some 24) (v := ?_) (a' := ?_) #[true, true, true, false, false, false, false, false, false, false, false] rfl rfl (any_of HT_.out (by kernel_rfl)) (fun _ _ _ h => h) (Or.inl ⟨by rfl, ?_⟩) ?_ ?_
                        rotate_left
                        · intro w'
                          go_simp
                          with_reducible rfl
                        rotate_left
                        · simp only [Act.put, List.setIfInBounds_toArray, List.set_cons_zero, List.set_cons_succ, i64_w, i32_w]
                          rfl
                        refine pure_ (i := 3) (N := some 25) (v := ?_) (a' := ?_) #[true, true, true, true, false, false, false, false, false, false, false] rfl rfl (any_of HT_.out (by kernel_rfl)) (fun _ _ _ h => h) (Or.inl ⟨by rfl, ?_⟩) ?_ ?_
                        rotate_left
                        · intro w'
                          go_simp
                          with_reducible rfl
                        rotate_left
                        · simp only [Act.put, List.setIfInBounds_toArray, List.set_cons_zero, List.set_cons_succ, i64_w, i32_w]
                          rfl
                        refine pure_ (i := 4) (N := some 26) (v := ?_) (a' := ?_) #[true, true, true, true, true, false, false, false, false, false, false] rfl rfl (any_of HT_.out (by kernel_rfl)) (fun _ _ _ h => h) (Or.inl ⟨by rfl, ?_⟩) ?_ ?_
                        rotate_left
                        · intro w'
                          go_simp
                          with_reducible rfl
                        rotate_left
                        · simp only [Act.put, List.setIfInBounds_toArray, List.set_cons_zero, List.set_cons_succ, i64_w, i32_w]
                          rfl
                        refine pure_ (i := 5) (N := some 27) (v := ?_) (a' := ?_) #[true, true, true, true, true, true, false, false, false, false, false] rfl rfl (any_of HT_.out (by kernel_rfl)) (fun _ _ _ h => h) (Or.inl ⟨by rfl, ?_⟩) ?_ ?_
                        rotate_left
                        · intro w'
                          go_simp
                          with_reducible rfl
                        rotate_left
                        · simp only [Act.put, List.setIfInBounds_toArray, List.set_cons_zero, List.set_cons_succ, i64_w, i32_w]
                          rfl
                        refine pure_ (i := 6) (N := some 28) (v := ?_) (a' := ?_) #[true, true, true, true, true, true, true, false, false, false, false] rfl rfl (any_of HT_.out (by kernel_rfl)) (fun _ _ _ h => h) (Or.inl ⟨by rfl, ?_⟩) ?_ ?_
                        rotate_left
                        · intro w'
                          go_simp
                          with_reducible rfl
                        rotate_left
                        · simp only [Act.put, List.setIfInBounds_toArray, List.set_cons_zero, List.set_cons_succ, i64_w, i32_w]
                          rfl
                        refine pure_ (i := 7) (N := some 29) (v := ?_) (a' := ?_) #[true, true, true, true, true, true, true, true, false, false, false] rfl rfl (any_of HT_.out (by kernel_rfl)) (fun _ _ _ h => h) (Or.inl ⟨by rfl, ?_⟩) ?_ ?_
                        rotate_left
                        · intro w'
                          go_simp
                          with_reducible rfl
                        rotate_left
                        · simp only [Act.put, List.setIfInBounds_toArray, List.set_cons_zero, List.set_cons_succ, i64_w, i32_w]
                          rfl
                        refine one_ (i := 8) (N := some 30) #[true, true, true, true, true, true, true, true, true, false, false] rfl rfl (one_of HT_.out (by kernel_rfl)) (by decide) (fun K hK => ?_)
                        refine goes_ Tryz.func63 (by kernel_rfl) rfl #[.string (((rdOf ByteArray.empty y134 x13_1).extract (x19_2 : Int).toNat (rdOf ByteArray.empty y134 x13_1).size) ++ ((rdOf ByteArray.empty y134 x13_1).extract 0 (x19_2 : Int).toNat))] (by rfl) rfl rfl (by (try simp only [List.map_toArray, List.map_cons, List.map_nil]); first | done | rfl | (simp only [List.length_drop, List.length_take]; rfl)) ?_
                        with_reducible refine (impl_named.calls k2 (((rdOf ByteArray.empty y134 x13_1).extract (x19_2 : Int).toNat (rdOf ByteArray.empty y134 x13_1).size) ++ ((rdOf ByteArray.empty y134 x13_1).extract 0 (x19_2 : Int).toNat)) t138 _ A16.out).mono ?_
                        rintro e w18 ⟨rfl, hb⟩
                        refine ⟨_, rfl, ?_⟩
                        have n0_ := Aside0.mk (Kd.R_below (by (with_reducible repeat (first | apply Kd.R_alloc | apply Kd.R_drewN | apply Kd.R_drew)); exact HO_11.out) hb)
                        have n1_ := Aside0.mk (below_step (by repeat (first | (with_reducible first | exact HB.out | apply below_alloc | apply pw_below_drewN | apply below_drew1) | exact HB.out)) hb)
                        clear HO_11
                        clear HB
                        have HO_11 := n0_
                        have HB := n1_
                        clear n0_ n1_
                        (try clear hb)
                        (try clear hb2)
                        (try clear hk)
                        (try clear hi)
                        refine hK.out _ _ trivial (fun hHeld => ?_)
                        clear hK K
                        refine norm_ (a' := ?_) ?_ ?_
                        rotate_left
                        · show Act.put _ (some 30) _ = _
                          simp only [Act.put, List.setIfInBounds_toArray, List.set_cons_zero, List.set_cons_succ, i64_w, i32_w]
                          rfl
                        refine pure_ (i := 9) (N := some 31) (v := ?_) (a' := ?_) #[true, true, true, true, true, true, true, true, true, true, false] rfl rfl (any_of HT_.out (by kernel_rfl)) (fun _ _ _ h => h) (Or.inl ⟨by rfl, ?_⟩) ?_ ?_
                        rotate_left
                        · intro w'
                          go_simp
                          with_reducible rfl
                        rotate_left
                        · simp only [Act.put, List.setIfInBounds_toArray, List.set_cons_zero, List.set_cons_succ, i64_w, i32_w]
                          rfl
                        refine pure_ (i := 10) (N := some 3) (v := ?_) (a' := ?_) #[true, true, true, true, true, true, true, true, true, true, true] rfl rfl (any_of HT_.out (by kernel_rfl)) (fun _ _ _ h => h) (Or.inl ⟨by rfl, ?_⟩) ?_ ?_
                        rotate_left
                        · intro w'
                          go_simp
                          with_reducible rfl
                        rotate_left
                        · simp only [Act.put, List.setIfInBounds_toArray, List.set_cons_zero, List.set_cons_succ, i64_w, i32_w]
                          rfl
                        refine done_ (done_of HT_.out (by kernel_rfl)) ?_
                        try go_wp2
                        go_roundg k2
                        case measure => have := HK1.out; have := HK2.out; omega
                        case rel => exact ⟨(Lib.minS x3_2 t138), (wrap64 (x19_2 + 1)), (by first | rfl | (simp; done) | (simp [*]; done)), (by first | rfl | (simp; done) | (simp [*]; done)), H', ⟨by have := HK1.out; have := HK2.out; omega⟩, ⟨by (with_reducible repeat (first | apply Kd.R_alloc | apply Kd.R_drewN | apply Kd.R_drew)); exact HO_11.out⟩, ⟨by repeat (first | (with_reducible first | exact HB.out | apply below_alloc | apply pw_below_drewN | apply below_drew1) | exact HB.out)⟩⟩
                      · rw [if_neg c15] at H
                        exact absurd H (by simp)
                    · rw [if_neg c12] at H
                      exact absurd H (by simp)
                  · rw [if_neg c11] at H
                    exact absurd H (by simp)
                · rw [if_neg c10] at H
                  have c10b0 : decide (x19_2 < (a0.size : Int)) = false := decide_eq_false c10
                  clear c10
                  have H' := Aside0.mk H
                  clear H
                  go_wp2
                  go_roundg k2
                  case measure => have := HK1.out; have := HK2.out; omega
                  case rel => exact ⟨(x3_2), (wrap64 (x13_1 + 1)), (by first | rfl | (simp; done) | (simp [*]; done)), (by first | rfl | (simp; done) | (simp [*]; done)), H', ⟨by have := HK1.out; have := HK2.out; omega⟩, ⟨by (with_reducible repeat (first | apply Kd.R_alloc | apply Kd.R_drewN | apply Kd.R_drew)); exact HO_11.out⟩, ⟨by repeat (first | (with_reducible first | exact HB.out | apply below_alloc | apply pw_below_drewN | apply below_drew1) | exact HB.out)⟩⟩
          · rw [if_neg c9] at H
            exact absurd H (by simp)
        · rw [if_neg c8] at H
          exact absurd H (by simp)
      · rw [if_neg c7] at H
        have c7b0 : decide (x13_1 < (y134.length : Int)) = false := decide_eq_false c7
        clear c7
        obtain rfl := Option.some.inj H
        go_wp2
        go_ret
        exact ⟨by first | rfl | (simp [errW_none, errW_some] <;> rfl) | (simp [*, errW_none, errW_some] <;> rfl), by repeat (first | (with_reducible first | exact HB.out | apply below_alloc | apply pw_below_drewN | apply below_drew1) | exact HB.out)⟩

end Go.Proofs.YtcgoaipbfnhjhaaGreatDoor.Pr

-- Written by a program for this claim.
namespace Go.Proofs.YtcgoaipbfnhjhaaGreatDoor.Pr
open Go.RowKit Go.Proofs.YtcgoaipbfnhjhaaGreatDoorW.PrintWords Go.Proofs.YtcgoaipbfnhjhaaGreatDoorW.PrintLast Go.Proofs.YtcgoaipbfnhjhaaGreatDoorW.PrintMore
attribute [local go_sem] max2_int min2_int max_two min_two max_three min_three max_four min_four   -- for this text's walks alone
set_option linter.unusedVariables false
set_option linter.unusedSimpArgs false

/-! ### impl_FirstLoop: function 28 -/
def impl_FirstLoop.f (k : Nat) (a0 : ByteArray) : Option (ByteArray × Bool) := (impl_IsLoop.f k a0).bind fun t139 => (if t139 = true then ((impl_firstLoop.f k a0).bind fun t140 => (some (t140, true))) else (some ((⟨#[]⟩ : ByteArray), false)))
theorem impl_FirstLoop.mono : ∀ a0 k, LeO (impl_FirstLoop.f k a0) (impl_FirstLoop.f (k + 1) a0) := by
  intro a0 k
  unfold impl_FirstLoop.f
  repeat' first
      | (with_reducible exact impl_IsLoop.mono _ _)
      | (with_reducible exact impl_firstLoop.mono _ _)
      | (with_reducible exact LeO.refl _)
      | (with_reducible exact LeO.none _)
      | (with_reducible refine LeO.ite ?_ ?_)
      | (with_reducible refine LeO.bind ?_ (fun _ => ?_))
      | exact impl_IsLoop.mono _ _
      | exact impl_firstLoop.mono _ _
      | exact LeO.none _
      | refine LeO.ite ?_ ?_
      | refine LeO.bind ?_ (fun _ => ?_)
set_option maxHeartbeats 8000000 in
set_option maxRecDepth 100000 in
theorem impl_FirstLoop.calls (k : Nat) (a0 : ByteArray) (r1 : ByteArray) (r2 : Bool) (w : World) (h : impl_FirstLoop.f k a0 = some (r1, r2)) :
    Calls Tryz.prog 28 #[.string a0] w fun e w' => e = .returned (.tuple #[.string r1, .bool r2]) ∧ Below w.heap.size w w' := by
  have HB := Aside0.mk (Below.refl w.heap.size w)
  have H : ((impl_IsLoop.f k a0).bind fun t139 => (if t139 = true then ((impl_firstLoop.f k a0).bind fun t140 => (some (t140, true))) else (some ((⟨#[]⟩ : ByteArray), false)))) = some (r1, r2) := h
  clear h
  replace H := Option.bind_eq_some_iff.mp H
  obtain ⟨t139, A20, H⟩ := H
  replace H : (if t139 = true then ((impl_firstLoop.f k a0).bind fun t140 => (some (t140, true))) else (some ((⟨#[]⟩ : ByteArray), false))) = some (r1, r2) := H
  have A2 := Aside0.mk A20
  clear A20
  by_cases c3 : t139 = true
  · subst c3
    have H1 : ((impl_firstLoop.f k a0).bind fun t140 => (some (t140, true))) = some (r1, r2) := by rw [if_pos rfl] at H; exact H
    clear H
    have H := H1
    clear H1
    replace H := Option.bind_eq_some_iff.mp H
    obtain ⟨t140, A40, H⟩ := H
    replace H : (some (t140, true)) = some (r1, r2) := H
    have A4 := Aside0.mk A40
    clear A40
    simp only [Option.some.injEq, Prod.mk.injEq] at H
    obtain ⟨rfl, rfl⟩ := H
    go_enter Tryz.func28, Tryz.ntmps28
    go_wp2_with (first | ((with_reducible refine gate_callee (f := 12) rfl ?_); refine goesL_ (some 5) rfl rfl Tryz.func12 (by kernel_rfl) rfl #[.string a0] rfl (by (try simp only [List.map_toArray, List.map_cons, List.map_nil]); first | done | rfl | (simp only [List.length_drop, List.length_take]; rfl)) ?_; (with_reducible refine (impl_IsLoop.calls k a0 true _ A2.out).mono ?_); rintro e w5 ⟨rfl, hb⟩; refine ⟨_, rfl, ?_⟩; have n0_ := Aside0.mk (below_step (by repeat (first | (with_reducible first | exact HB.out | apply below_alloc | apply pw_below_drewN | apply below_drew1) | exact HB.out)) hb); clear HB; have HB := n0_; clear n0_; (try clear hb); (try clear hb2); (try clear hk); (try clear hi)) | ((with_reducible refine gate_callee (f := 76) rfl ?_); refine goesL_ (some 8) rfl rfl Tryz.func76 (by kernel_rfl) rfl #[.string a0] rfl (by (try simp only [List.map_toArray, List.map_cons, List.map_nil]); first | done | rfl | (simp only [List.length_drop, List.length_take]; rfl)) ?_; (with_reducible refine (impl_firstLoop.calls k a0 t140 _ A4.out).mono ?_); rintro e w6 ⟨rfl, hb⟩; refine ⟨_, rfl, ?_⟩; have n0_ := Aside0.mk (below_step (by repeat (first | (with_reducible first | exact HB.out | apply below_alloc | apply pw_below_drewN | apply below_drew1) | exact HB.out)) hb); clear HB; have HB := n0_; clear n0_; (try clear hb); (try clear hb2); (try clear hk); (try clear hi)))
    go_ret2
    exact ⟨by first | rfl | (simp [errW_none, errW_some] <;> rfl) | (simp [*, errW_none, errW_some] <;> rfl), by repeat (first | (with_reducible first | exact HB.out | apply below_alloc | apply pw_below_drewN | apply below_drew1) | exact HB.out)⟩
  · replace c3 := Bool.eq_false_iff.mpr c3
    subst c3
    have H1 : (some ((⟨#[]⟩ : ByteArray), false)) = some (r1, r2) := by rw [if_neg (show ¬ (false = true) by decide)] at H; exact H
    clear H
    have H := H1
    clear H1
    simp only [Option.some.injEq, Prod.mk.injEq] at H
    obtain ⟨rfl, rfl⟩ := H
    go_enter Tryz.func28, Tryz.ntmps28
    go_wp2_with (first | ((with_reducible refine gate_callee (f := 12) rfl ?_); refine goesL_ (some 5) rfl rfl Tryz.func12 (by kernel_rfl) rfl #[.string a0] rfl (by (try simp only [List.map_toArray, List.map_cons, List.map_nil]); first | done | rfl | (simp only [List.length_drop, List.length_take]; rfl)) ?_; (with_reducible refine (impl_IsLoop.calls k a0 false _ A2.out).mono ?_); rintro e w7 ⟨rfl, hb⟩; refine ⟨_, rfl, ?_⟩; have n0_ := Aside0.mk (below_step (by repeat (first | (with_reducible first | exact HB.out | apply below_alloc | apply pw_below_drewN | apply below_drew1) | exact HB.out)) hb); clear HB; have HB := n0_; clear n0_; (try clear hb); (try clear hb2); (try clear hk); (try clear hi)))
    go_ret2
    exact ⟨by first | rfl | (simp [errW_none, errW_some] <;> rfl) | (simp [*, errW_none, errW_some] <;> rfl), by repeat (first | (with_reducible first | exact HB.out | apply below_alloc | apply pw_below_drewN | apply below_drew1) | exact HB.out)⟩

end Go.Proofs.YtcgoaipbfnhjhaaGreatDoor.Pr

-- Written by a program for this claim.
namespace Go.Proofs.YtcgoaipbfnhjhaaGreatDoor.Pr
open Go.RowKit Go.Proofs.YtcgoaipbfnhjhaaGreatDoorW.PrintWords Go.Proofs.YtcgoaipbfnhjhaaGreatDoorW.PrintLast Go.Proofs.YtcgoaipbfnhjhaaGreatDoorW.PrintMore
attribute [local go_sem] max2_int min2_int max_two min_two max_three min_three max_four min_four   -- for this text's walks alone
set_option linter.unusedVariables false
set_option linter.unusedSimpArgs false

/-! ### spec_loBack: function 74 -/
def spec_loBack.l0 : Nat → ByteArray → ByteArray → Int → Option (ByteArray)
  | 0, _, _, _ => none
  | k + 1, x0, x3, x4 => if x4 ≥ 0 then (if 0 ≤ x4 then (if x4 ≤ (wrap64 (x4 + 1)) then (if (wrap64 (x4 + 1)) ≤ (x0.size : Int) then (if x3.size + (x0.extract (x4 : Int).toNat ((wrap64 (x4 + 1)) : Int).toNat).size ≤ 9223372036854775807 then (spec_loBack.l0 k x0 (x3 ++ (x0.extract (x4 : Int).toNat ((wrap64 (x4 + 1)) : Int).toNat)) (wrap64 (x4 - 1))) else (none)) else (none)) else (none)) else (none)) else ((spec_loAnew.f k x3).bind fun t160 => (some t160))
def spec_loBack.f (k : Nat) (a0 : ByteArray) : Option (ByteArray) := spec_loBack.l0 k a0 (⟨#[]⟩ : ByteArray) (wrap64 ((a0.size : Int) - 1))
theorem spec_loBack.mono_l : ∀ k, (∀ y0 y1 y2, LeO (spec_loBack.l0 k y0 y1 y2) (spec_loBack.l0 (k + 1) y0 y1 y2))
  | 0 => fun _ _ _ r h => by simp [spec_loBack.l0] at h
  | k + 1 => by
    have ih0 := spec_loBack.mono_l k
    · intro y0 y1 y2
      unfold spec_loBack.l0
      repeat' first
      | (with_reducible exact ih0 _ _ _)
      | (with_reducible exact spec_loAnew.mono _ _)
      | (with_reducible exact LeO.refl _)
      | (with_reducible exact LeO.none _)
      | (with_reducible refine LeO.ite ?_ ?_)
      | (with_reducible refine LeO.bind ?_ (fun _ => ?_))
      | exact ih0 _ _ _
      | exact spec_loAnew.mono _ _
      | exact LeO.none _
      | refine LeO.ite ?_ ?_
      | refine LeO.bind ?_ (fun _ => ?_)
theorem spec_loBack.mono : ∀ a0 k, LeO (spec_loBack.f k a0) (spec_loBack.f (k + 1) a0) := by
  intro a0 k
  have ih0 := spec_loBack.mono_l k
  unfold spec_loBack.f
  repeat' first
      | (with_reducible exact ih0 _ _ _)
      | (with_reducible exact spec_loAnew.mono _ _)
      | (with_reducible exact LeO.refl _)
      | (with_reducible exact LeO.none _)
      | (with_reducible refine LeO.ite ?_ ?_)
      | (with_reducible refine LeO.bind ?_ (fun _ => ?_))
      | exact ih0 _ _ _
      | exact spec_loAnew.mono _ _
      | exact LeO.none _
      | refine LeO.ite ?_ ?_
      | refine LeO.bind ?_ (fun _ => ?_)
set_option maxHeartbeats 8000000 in
set_option maxRecDepth 100000 in
theorem spec_loBack.calls (k : Nat) (a0 : ByteArray) (r : ByteArray) (w : World) (h : spec_loBack.f k a0 = some r) :
    Calls Tryz.prog 74 #[.string a0] w fun e w' => e = .returned (.string r) ∧ Drawn0 w w' := by
  have H : (spec_loBack.l0 k a0 (⟨#[]⟩ : ByteArray) (wrap64 ((a0.size : Int) - 1))) = some r := h
  clear h
  have H' := Aside0.mk H
  clear H
  go_enter Tryz.func74, Tryz.ntmps74
  go_wp2
  go_loopg [3, 4] k (fun kq v3 v4 w' => ∃ (x3_1 : ByteArray) (x4_1 : Int), v3 = .string x3_1 ∧ v4 = .int .i64 x4_1 ∧ Aside0 (spec_loBack.l0 kq a0 x3_1 x4_1 = some r) ∧ Aside0 (kq ≤ k) ∧ Drawn0 w w')
  case atStart => exact ⟨((⟨#[]⟩ : ByteArray)), (wrap64 ((a0.size : Int) - 1)), (by first | rfl | (simp; done) | (simp [*]; done)), (by first | rfl | (simp; done) | (simp [*]; done)), H', ⟨Nat.le_refl _⟩, by repeat (first | exact Drawn0.refl _ | apply Drawn0.step)⟩
  case round =>
    clear H'
    obtain ⟨x3_1, x4_1, rfl, rfl, HA, HK1, ⟨m1, rfl⟩⟩ := hrel
    cases gk with
    | zero => exact absurd HA.out (by simp [spec_loBack.l0])
    | succ k1 =>
      have H := HA.out
      clear HA
      simp only [spec_loBack.l0] at H
      by_cases c2 : x4_1 ≥ 0
      · rw [if_pos c2] at H
        have c2b0 : decide (0 ≤ x4_1) = true := decide_eq_true c2
        clear c2
        by_cases c3 : 0 ≤ x4_1
        · rw [if_pos c3] at H
          have c3b0 := eq_true c3
          have c3b1 : decide (0 ≤ x4_1) = true := decide_eq_true c3
          clear c3
          by_cases c4 : x4_1 ≤ (wrap64 (x4_1 + 1))
          · rw [if_pos c4] at H
            have c4b0 := eq_true c4
            have c4b1 : decide (x4_1 ≤ (wrap64 (x4_1 + 1))) = true := decide_eq_true c4
            by_cases c5 : (wrap64 (x4_1 + 1)) ≤ (a0.size : Int)
            · rw [if_pos c5] at H
              have c5b0 := eq_true c5
              have c5b1 : decide ((wrap64 (x4_1 + 1)) ≤ (a0.size : Int)) = true := decide_eq_true c5
              by_cases c6 : x3_1.size + (a0.extract (x4_1 : Int).toNat ((wrap64 (x4_1 + 1)) : Int).toNat).size ≤ 9223372036854775807
              · rw [if_pos c6] at H
                have c6b0 := eq_true c6
                have c6b1 : decide (x3_1.size + (a0.extract (x4_1 : Int).toNat ((wrap64 (x4_1 + 1)) : Int).toNat).size ≤ 9223372036854775807) = true := decide_eq_true c6
                try have c6b2 : (9223372036854775807 < x3_1.size + (a0.extract (x4_1 : Int).toNat ((wrap64 (x4_1 + 1)) : Int).toNat).size) = False := eq_false (Nat.not_lt.2 c6)
                have H' := Aside0.mk H
                clear H
                go_wp2
                go_roundg k1
                case measure => have := HK1.out; omega
                case rel => exact ⟨(x3_1 ++ (a0.extract (x4_1 : Int).toNat ((wrap64 (x4_1 + 1)) : Int).toNat)), (wrap64 (x4_1 - 1)), (by first | rfl | (simp; done) | (simp [*]; done)), (by first | rfl | (simp; done) | (simp [*]; done)), H', ⟨by have := HK1.out; omega⟩, by repeat (first | exact Drawn0.refl _ | apply Drawn0.step)⟩
              · rw [if_neg c6] at H
                exact absurd H (by simp)
            · rw [if_neg c5] at H
              exact absurd H (by simp)
          · rw [if_neg c4] at H
            exact absurd H (by simp)
        · rw [if_neg c3] at H
          exact absurd H (by simp)
      · rw [if_neg c2] at H
        have c2b0 : decide (0 ≤ x4_1) = false := decide_eq_false c2
        clear c2
        replace H := Option.bind_eq_some_iff.mp H
        obtain ⟨t160, A70, H⟩ := H
        replace H : (some t160) = some r := H
        have A7 := Aside0.mk A70
        clear A70
        obtain rfl := Option.some.inj H
        go_wp2_with (first | ((with_reducible refine gate_callee (f := 75) rfl ?_); refine goesL_ (some 20) rfl rfl Tryz.func75 (by kernel_rfl) rfl #[.string x3_1] rfl (by (try simp only [List.map_toArray, List.map_cons, List.map_nil]); first | done | rfl | (simp only [List.length_drop, List.length_take]; rfl)) ?_; (with_reducible refine (spec_loAnew.calls k1 x3_1 t160 _ A7.out).mono ?_); rintro e w' ⟨rfl, ⟨nd, rfl⟩⟩; refine ⟨_, rfl, ?_⟩))
        go_ret
        exact ⟨by first | rfl | (simp; done) | (simp [*]; done), by repeat (first | exact Drawn0.refl _ | apply Drawn0.step)⟩

end Go.Proofs.YtcgoaipbfnhjhaaGreatDoor.Pr

/- What the reference's loFirst computes. -/
namespace Go.Proofs.YtcgoaipbfnhjhaaGreatDoor.Pr
open Go.RowKit Go.Proofs.YtcgoaipbfnhjhaaGreatDoorW.PrintWords Go.Proofs.YtcgoaipbfnhjhaaGreatDoorW.PrintLast Go.Proofs.YtcgoaipbfnhjhaaGreatDoorW.PrintMore
set_option linter.unusedVariables false
set_option linter.unusedSimpArgs false

/-- The least of what has been told and of a text's turns, named anew. -/
def turnsF (k : Nat) (s : ByteArray) : Nat → Nat → ByteArray → Option ByteArray
  | 0, _, best => some best
  | d + 1, i, best => (spec_loAnew.f k (s.extract i s.size ++ s.extract 0 i)).bind fun o => turnsF k s d (i + 1) (if Op.bytesLess o.toList best.toList = true then o else best)
/-- What has been told after the turns of each text. -/
def restF (k : Nat) : List ByteArray → ByteArray → Option ByteArray
  | [], best => some best
  | s :: t, best => (turnsF k s s.size 0 best).bind fun m => restF k t m
/-- A short text of plain letters. -/
def asciiB (s : ByteArray) : Bool := decide (s.size ≤ 1000) && (bytesOf s).all fun x => decide (x < 128)
def spec_loFirst.f (k : Nat) (a0 : ByteArray) : Option (ByteArray) :=
  (spec_loBack.f k a0).bind fun b => if asciiB a0 = true ∧ asciiB b = true then ((turnsF k a0 a0.size 0 a0).bind fun best => turnsF k b b.size 0 best) else none
theorem turnsF_mono (s : ByteArray) : ∀ (d i : Nat) (best : ByteArray) (k : Nat), LeO (turnsF k s d i best) (turnsF (k + 1) s d i best)
  | 0, i, best, k => LeO.refl _
  | d + 1, i, best, k => by
    unfold turnsF
    exact LeO.bind (spec_loAnew.mono _ _) (fun o => turnsF_mono s d (i + 1) _ k)
theorem spec_loFirst.mono : ∀ a0 k, LeO (spec_loFirst.f k a0) (spec_loFirst.f (k + 1) a0) := by
  intro a0 k
  unfold spec_loFirst.f
  exact LeO.bind (spec_loBack.mono _ _) (fun b => LeO.ite (LeO.bind (turnsF_mono _ _ _ _ _) (fun _ => turnsF_mono _ _ _ _ _)) (LeO.refl _))
theorem ascii_at {s : ByteArray} (h : asciiB s = true) : s.size ≤ 1000 ∧ ∀ pos (hp : pos < s.size), (s[pos]'hp).toNat < 128 := by
  unfold asciiB at h
  simp only [Bool.and_eq_true, decide_eq_true_eq, List.all_eq_true] at h
  refine ⟨h.1, fun pos hp => ?_⟩
  have h2 := h.2 ((s[pos]'hp).toNat : Int) (by
    unfold bytesOf
    refine List.mem_map.2 ⟨s[pos]'hp, ?_, rfl⟩
    rw [Array.mem_toList_iff]
    exact Array.getElem_mem hp)
  omega
theorem cell_iter {w : World} {k g j : Nat} {s : ByteArray} {pos : Nat} (h : g ≠ k) : (w.iterAt k s pos).cell? ⟨g, j, none⟩ = w.cell? ⟨g, j, none⟩ := by
  have h2 := Lib.iterAt_other w k g s pos h
  unfold World.cell?
  simp only [h2]

set_option maxHeartbeats 8000000 in
set_option maxRecDepth 100000 in
theorem spec_loFirst.calls (k : Nat) (a0 : ByteArray) (r : ByteArray) (w : World) (h : spec_loFirst.f k a0 = some r) :
    Calls Tryz.prog 77 #[.string a0] w fun e w' => e = .returned (.string r) ∧ Below w.heap.size w w' := by
  obtain ⟨b, hb, h⟩ := Option.bind_eq_some_iff.mp h
  by_cases hA : asciiB a0 = true ∧ asciiB b = true
  · rw [if_pos hA] at h
    obtain ⟨best1, h1, h2⟩ := Option.bind_eq_some_iff.mp h
    have HBk := Aside0.mk (fun (W : World) => spec_loBack.calls k a0 b W hb)
    have HA := Aside0.mk hA
    have H1 := Aside0.mk h1
    have H2 := Aside0.mk h2
    clear h hb hA h1 h2
    go_enter Tryz.func77, Tryz.ntmps77
    go_wp2_with (go_at_call 74; refine (HBk.out _).mono ?_; rintro e w' ⟨rfl, ⟨nd, rfl⟩⟩)
    generalize hB0 : w.heap.size = B0
    have hsz : ((w.drewN nd).alloc (.cells #[.string a0, .string b] 9)).heap.size = B0 + 1 := by rw [← hB0]; simp [World.alloc]
    have hB : Below B0 w ((w.drewN nd).alloc (.cells #[.string a0, .string b] 9)) := by
      have h0 : Below w.heap.size w ((w.drewN nd).alloc (.cells #[.string a0, .string b] 9)) := below_alloc (pw_below_drewN (Below.refl _ _) nd) _
      rwa [hB0] at h0
    have hC : ∀ (j : Nat) (s : ByteArray), [a0, b][j]? = some s → ((w.drewN nd).alloc (.cells #[.string a0, .string b] 9)).cell? ⟨B0, j, none⟩ = some (.string s) := by
      intro j s hj
      have hz : (w.drewN nd).heap.size = B0 := hB0
      match j, hj with
      | 0, hj => 
        injection hj with hj
        subst hj
        simp [World.cell?, World.alloc, ← hz]
      | 1, hj => 
        injection hj with hj
        subst hj
        simp [World.cell?, World.alloc, ← hz]
      | j + 2, hj => simp at hj
    have HS := Aside0.mk (fun (j : Nat) (s : ByteArray) (hj : [a0, b][j]? = some s) => (show asciiB s = true by
      match j, hj with
      | 0, hj => injection hj with hj; subst hj; exact HA.out.1
      | 1, hj => injection hj with hj; subst hj; exact HA.out.2
      | j + 2, hj => simp at hj))
    have HR := Aside0.mk (show restF k ([a0, b].drop 0) a0 = some r by
      show (turnsF k a0 a0.size 0 a0).bind (fun m => (turnsF k b b.size 0 m).bind fun m => some m) = some r
      rw [H1.out]
      show (turnsF k b b.size 0 best1).bind (fun m => some m) = some r
      rw [H2.out]
      rfl)
    have HC := Aside0.mk hC
    have HB := Aside0.mk hB
    have HZ := Aside0.mk (show B0 < ((w.drewN nd).alloc (.cells #[.string a0, .string b] 9)).heap.size by rw [hsz]; omega)
    clear hsz hB hC HA H1 H2 HBk
    generalize hW : (w.drewN nd).alloc (.cells #[.string a0, .string b] 9) = W0 at HC HB HZ ⊢
    clear hW
    go_loopg [3, 14] 2 (fun gg v3 v14 w' => ∃ (i : Nat) (best : ByteArray), v3 = .string best ∧ v14 = .int .i64 i ∧ Aside0 (i + gg = 2) ∧ Aside0 (restF k ([a0, b].drop i) best = some r) ∧ Aside0 (∀ (j : Nat) (s : ByteArray), [a0, b][j]? = some s → w'.cell? ⟨B0, j, none⟩ = some (.string s)) ∧ Aside0 (Below B0 w w') ∧ Aside0 (B0 < w'.heap.size))
    case atStart => exact ⟨0, a0, rfl, rfl, ⟨by omega⟩, HR, HC, HB, HZ⟩
    case round =>
      obtain ⟨i, best, rfl, rfl, HG, HR1, HC1, HB1, HZ1⟩ := hrel
      clear HR HC HB HZ
      have HR := HR1
      have HC := HC1
      have HB := HB1
      have HZ := HZ1
      clear HR1 HC1 HB1 HZ1
      by_cases hlt : i < 2
      · have c4b0 : decide ((i : Int) < 2) = true := decide_eq_true (by omega)
        have c5b0 : decide (i < 2) = true := decide_eq_true hlt
        obtain ⟨gm, rfl⟩ : ∃ gm, gk = gm + 1 := ⟨gk - 1, by have := HG.out; omega⟩
        obtain ⟨s, hs⟩ : ∃ s, [a0, b][i]? = some s := ⟨[a0, b][i]'(by simpa using hlt), List.getElem?_eq_getElem _⟩
        have h0 := HC.out i s hs
        have hasc := ascii_at (HS.out i s hs)
        have hR1 := HR.out
        rw [List.drop_eq_getElem_cons (by simpa using hlt)] at hR1
        obtain ⟨mid, hm1, hm2⟩ := Option.bind_eq_some_iff.mp hR1
        rw [show [a0, b][i]'(by simpa using hlt) = s from by
          have h5 := hs
          rw [List.getElem?_eq_getElem (by simpa using hlt)] at h5
          injection h5] at hm1
        have HM1 := Aside0.mk hm1
        have HM2 := Aside0.mk hm2
        have HI := Aside0.mk hlt
        have HAS := Aside0.mk hasc
        clear hm1 hm2 hR1 hasc hs HR
        have hlt2 : (i : Int) < 2 := by omega
        have hlt3 : ((2 : Int) ≤ (i : Int)) = False := eq_false (by omega)
        go_wp2
        generalize hK0 : wr.heap.size = K0
        have hIt : (wr.iter s 0).heap[K0]? = some (.stringIter s 0) := by rw [← hK0]; exact World.iter_heap wr s 0
        have hB1 : Below B0 w (wr.iter s 0) := by
          have hz : B0 ≤ wr.heap.size := Nat.le_of_lt HZ.out
          exact HB.out.alloc hz _
        have hC1 : ∀ (j : Nat) (s' : ByteArray), [a0, b][j]? = some s' → (wr.iter s 0).cell? ⟨B0, j, none⟩ = some (.string s') := by
          intro j s' hj
          have h5 := HC.out j s' hj
          have h6 : (wr.iter s 0).heap[B0]? = wr.heap[B0]? := by
            have hz := HZ.out
            have h8 : (wr.iter s 0).heap = wr.heap.push (.stringIter s 0) := rfl
            rw [h8, Array.getElem?_push, if_neg (Nat.ne_of_lt hz)]
          unfold World.cell? at h5 ⊢
          simpa only [h6] using h5
        have hZ1 : B0 < K0 := by rw [← hK0]; exact HZ.out
        have hT1 : turnsF k s (s.size - 0) 0 best = some mid := HM1.out
        have HIt := Aside0.mk hIt
        have HB1 := Aside0.mk hB1
        have HC1 := Aside0.mk hC1
        have HZ1 := Aside0.mk hZ1
        have HT1 := Aside0.mk hT1
        have HL1 := Aside0.mk (show B0 < (wr.iter s 0).heap.size by
          have hz := HZ.out
          have h7 : (wr.iter s 0).heap.size = wr.heap.size + 1 := by
            have h8 : (wr.iter s 0).heap = wr.heap.push (.stringIter s 0) := rfl
            rw [h8, Array.size_push]
          omega)
        clear hK0 hIt hB1 hC1 hZ1 hT1 HM1 HB HC HZ h0
        generalize wr.iter s 0 = W2 at HIt HB1 HC1 HL1 ⊢
        go_loopg [3] s.size (fun gg v3 w' => ∃ (pos : Nat) (bst : ByteArray), v3 = .string bst ∧ Aside0 (pos + gg = s.size) ∧ Aside0 (w'.heap[K0]? = some (.stringIter s pos)) ∧ Aside0 (turnsF k s (s.size - pos) pos bst = some mid) ∧ Aside0 (∀ (j : Nat) (s' : ByteArray), [a0, b][j]? = some s' → w'.cell? ⟨B0, j, none⟩ = some (.string s')) ∧ Aside0 (Below B0 w w') ∧ Aside0 (B0 < w'.heap.size))
        case atStart => exact ⟨0, best, rfl, ⟨by omega⟩, HIt, HT1, HC1, HB1, HL1⟩
        case round =>
          obtain ⟨pos, bst, rfl, HG2, HIt2, HT2, HC2, HB2, HL2⟩ := hrel
          clear HIt HT1 HC1 HB1 HL1
          have HIt := HIt2
          have HT := HT2
          have HC := HC2
          have HB := HB2
          have HL := HL2
          clear HIt2 HT2 HC2 HB2 HL2
          by_cases hp : pos < s.size
          · obtain ⟨gn, rfl⟩ : ∃ gn, gk = gn + 1 := ⟨gk - 1, by have := HG2.out; omega⟩
            have h128 := HAS.out.2 pos hp
            have hnext : ∀ ty, (Instr.next (.pointer (some ⟨K0, 0, none⟩)) true ty).run Tryz.prog wr = _ := fun ty => Lib.run_next_ascii_at wr K0 s pos ty HIt.out hp h128
            have HIt1 := Aside0.mk (Lib.iterAt_heap wr K0 s pos (pos + 1) HIt.out)
            have HBe := Aside0.mk (Lib.below_iterAt HB.out (Nat.le_of_lt HZ1.out) s (pos + 1))
            have HCe := Aside0.mk (fun (j : Nat) (s' : ByteArray) (hj : [a0, b][j]? = some s') => (cell_iter (w := wr) (k := K0) (s := s) (pos := pos + 1) (j := j) (Nat.ne_of_lt HZ1.out)).trans (HC.out j s' hj))
            have HLe := Aside0.mk (show B0 < (wr.iterAt K0 s (pos + 1)).heap.size by rw [Lib.iterAt_size]; exact HL.out)
            clear HIt HB HC HL
            have hsz1 : (pos : Int) ≤ (s.size : Int) := by omega
            have hT3 := HT.out
            rw [show s.size - pos = (s.size - (pos + 1)) + 1 by omega] at hT3
            obtain ⟨o, ho, hT3⟩ := Option.bind_eq_some_iff.mp hT3
            have HO := Aside0.mk (fun (W : World) => (spec_loAnew.calls k _ o W ho).mono (fun e w' h => (⟨h.1, by obtain ⟨m, hm⟩ := h.2; exact ⟨m, hm⟩⟩ : e = .returned (.string o) ∧ ∃ m, w' = W.drewN m)))
            have HT3 := Aside0.mk hT3
            clear hT3 HT ho
            generalize wr.iterAt K0 s (pos + 1) = W3 at hnext HIt1 HBe HCe HLe
            go_wp2
            have hz1 : s.size ≤ 1000 := HAS.out.1
            have hz2 : ¬ 9223372036854775807 < (s.extract pos s.size).size + (s.extract 0 pos).size := by
              rw [ByteArray.size_extract, ByteArray.size_extract]
              omega
            have hz3 : (9223372036854775807 < (s.extract pos s.size).size + (s.extract 0 pos).size) = False := eq_false hz2
            have hz4 : (9223372036854775807 < s.size) = False := eq_false (by omega)
            have hp0 : ((0 : Int) ≤ (pos : Int)) = True := eq_true (by omega)
            have hp1 : ((pos : Int) ≤ (s.size : Int)) = True := eq_true hsz1
            have hp2 : pos ≤ s.size := by omega
            go_quiet ((go_at_call 75; exact Calls.quiet_of (HO.out _)))
            have HN3 := Aside0.mk (show Below B0 w (W3.drewN nq) from pw_below_drewN HBe.out nq)
            by_cases hlt9 : Op.bytesLess o.toList bst.toList = true
            · have HQ := Aside0.mk hlt9
              go_wp2
              go_roundg gn
              case measure => omega
              case rel => exact ⟨pos + 1, o, rfl, ⟨by have := HG2.out; omega⟩, HIt1, ⟨by have h5 := HT3.out; rwa [if_pos HQ.out] at h5⟩, HCe, HN3, HLe⟩
            · have HQ := Aside0.mk hlt9
              go_wp2
              go_roundg gn
              case measure => omega
              case rel => exact ⟨pos + 1, bst, rfl, ⟨by have := HG2.out; omega⟩, HIt1, ⟨by have h5 := HT3.out; rwa [if_neg HQ.out] at h5⟩, HCe, HN3, HLe⟩
          · have hnext : ∀ ty, (Instr.next (.pointer (some ⟨K0, 0, none⟩)) true ty).run Tryz.prog wr = _ := fun ty => Lib.run_next_end_at wr K0 s pos ty HIt.out hp
            have HT4 := Aside0.mk (show bst = mid from by
              have h5 := HT.out
              rw [show s.size - pos = 0 by omega] at h5
              injection h5)
            go_wp2
            go_roundg gm
            case measure => omega
            case rel => exact ⟨i + 1, bst, rfl, rfl, ⟨by have := HG.out; omega⟩, ⟨by rw [HT4.out]; exact HM2.out⟩, HC, HB, HL⟩
      · have c4b0 : decide ((i : Int) < 2) = false := decide_eq_false (by omega)
        have c5b0 : decide (i < 2) = false := decide_eq_false hlt
        have HE := Aside0.mk (show best = r from by
          have h5 := HR.out
          rw [List.drop_of_length_le (by simp; omega)] at h5
          injection h5)
        go_wp2
        go_ret
        exact ⟨by rw [HE.out]; rfl, by rw [hB0]; exact HB.out⟩
  · rw [if_neg hA] at h; cases h
end Go.Proofs.YtcgoaipbfnhjhaaGreatDoor.Pr

-- Written by a program for this claim.
namespace Go.Proofs.YtcgoaipbfnhjhaaGreatDoor.Pr
open Go.RowKit Go.Proofs.YtcgoaipbfnhjhaaGreatDoorW.PrintWords Go.Proofs.YtcgoaipbfnhjhaaGreatDoorW.PrintLast Go.Proofs.YtcgoaipbfnhjhaaGreatDoorW.PrintMore
attribute [local go_sem] max2_int min2_int max_two min_two max_three min_three max_four min_four   -- for this text's walks alone
set_option linter.unusedVariables false
set_option linter.unusedSimpArgs false

/-! ### spec_FirstLoop: function 33 -/
def spec_FirstLoop.f (k : Nat) (a0 : ByteArray) : Option (ByteArray × Bool) := (spec_loGood.f k a0).bind fun t260 => (if t260 = true then ((spec_loFirst.f k a0).bind fun t261 => (some (t261, true))) else (some ((⟨#[]⟩ : ByteArray), false)))
theorem spec_FirstLoop.mono : ∀ a0 k, LeO (spec_FirstLoop.f k a0) (spec_FirstLoop.f (k + 1) a0) := by
  intro a0 k
  unfold spec_FirstLoop.f
  repeat' first
      | (with_reducible exact spec_loFirst.mono _ _)
      | (with_reducible exact spec_loGood.mono _ _)
      | (with_reducible exact LeO.refl _)
      | (with_reducible exact LeO.none _)
      | (with_reducible refine LeO.ite ?_ ?_)
      | (with_reducible refine LeO.bind ?_ (fun _ => ?_))
      | exact spec_loFirst.mono _ _
      | exact spec_loGood.mono _ _
      | exact LeO.none _
      | refine LeO.ite ?_ ?_
      | refine LeO.bind ?_ (fun _ => ?_)
set_option maxHeartbeats 8000000 in
set_option maxRecDepth 100000 in
theorem spec_FirstLoop.calls (k : Nat) (a0 : ByteArray) (r1 : ByteArray) (r2 : Bool) (w : World) (h : spec_FirstLoop.f k a0 = some (r1, r2)) :
    Calls Tryz.prog 33 #[.string a0] w fun e w' => e = .returned (.tuple #[.string r1, .bool r2]) ∧ Below w.heap.size w w' := by
  have HB := Aside0.mk (Below.refl w.heap.size w)
  have H : ((spec_loGood.f k a0).bind fun t260 => (if t260 = true then ((spec_loFirst.f k a0).bind fun t261 => (some (t261, true))) else (some ((⟨#[]⟩ : ByteArray), false)))) = some (r1, r2) := h
  clear h
  replace H := Option.bind_eq_some_iff.mp H
  obtain ⟨t260, A20, H⟩ := H
  replace H : (if t260 = true then ((spec_loFirst.f k a0).bind fun t261 => (some (t261, true))) else (some ((⟨#[]⟩ : ByteArray), false))) = some (r1, r2) := H
  have A2 := Aside0.mk A20
  clear A20
  by_cases c3 : t260 = true
  · subst c3
    have H1 : ((spec_loFirst.f k a0).bind fun t261 => (some (t261, true))) = some (r1, r2) := by rw [if_pos rfl] at H; exact H
    clear H
    have H := H1
    clear H1
    replace H := Option.bind_eq_some_iff.mp H
    obtain ⟨t261, A40, H⟩ := H
    replace H : (some (t261, true)) = some (r1, r2) := H
    have A4 := Aside0.mk A40
    clear A40
    simp only [Option.some.injEq, Prod.mk.injEq] at H
    obtain ⟨rfl, rfl⟩ := H
    go_enter Tryz.func33, Tryz.ntmps33
    go_wp2_with (first | ((with_reducible refine gate_callee (f := 71) rfl ?_); refine goesL_ (some 5) rfl rfl Tryz.func71 (by kernel_rfl) rfl #[.string a0] rfl (by (try simp only [List.map_toArray, List.map_cons, List.map_nil]); first | done | rfl | (simp only [List.length_drop, List.length_take]; rfl)) ?_; (with_reducible refine (spec_loGood.calls k a0 true _ A2.out).mono ?_); rintro e w' ⟨rfl, ⟨nd, rfl⟩⟩; refine ⟨_, rfl, ?_⟩) | ((with_reducible refine gate_callee (f := 77) rfl ?_); refine goesL_ (some 8) rfl rfl Tryz.func77 (by kernel_rfl) rfl #[.string a0] rfl (by (try simp only [List.map_toArray, List.map_cons, List.map_nil]); first | done | rfl | (simp only [List.length_drop, List.length_take]; rfl)) ?_; (with_reducible refine (spec_loFirst.calls k a0 t261 _ A4.out).mono ?_); rintro e w5 ⟨rfl, hb⟩; refine ⟨_, rfl, ?_⟩; have n0_ := Aside0.mk (below_step (by repeat (first | (with_reducible first | exact HB.out | apply below_alloc | apply pw_below_drewN | apply below_drew1) | exact HB.out)) hb); clear HB; have HB := n0_; clear n0_; (try clear hb); (try clear hb2); (try clear hk); (try clear hi)))
    go_ret2
    exact ⟨by first | rfl | (simp [errW_none, errW_some] <;> rfl) | (simp [*, errW_none, errW_some] <;> rfl), by repeat (first | (with_reducible first | exact HB.out | apply below_alloc | apply pw_below_drewN | apply below_drew1) | exact HB.out)⟩
  · replace c3 := Bool.eq_false_iff.mpr c3
    subst c3
    have H1 : (some ((⟨#[]⟩ : ByteArray), false)) = some (r1, r2) := by rw [if_neg (show ¬ (false = true) by decide)] at H; exact H
    clear H
    have H := H1
    clear H1
    simp only [Option.some.injEq, Prod.mk.injEq] at H
    obtain ⟨rfl, rfl⟩ := H
    go_enter Tryz.func33, Tryz.ntmps33
    go_wp2_with (first | ((with_reducible refine gate_callee (f := 71) rfl ?_); refine goesL_ (some 5) rfl rfl Tryz.func71 (by kernel_rfl) rfl #[.string a0] rfl (by (try simp only [List.map_toArray, List.map_cons, List.map_nil]); first | done | rfl | (simp only [List.length_drop, List.length_take]; rfl)) ?_; (with_reducible refine (spec_loGood.calls k a0 false _ A2.out).mono ?_); rintro e w' ⟨rfl, ⟨nd, rfl⟩⟩; refine ⟨_, rfl, ?_⟩))
    go_ret2
    exact ⟨by first | rfl | (simp [errW_none, errW_some] <;> rfl) | (simp [*, errW_none, errW_some] <;> rfl), by repeat (first | (with_reducible first | exact HB.out | apply below_alloc | apply pw_below_drewN | apply below_drew1) | exact HB.out)⟩

end Go.Proofs.YtcgoaipbfnhjhaaGreatDoor.Pr

/- What the program's CurlsOf computes. -/
namespace Go.Proofs.YtcgoaipbfnhjhaaGreatDoor.Pr
open Go.RowKit Go.Proofs.YtcgoaipbfnhjhaaGreatDoorW.PrintWords Go.Proofs.YtcgoaipbfnhjhaaGreatDoorW.PrintLast Go.Proofs.YtcgoaipbfnhjhaaGreatDoorW.PrintMore
set_option linter.unusedVariables false
set_option linter.unusedSimpArgs false

/-- Whether the two places of a letter lie side by side. -/
def curlB (w : ByteArray) (c : Int) : Bool :=
  let d := Lib.lastIndexByte w c - Lib.indexByte w.data.toList c.toNat.toUInt8
  d == 1 || d == (w.size : Int) - 1

theorem last_range (s : ByteArray) (c : Int) : -1 ≤ Lib.lastIndexByte s c ∧ Lib.lastIndexByte s c < (s.size : Int) := by
  unfold Lib.lastIndexByte
  rcases Lib.lastIdx_spec s c s.size with ⟨h, _⟩ | ⟨i, h1, h2, _⟩
  · omega
  · omega
theorem index_lt : ∀ (l : List UInt8) (c : UInt8), Lib.indexByte l c < (l.length : Int) + (if l = [] then 0 else 0)
  | [], _ => by simp [Lib.indexByte]
  | b :: l, c => by
    have ih := index_lt l c
    unfold Lib.indexByte
    simp only [ite_self, Int.add_zero] at ih ⊢
    rw [List.length_cons]
    split
    · omega
    · split
      · omega
      · omega

set_option maxHeartbeats 4000000 in
theorem curl_pred (w0 : ByteArray) (hs : w0.size ≤ 1000000) (B : Nat) (w : World) (hB : B < w.heap.size) (hcell : w.cell? ⟨B, 0, none⟩ = some (.string w0)) (W : World) (x : Int) (hb : Below w.heap.size w W) :
    Calls Tryz.prog 83 (#[.int .u8 x] ++ #[.pointer (some ⟨B, 0, none⟩)]) W fun e w' => e = .returned (.bool (curlB w0 x)) ∧ Below W.heap.size W w' := by
  have hc : W.cell? ⟨B, 0, none⟩ = some (.string w0) := (hb.cell (p := ⟨B, 0, none⟩) hB).trans hcell
  show Calls Tryz.prog 83 #[.int .u8 x, .pointer (some ⟨B, 0, none⟩)] W _
  have l1 := last_range w0 x
  have l2 := Lib.indexByte_ge w0.data.toList x.toNat.toUInt8
  have l3 := index_lt w0.data.toList x.toNat.toUInt8
  have l4 : w0.data.toList.length = w0.size := by rw [Array.length_toList]; rfl
  unfold curlB
  have HI := Aside0.mk (fun (W1 : World) => Any.strings_IndexByte Tryz.l137 w0 x W1)
  have HLst := Aside0.mk (fun (W1 : World) => Any.strings_LastIndexByte Tryz.l149 w0 x (by omega) W1)
  rw [ite_self, Int.add_zero] at l3
  generalize Lib.lastIndexByte w0 x = a at *
  generalize Lib.indexByte w0.data.toList x.toNat.toUInt8 = b at *
  have ha : IntKind.i64.wrap (a - b) = a - b := IntWalk.i64_in _ (by omega)
  have hz : IntKind.i64.wrap ((w0.size : Int) - 1) = (w0.size : Int) - 1 := IntWalk.i64_in _ (by omega)
  clear hcell hb l1 l2 l3 l4
  go_enter Tryz.func83, Tryz.ntmps83
  go_wp2_with fail
  go_quiet ((first | (go_at_call 84; exact Calls.quiet_of_same (HLst.out _)) | (go_at_call 85; exact Calls.quiet_of_same (HI.out _))))
  cases e1 : (a - b == 1) with
  | true =>
    go_wp2
    go_ret
    exact ⟨by rw [e1]; rfl, pw_below_drewN (Below.refl _ _) _⟩
  | false =>
    cases e2 : (a - b == (w0.size : Int) - 1) with
    | true =>
      go_wp2
      go_ret
      exact ⟨by rw [e1, e2]; rfl, pw_below_drewN (Below.refl _ _) _⟩
    | false =>
      go_wp2
      go_ret
      exact ⟨by rw [e1, e2]; rfl, pw_below_drewN (Below.refl _ _) _⟩

/-- What the program's CurlsOf tells. -/
def impl_CurlsOf.f (k : Nat) (a0 : ByteArray) : Option (ByteArray × Bool) :=
  (impl_IsLoop.f k a0).bind fun t => if t = true then (if a0.size ≤ 16 then some (strOfNums (M.lettP (curlB a0) 97 (a0.size / 2)), true) else none) else some (⟨#[]⟩, false)
theorem impl_CurlsOf.mono : ∀ a0 k, LeO (impl_CurlsOf.f k a0) (impl_CurlsOf.f (k + 1) a0) := by
  intro a0 k
  unfold impl_CurlsOf.f
  exact LeO.bind (impl_IsLoop.mono _ _) (fun _ => LeO.refl _)

set_option maxHeartbeats 4000000 in
theorem impl_CurlsOf.calls (k : Nat) (a0 : ByteArray) (r1 : ByteArray) (r2 : Bool) (w : World) (h : impl_CurlsOf.f k a0 = some (r1, r2)) :
    Calls Tryz.prog 34 #[.string a0] w fun e w' => e = .returned (.tuple #[.string r1, .bool r2]) ∧ Below w.heap.size w w' := by
  have hb0 : Below w.heap.size w (w.alloc (.cells #[.string a0] 9)) := below_alloc (Below.refl _ _) _
  have hs0 : w.heap.size < (w.alloc (.cells #[.string a0] 9)).heap.size := by simp
  have hx0 : (w.alloc (.cells #[.string a0] 9)).cell? ⟨w.heap.size, 0, none⟩ = some (.string a0) := by simp
  have eg : ∀ args w, (callFunc 83 args).run Tryz.prog w = .ok (.enter 83 args) w := enters_of Tryz.func83 (by kernel_rfl) rfl
  obtain ⟨t, ht, h⟩ := Option.bind_eq_some_iff.mp h
  have hI := Aside0.mk (impl_IsLoop.calls k a0 t (w.alloc (.cells #[.string a0] 9)) ht)
  have HB0 := Aside0.mk hb0
  have HX0 := Aside0.mk hx0
  have HS0 := Aside0.mk hs0
  clear ht hb0 hx0
  cases t with
  | false =>
    rw [if_neg (by simp)] at h
    obtain ⟨rfl, rfl⟩ := Prod.mk.inj (Option.some.inj h)
    clear h eg
    go_enter Tryz.func34, Tryz.ntmps34
    go_wp2_with (go_at_call 12; refine hI.out.mono ?_; rintro e w' ⟨rfl, hb⟩)
    go_ret2
    exact ⟨rfl, HB0.out.trans (hb.mono (by simp))⟩
  | true =>
    rw [if_pos rfl] at h
    by_cases h16 : a0.size ≤ 16
    · rw [if_pos h16] at h
      obtain ⟨rfl, rfl⟩ := Prod.mk.inj (Option.some.inj h)
      have hL := Aside0.mk (fun (W : World) (hW : Below (w.alloc (.cells #[.string a0] 9)).heap.size (w.alloc (.cells #[.string a0] 9)) W) =>
        lettersWith_calls a0 (a0.size / 2) rfl (by omega) (curlB a0) 83 #[.pointer (some ⟨w.heap.size, 0, none⟩)] eg W
          (fun W2 x _ _ hb => curl_pred a0 (by omega) w.heap.size W (Nat.lt_of_lt_of_le HS0.out hW.size) ((hW.cell (p := ⟨w.heap.size, 0, none⟩) HS0.out).trans HX0.out) W2 x hb))
      generalize strOfNums (M.lettP (curlB a0) 97 (a0.size / 2)) = s at hL h
      clear h eg
      go_enter Tryz.func34, Tryz.ntmps34
      go_wp2_with (first | (go_at_call 12; refine hI.out.mono ?_; rintro e w' ⟨rfl, hb⟩; have hx1 := (hb.cell (p := ⟨w.heap.size, 0, none⟩) HS0.out).trans HX0.out; have HBa := Aside0.mk hb; clear hb) | (go_at_call 82; refine (hL.out _ HBa.out).mono ?_; rintro e w' ⟨rfl, hb⟩))
      go_ret2
      exact ⟨rfl, (HB0.out.trans (HBa.out.mono (by simp))).trans (hb.mono (Nat.le_trans HB0.out.size HBa.out.size))⟩
    · rw [if_neg h16] at h; cases h
end Go.Proofs.YtcgoaipbfnhjhaaGreatDoor.Pr

-- Written by a program for this claim.
namespace Go.Proofs.YtcgoaipbfnhjhaaGreatDoor.Pr
open Go.RowKit Go.Proofs.YtcgoaipbfnhjhaaGreatDoorW.PrintWords Go.Proofs.YtcgoaipbfnhjhaaGreatDoorW.PrintLast Go.Proofs.YtcgoaipbfnhjhaaGreatDoorW.PrintMore
attribute [local go_sem] max2_int min2_int max_two min_two max_three min_three max_four min_four   -- for this text's walks alone
set_option linter.unusedVariables false
set_option linter.unusedSimpArgs false

/-! ### spec_CurlsOf: function 35 -/
def spec_CurlsOf.l0 : Nat → ByteArray → ByteArray → Int → Option (ByteArray × Bool)
  | 0, _, _, _ => none
  | k + 1, x0, x4, x5 => if x5 < (wrap64 ((x0.size : Int) / 2)) then ((spec_loPlaces.f k x0 ((wrap64 (97 + x5)) % 256)).bind fun bt176 => (if (wrap64 (bt176.2 - bt176.1)) = 1 then (if 0 ≤ x5 then (if x5 ≤ (wrap64 (x5 + 1)) then (if (wrap64 (x5 + 1)) ≤ 16 then (if x4.size + ((⟨#[97, 98, 99, 100, 101, 102, 103, 104, 105, 106, 107, 108, 109, 110, 111, 112]⟩ : ByteArray).extract (x5 : Int).toNat ((wrap64 (x5 + 1)) : Int).toNat).size ≤ 9223372036854775807 then (spec_CurlsOf.l0 k x0 (x4 ++ ((⟨#[97, 98, 99, 100, 101, 102, 103, 104, 105, 106, 107, 108, 109, 110, 111, 112]⟩ : ByteArray).extract (x5 : Int).toNat ((wrap64 (x5 + 1)) : Int).toNat)) (wrap64 (x5 + 1))) else (none)) else (none)) else (none)) else (none)) else (if bt176.1 = 0 then (if bt176.2 = (wrap64 ((x0.size : Int) - 1)) then (if 0 ≤ x5 then (if x5 ≤ (wrap64 (x5 + 1)) then (if (wrap64 (x5 + 1)) ≤ 16 then (if x4.size + ((⟨#[97, 98, 99, 100, 101, 102, 103, 104, 105, 106, 107, 108, 109, 110, 111, 112]⟩ : ByteArray).extract (x5 : Int).toNat ((wrap64 (x5 + 1)) : Int).toNat).size ≤ 9223372036854775807 then (spec_CurlsOf.l0 k x0 (x4 ++ ((⟨#[97, 98, 99, 100, 101, 102, 103, 104, 105, 106, 107, 108, 109, 110, 111, 112]⟩ : ByteArray).extract (x5 : Int).toNat ((wrap64 (x5 + 1)) : Int).toNat)) (wrap64 (x5 + 1))) else (none)) else (none)) else (none)) else (none)) else (spec_CurlsOf.l0 k x0 x4 (wrap64 (x5 + 1)))) else (spec_CurlsOf.l0 k x0 x4 (wrap64 (x5 + 1)))))) else (some (x4, true))
def spec_CurlsOf.f (k : Nat) (a0 : ByteArray) : Option (ByteArray × Bool) := (spec_loGood.f k a0).bind fun t175 => (if t175 = true then (spec_CurlsOf.l0 k a0 (⟨#[]⟩ : ByteArray) 0) else (some ((⟨#[]⟩ : ByteArray), false)))
theorem spec_CurlsOf.mono_l : ∀ k, (∀ y0 y1 y2, LeO (spec_CurlsOf.l0 k y0 y1 y2) (spec_CurlsOf.l0 (k + 1) y0 y1 y2))
  | 0 => fun _ _ _ r h => by simp [spec_CurlsOf.l0] at h
  | k + 1 => by
    have ih0 := spec_CurlsOf.mono_l k
    · intro y0 y1 y2
      unfold spec_CurlsOf.l0
      repeat' first
      | (with_reducible exact ih0 _ _ _)
      | (with_reducible exact spec_loGood.mono _ _)
      | (with_reducible exact spec_loPlaces.mono _ _ _)
      | (with_reducible exact LeO.refl _)
      | (with_reducible exact LeO.none _)
      | (with_reducible refine LeO.ite ?_ ?_)
      | (with_reducible refine LeO.bind ?_ (fun _ => ?_))
      | exact ih0 _ _ _
      | exact spec_loGood.mono _ _
      | exact spec_loPlaces.mono _ _ _
      | exact LeO.none _
      | refine LeO.ite ?_ ?_
      | refine LeO.bind ?_ (fun _ => ?_)
theorem spec_CurlsOf.mono : ∀ a0 k, LeO (spec_CurlsOf.f k a0) (spec_CurlsOf.f (k + 1) a0) := by
  intro a0 k
  have ih0 := spec_CurlsOf.mono_l k
  unfold spec_CurlsOf.f
  repeat' first
      | (with_reducible exact ih0 _ _ _)
      | (with_reducible exact spec_loGood.mono _ _)
      | (with_reducible exact spec_loPlaces.mono _ _ _)
      | (with_reducible exact LeO.refl _)
      | (with_reducible exact LeO.none _)
      | (with_reducible refine LeO.ite ?_ ?_)
      | (with_reducible refine LeO.bind ?_ (fun _ => ?_))
      | exact ih0 _ _ _
      | exact spec_loGood.mono _ _
      | exact spec_loPlaces.mono _ _ _
      | exact LeO.none _
      | refine LeO.ite ?_ ?_
      | refine LeO.bind ?_ (fun _ => ?_)
set_option maxHeartbeats 8000000 in
set_option maxRecDepth 100000 in
theorem spec_CurlsOf.calls (k : Nat) (a0 : ByteArray) (r1 : ByteArray) (r2 : Bool) (w : World) (h : spec_CurlsOf.f k a0 = some (r1, r2)) :
    Calls Tryz.prog 35 #[.string a0] w fun e w' => e = .returned (.tuple #[.string r1, .bool r2]) ∧ Drawn0 w w' := by
  have H : ((spec_loGood.f k a0).bind fun t175 => (if t175 = true then (spec_CurlsOf.l0 k a0 (⟨#[]⟩ : ByteArray) 0) else (some ((⟨#[]⟩ : ByteArray), false)))) = some (r1, r2) := h
  clear h
  replace H := Option.bind_eq_some_iff.mp H
  obtain ⟨t175, A20, H⟩ := H
  replace H : (if t175 = true then (spec_CurlsOf.l0 k a0 (⟨#[]⟩ : ByteArray) 0) else (some ((⟨#[]⟩ : ByteArray), false))) = some (r1, r2) := H
  have A2 := Aside0.mk A20
  clear A20
  by_cases c3 : t175 = true
  · subst c3
    have H1 : (spec_CurlsOf.l0 k a0 (⟨#[]⟩ : ByteArray) 0) = some (r1, r2) := by rw [if_pos rfl] at H; exact H
    clear H
    have H := H1
    clear H1
    have H' := Aside0.mk H
    clear H
    go_enter Tryz.func35, Tryz.ntmps35
    go_wp2_with (first | ((with_reducible refine gate_callee (f := 71) rfl ?_); refine goesL_ (some 9) rfl rfl Tryz.func71 (by kernel_rfl) rfl #[.string a0] rfl (by (try simp only [List.map_toArray, List.map_cons, List.map_nil]); first | done | rfl | (simp only [List.length_drop, List.length_take]; rfl)) ?_; (with_reducible refine (spec_loGood.calls k a0 true _ A2.out).mono ?_); rintro e w' ⟨rfl, ⟨nd, rfl⟩⟩; refine ⟨_, rfl, ?_⟩))
    go_loopg [4, 5] k (fun kq v4 v5 w' => ∃ (x4_1 : ByteArray) (x5_1 : Int), v4 = .string x4_1 ∧ v5 = .int .i64 x5_1 ∧ Aside0 (spec_CurlsOf.l0 kq a0 x4_1 x5_1 = some (r1, r2)) ∧ Aside0 (kq ≤ k) ∧ Drawn0 w w')
    case atStart => exact ⟨((⟨#[]⟩ : ByteArray)), (0), (by first | rfl | (simp; done) | (simp [*]; done)), (by first | rfl | (simp; done) | (simp [*]; done)), H', ⟨Nat.le_refl _⟩, by repeat (first | exact Drawn0.refl _ | apply Drawn0.step)⟩
    case round =>
      clear H'
      try clear p2
      try clear c3
      obtain ⟨x4_1, x5_1, rfl, rfl, HA, HK1, ⟨m1, rfl⟩⟩ := hrel
      cases gk with
      | zero => exact absurd HA.out (by simp [spec_CurlsOf.l0])
      | succ k1 =>
        have H := HA.out
        clear HA
        simp only [spec_CurlsOf.l0] at H
        by_cases c4 : x5_1 < (wrap64 ((a0.size : Int) / 2))
        · rw [if_pos c4] at H
          have c4b0 : decide (x5_1 < (wrap64 ((a0.size : Int) / 2))) = true := decide_eq_true c4
          clear c4
          replace H := Option.bind_eq_some_iff.mp H
          obtain ⟨⟨t176, t177⟩, A50, H⟩ := H
          replace H : (if (wrap64 (t177 - t176)) = 1 then (if 0 ≤ x5_1 then (if x5_1 ≤ (wrap64 (x5_1 + 1)) then (if (wrap64 (x5_1 + 1)) ≤ 16 then (if x4_1.size + ((⟨#[97, 98, 99, 100, 101, 102, 103, 104, 105, 106, 107, 108, 109, 110, 111, 112]⟩ : ByteArray).extract (x5_1 : Int).toNat ((wrap64 (x5_1 + 1)) : Int).toNat).size ≤ 9223372036854775807 then (spec_CurlsOf.l0 k1 a0 (x4_1 ++ ((⟨#[97, 98, 99, 100, 101, 102, 103, 104, 105, 106, 107, 108, 109, 110, 111, 112]⟩ : ByteArray).extract (x5_1 : Int).toNat ((wrap64 (x5_1 + 1)) : Int).toNat)) (wrap64 (x5_1 + 1))) else (none)) else (none)) else (none)) else (none)) else (if t176 = 0 then (if t177 = (wrap64 ((a0.size : Int) - 1)) then (if 0 ≤ x5_1 then (if x5_1 ≤ (wrap64 (x5_1 + 1)) then (if (wrap64 (x5_1 + 1)) ≤ 16 then (if x4_1.size + ((⟨#[97, 98, 99, 100, 101, 102, 103, 104, 105, 106, 107, 108, 109, 110, 111, 112]⟩ : ByteArray).extract (x5_1 : Int).toNat ((wrap64 (x5_1 + 1)) : Int).toNat).size ≤ 9223372036854775807 then (spec_CurlsOf.l0 k1 a0 (x4_1 ++ ((⟨#[97, 98, 99, 100, 101, 102, 103, 104, 105, 106, 107, 108, 109, 110, 111, 112]⟩ : ByteArray).extract (x5_1 : Int).toNat ((wrap64 (x5_1 + 1)) : Int).toNat)) (wrap64 (x5_1 + 1))) else (none)) else (none)) else (none)) else (none)) else (spec_CurlsOf.l0 k1 a0 x4_1 (wrap64 (x5_1 + 1)))) else (spec_CurlsOf.l0 k1 a0 x4_1 (wrap64 (x5_1 + 1))))) = some (r1, r2) := H
          have A5 := Aside0.mk A50
          clear A50
          by_cases c6 : (wrap64 (t177 - t176)) = 1
          · rw [if_pos c6] at H
            have c6b0 : ((wrap64 (t177 - t176)) == 1) = true := beq_iff_eq.mpr c6
            have c6b1 : ((wrap64 (t177 - t176)) != 1) = false := bne_eq_false_iff_eq.mpr c6
            clear c6
            by_cases c7 : 0 ≤ x5_1
            · rw [if_pos c7] at H
              have c7b0 := eq_true c7
              have c7b1 : decide (0 ≤ x5_1) = true := decide_eq_true c7
              clear c7
              by_cases c8 : x5_1 ≤ (wrap64 (x5_1 + 1))
              · rw [if_pos c8] at H
                have c8b0 := eq_true c8
                have c8b1 : decide (x5_1 ≤ (wrap64 (x5_1 + 1))) = true := decide_eq_true c8
                by_cases c9 : (wrap64 (x5_1 + 1)) ≤ 16
                · rw [if_pos c9] at H
                  have c9b0 := eq_true c9
                  have c9b1 : decide ((wrap64 (x5_1 + 1)) ≤ 16) = true := decide_eq_true c9
                  by_cases c10 : x4_1.size + ((⟨#[97, 98, 99, 100, 101, 102, 103, 104, 105, 106, 107, 108, 109, 110, 111, 112]⟩ : ByteArray).extract (x5_1 : Int).toNat ((wrap64 (x5_1 + 1)) : Int).toNat).size ≤ 9223372036854775807
                  · rw [if_pos c10] at H
                    have c10b0 := eq_true c10
                    have c10b1 : decide (x4_1.size + ((⟨#[97, 98, 99, 100, 101, 102, 103, 104, 105, 106, 107, 108, 109, 110, 111, 112]⟩ : ByteArray).extract (x5_1 : Int).toNat ((wrap64 (x5_1 + 1)) : Int).toNat).size ≤ 9223372036854775807) = true := decide_eq_true c10
                    try have c10b2 : (9223372036854775807 < x4_1.size + ((⟨#[97, 98, 99, 100, 101, 102, 103, 104, 105, 106, 107, 108, 109, 110, 111, 112]⟩ : ByteArray).extract (x5_1 : Int).toNat ((wrap64 (x5_1 + 1)) : Int).toNat).size) = False := eq_false (Nat.not_lt.2 c10)
                    have H' := Aside0.mk H
                    clear H
                    go_wp2_with (first | ((with_reducible refine gate_callee (f := 86) rfl ?_); refine goesL_ (some 23) rfl rfl Tryz.func86 (by kernel_rfl) rfl #[.string a0, .int .u8 ((wrap64 (97 + x5_1)) % 256)] rfl (by (try simp only [List.map_toArray, List.map_cons, List.map_nil]); first | done | rfl | (simp only [List.length_drop, List.length_take]; rfl)) ?_; (with_reducible refine (spec_loPlaces.calls k1 a0 ((wrap64 (97 + x5_1)) % 256) t176 t177 _ A5.out).mono ?_); rintro e w' ⟨rfl, ⟨nd, rfl⟩⟩; refine ⟨_, rfl, ?_⟩))
                    go_roundg k1
                    case measure => have := HK1.out; omega
                    case rel => exact ⟨(x4_1 ++ ((⟨#[97, 98, 99, 100, 101, 102, 103, 104, 105, 106, 107, 108, 109, 110, 111, 112]⟩ : ByteArray).extract (x5_1 : Int).toNat ((wrap64 (x5_1 + 1)) : Int).toNat)), (wrap64 (x5_1 + 1)), (by first | rfl | (simp; done) | (simp [*]; done)), (by first | rfl | (simp; done) | (simp [*]; done)), H', ⟨by have := HK1.out; omega⟩, by repeat (first | exact Drawn0.refl _ | apply Drawn0.step)⟩
                  · rw [if_neg c10] at H
                    exact absurd H (by simp)
                · rw [if_neg c9] at H
                  exact absurd H (by simp)
              · rw [if_neg c8] at H
                exact absurd H (by simp)
            · rw [if_neg c7] at H
              exact absurd H (by simp)
          · rw [if_neg c6] at H
            have c6b0 : ((wrap64 (t177 - t176)) == 1) = false := beq_eq_false_iff_ne.mpr c6
            have c6b1 : ((wrap64 (t177 - t176)) != 1) = true := bne_iff_ne.mpr c6
            by_cases c11 : t176 = 0
            · rw [if_pos c11] at H
              have c11b0 : (t176 == 0) = true := beq_iff_eq.mpr c11
              have c11b1 : (t176 != 0) = false := bne_eq_false_iff_eq.mpr c11
              clear c11
              by_cases c12 : t177 = (wrap64 ((a0.size : Int) - 1))
              · rw [if_pos c12] at H
                have c12b0 : (t177 == (wrap64 ((a0.size : Int) - 1))) = true := beq_iff_eq.mpr c12
                have c12b1 : (t177 != (wrap64 ((a0.size : Int) - 1))) = false := bne_eq_false_iff_eq.mpr c12
                clear c12
                by_cases c13 : 0 ≤ x5_1
                · rw [if_pos c13] at H
                  have c13b0 := eq_true c13
                  have c13b1 : decide (0 ≤ x5_1) = true := decide_eq_true c13
                  clear c13
                  by_cases c14 : x5_1 ≤ (wrap64 (x5_1 + 1))
                  · rw [if_pos c14] at H
                    have c14b0 := eq_true c14
                    have c14b1 : decide (x5_1 ≤ (wrap64 (x5_1 + 1))) = true := decide_eq_true c14
                    by_cases c15 : (wrap64 (x5_1 + 1)) ≤ 16
                    · rw [if_pos c15] at H
                      have c15b0 := eq_true c15
                      have c15b1 : decide ((wrap64 (x5_1 + 1)) ≤ 16) = true := decide_eq_true c15
                      by_cases c16 : x4_1.size + ((⟨#[97, 98, 99, 100, 101, 102, 103, 104, 105, 106, 107, 108, 109, 110, 111, 112]⟩ : ByteArray).extract (x5_1 : Int).toNat ((wrap64 (x5_1 + 1)) : Int).toNat).size ≤ 9223372036854775807
                      · rw [if_pos c16] at H
                        have c16b0 := eq_true c16
                        have c16b1 : decide (x4_1.size + ((⟨#[97, 98, 99, 100, 101, 102, 103, 104, 105, 106, 107, 108, 109, 110, 111, 112]⟩ : ByteArray).extract (x5_1 : Int).toNat ((wrap64 (x5_1 + 1)) : Int).toNat).size ≤ 9223372036854775807) = true := decide_eq_true c16
                        try have c16b2 : (9223372036854775807 < x4_1.size + ((⟨#[97, 98, 99, 100, 101, 102, 103, 104, 105, 106, 107, 108, 109, 110, 111, 112]⟩ : ByteArray).extract (x5_1 : Int).toNat ((wrap64 (x5_1 + 1)) : Int).toNat).size) = False := eq_false (Nat.not_lt.2 c16)
                        have H' := Aside0.mk H
                        clear H
                        go_wp2_with (first | ((with_reducible refine gate_callee (f := 86) rfl ?_); refine goesL_ (some 23) rfl rfl Tryz.func86 (by kernel_rfl) rfl #[.string a0, .int .u8 ((wrap64 (97 + x5_1)) % 256)] rfl (by (try simp only [List.map_toArray, List.map_cons, List.map_nil]); first | done | rfl | (simp only [List.length_drop, List.length_take]; rfl)) ?_; (with_reducible refine (spec_loPlaces.calls k1 a0 ((wrap64 (97 + x5_1)) % 256) t176 t177 _ A5.out).mono ?_); rintro e w' ⟨rfl, ⟨nd, rfl⟩⟩; refine ⟨_, rfl, ?_⟩))
                        go_roundg k1
                        case measure => have := HK1.out; omega
                        case rel => exact ⟨(x4_1 ++ ((⟨#[97, 98, 99, 100, 101, 102, 103, 104, 105, 106, 107, 108, 109, 110, 111, 112]⟩ : ByteArray).extract (x5_1 : Int).toNat ((wrap64 (x5_1 + 1)) : Int).toNat)), (wrap64 (x5_1 + 1)), (by first | rfl | (simp; done) | (simp [*]; done)), (by first | rfl | (simp; done) | (simp [*]; done)), H', ⟨by have := HK1.out; omega⟩, by repeat (first | exact Drawn0.refl _ | apply Drawn0.step)⟩
                      · rw [if_neg c16] at H
                        exact absurd H (by simp)
                    · rw [if_neg c15] at H
                      exact absurd H (by simp)
                  · rw [if_neg c14] at H
                    exact absurd H (by simp)
                · rw [if_neg c13] at H
                  exact absurd H (by simp)
              · rw [if_neg c12] at H
                have c12b0 : (t177 == (wrap64 ((a0.size : Int) - 1))) = false := beq_eq_false_iff_ne.mpr c12
                have c12b1 : (t177 != (wrap64 ((a0.size : Int) - 1))) = true := bne_iff_ne.mpr c12
                have H' := Aside0.mk H
                clear H
                go_wp2_with (first | ((with_reducible refine gate_callee (f := 86) rfl ?_); refine goesL_ (some 23) rfl rfl Tryz.func86 (by kernel_rfl) rfl #[.string a0, .int .u8 ((wrap64 (97 + x5_1)) % 256)] rfl (by (try simp only [List.map_toArray, List.map_cons, List.map_nil]); first | done | rfl | (simp only [List.length_drop, List.length_take]; rfl)) ?_; (with_reducible refine (spec_loPlaces.calls k1 a0 ((wrap64 (97 + x5_1)) % 256) t176 t177 _ A5.out).mono ?_); rintro e w' ⟨rfl, ⟨nd, rfl⟩⟩; refine ⟨_, rfl, ?_⟩))
                go_roundg k1
                case measure => have := HK1.out; omega
                case rel => exact ⟨(x4_1), (wrap64 (x5_1 + 1)), (by first | rfl | (simp; done) | (simp [*]; done)), (by first | rfl | (simp; done) | (simp [*]; done)), H', ⟨by have := HK1.out; omega⟩, by repeat (first | exact Drawn0.refl _ | apply Drawn0.step)⟩
            · rw [if_neg c11] at H
              have c11b0 : (t176 == 0) = false := beq_eq_false_iff_ne.mpr c11
              have c11b1 : (t176 != 0) = true := bne_iff_ne.mpr c11
              have H' := Aside0.mk H
              clear H
              go_wp2_with (first | ((with_reducible refine gate_callee (f := 86) rfl ?_); refine goesL_ (some 23) rfl rfl Tryz.func86 (by kernel_rfl) rfl #[.string a0, .int .u8 ((wrap64 (97 + x5_1)) % 256)] rfl (by (try simp only [List.map_toArray, List.map_cons, List.map_nil]); first | done | rfl | (simp only [List.length_drop, List.length_take]; rfl)) ?_; (with_reducible refine (spec_loPlaces.calls k1 a0 ((wrap64 (97 + x5_1)) % 256) t176 t177 _ A5.out).mono ?_); rintro e w' ⟨rfl, ⟨nd, rfl⟩⟩; refine ⟨_, rfl, ?_⟩))
              go_roundg k1
              case measure => have := HK1.out; omega
              case rel => exact ⟨(x4_1), (wrap64 (x5_1 + 1)), (by first | rfl | (simp; done) | (simp [*]; done)), (by first | rfl | (simp; done) | (simp [*]; done)), H', ⟨by have := HK1.out; omega⟩, by repeat (first | exact Drawn0.refl _ | apply Drawn0.step)⟩
        · rw [if_neg c4] at H
          have c4b0 : decide (x5_1 < (wrap64 ((a0.size : Int) / 2))) = false := decide_eq_false c4
          clear c4
          simp only [Option.some.injEq, Prod.mk.injEq] at H
          obtain ⟨rfl, rfl⟩ := H
          go_wp2
          go_ret2
          exact ⟨by first | rfl | (simp; done) | (simp [*]; done), by repeat (first | exact Drawn0.refl _ | apply Drawn0.step)⟩
  · replace c3 := Bool.eq_false_iff.mpr c3
    subst c3
    have H1 : (some ((⟨#[]⟩ : ByteArray), false)) = some (r1, r2) := by rw [if_neg (show ¬ (false = true) by decide)] at H; exact H
    clear H
    have H := H1
    clear H1
    simp only [Option.some.injEq, Prod.mk.injEq] at H
    obtain ⟨rfl, rfl⟩ := H
    go_enter Tryz.func35, Tryz.ntmps35
    go_wp2_with (first | ((with_reducible refine gate_callee (f := 71) rfl ?_); refine goesL_ (some 9) rfl rfl Tryz.func71 (by kernel_rfl) rfl #[.string a0] rfl (by (try simp only [List.map_toArray, List.map_cons, List.map_nil]); first | done | rfl | (simp only [List.length_drop, List.length_take]; rfl)) ?_; (with_reducible refine (spec_loGood.calls k a0 false _ A2.out).mono ?_); rintro e w' ⟨rfl, ⟨nd, rfl⟩⟩; refine ⟨_, rfl, ?_⟩))
    go_ret2
    exact ⟨by first | rfl | (simp; done) | (simp [*]; done), by repeat (first | exact Drawn0.refl _ | apply Drawn0.step)⟩

end Go.Proofs.YtcgoaipbfnhjhaaGreatDoor.Pr

/- Texts as lists of bytes. -/
namespace Go.Proofs.YtcgoaipbfnhjhaaGreatDoor.M
open Go.RowKit Go.Proofs.YtcgoaipbfnhjhaaGreatDoorW.PrintWords
set_option linter.unusedVariables false
set_option linter.unusedSimpArgs false

/-- A loop over a list inside another one: what is left of the list decides the state in which the rest goes on. -/
theorem Ev.cpsB {α β γ : Type} (L : Nat → Int → β → Option γ) (K : Nat → β → Option γ) (xs : List α) (F : List α → β → β) (P : Nat → β → Prop)
    (h0 : ∀ acc r, P xs.length acc → Ev (fun k => K k (F [] acc)) r → Ev (fun k => L k (xs.length : Int) acc) r)
    (h1 : ∀ (i : Nat) (h : i < xs.length) (acc : β), P i acc → ∃ acc', P (i + 1) acc' ∧ F (xs[i] :: xs.drop (i + 1)) acc = F (xs.drop (i + 1)) acc' ∧ ∀ r, Ev (fun k => L k ((i : Int) + 1) acc') r → Ev (fun k => L k (i : Int) acc) r) :
    ∀ (d i : Nat) (acc : β) (r : γ), i + d = xs.length → P i acc → Ev (fun k => K k (F (xs.drop i) acc)) r → Ev (fun k => L k (i : Int) acc) r := by
  intro d
  induction d with
  | zero =>
    intro i acc r hi hp hr
    obtain rfl : i = xs.length := by omega
    rw [List.drop_length] at hr
    exact h0 acc r hp hr
  | succ d ih =>
    intro i acc r hi hp hr
    have hlt : i < xs.length := by omega
    rw [List.drop_eq_getElem_cons hlt] at hr
    obtain ⟨acc', hp', hF, hk⟩ := h1 i hlt acc hp
    rw [hF] at hr
    refine hk r ?_
    have e := ih (i + 1) acc' r (by omega) hp' hr
    rw [show (((i + 1 : Nat)) : Int) = (i : Int) + 1 from by omega] at e
    exact e

theorem bytesOf_get (s : ByteArray) (i : Nat) (h : i < (bytesOf s).length) : bt s (i : Int) = (bytesOf s)[i] := by
  rw [← rd_bytesOf]
  unfold rd
  simp [List.getD_eq_getElem?_getD, List.getElem?_eq_getElem h]
theorem bytesOf_byte (s : ByteArray) : ∀ x ∈ bytesOf s, 0 ≤ x ∧ x < 256 := by
  intro x hx
  obtain ⟨b, _, rfl⟩ := List.mem_map.1 hx
  have := b.toNat_lt
  omega
theorem bytesOf_append (s t : ByteArray) : bytesOf (s ++ t) = bytesOf s ++ bytesOf t := by
  unfold bytesOf
  rw [ByteArray.data_append]
  simp
theorem bytesOf_extract (s : ByteArray) (a b : Nat) : bytesOf (s.extract a b) = ((bytesOf s).take b).drop a := by
  unfold bytesOf
  rw [ByteArray.data_extract, Array.toList_extract, List.extract_eq_take_drop, List.map_take, List.map_drop, List.drop_take]
theorem bytesOf_nil : bytesOf ⟨#[]⟩ = [] := rfl
theorem bytesOf_inj {s t : ByteArray} (h : bytesOf s = bytesOf t) : s = t := by
  have e : s.data.toList = t.data.toList := by
    refine (List.map_inj_right ?_).1 h
    intro a b hab
    exact UInt8.toNat_inj.1 (by omega)
  exact ByteArray.ext (Array.toList_inj.1 e)
theorem bytesOf_strOf (xs : List Int) (h : ∀ x ∈ xs, 0 ≤ x ∧ x < 256) : bytesOf (strOfNums xs) = xs := by
  unfold bytesOf strOfNums
  simp only [List.map_map]
  conv => rhs; rw [← List.map_id xs]
  refine List.map_congr_left fun x hx => ?_
  have := h x hx
  simp
  omega
theorem strOf_bytesOf (s : ByteArray) : strOfNums (bytesOf s) = s := bytesOf_inj (bytesOf_strOf _ (bytesOf_byte s))
theorem toList_inj {s t : ByteArray} : s.toList = t.toList ↔ s = t := by
  constructor
  · intro e
    rw [ByteArray.toList_eq, ByteArray.toList_eq] at e
    exact ByteArray.ext (Array.toList_inj.1 e)
  · rintro rfl; rfl
theorem toList_beq (s t : ByteArray) : (s.toList == t.toList) = (bytesOf s == bytesOf t) := by
  rw [Bool.eq_iff_iff, beq_iff_eq, beq_iff_eq, toList_inj]
  exact ⟨fun e => by rw [e], bytesOf_inj⟩
/-- One byte of a text, as a text. -/
theorem bytesOf_one (s : ByteArray) (i : Nat) (h : i < (bytesOf s).length) : bytesOf (s.extract i (i + 1)) = [(bytesOf s)[i]] := by
  rw [bytesOf_extract, List.take_succ_eq_append_getElem h, List.drop_append_of_le_length (by simp; omega), List.drop_of_length_le (by simp; omega)]
  rfl

/-- The place of a byte, or -1. -/
def ixL (l : List Int) (x : Int) : Int := if x ∈ l then (l.idxOf x : Int) else -1
theorem index_eq : ∀ (l : List UInt8) (x : Int), 0 ≤ x → x < 256 → Lib.indexByte l x.toNat.toUInt8 = ixL (l.map fun b => (b.toNat : Int)) x
  | [], x, _, _ => rfl
  | b :: l, x, h0, h1 => by
    have ih := index_eq l x h0 h1
    have hb := b.toNat_lt
    have e1 : (b == x.toNat.toUInt8) = ((b.toNat : Int) == x) := by
      rw [Bool.eq_iff_iff, beq_iff_eq, beq_iff_eq]
      constructor
      · rintro rfl
        simp
        omega
      · intro e
        subst e
        simp
    unfold Lib.indexByte ixL
    rw [ih, e1]
    unfold ixL
    rw [List.map_cons, List.idxOf_cons]
    by_cases e : (b.toNat : Int) = x
    · rw [if_pos (by simpa using e), if_pos (by simp [e])]
      simp [e]
    · have e2 : ((b.toNat : Int) == x) = false := by simpa using e
      rw [e2]
      simp only [Bool.false_eq_true, if_false, cond_false]
      by_cases hm : x ∈ l.map fun b => (b.toNat : Int)
      · rw [if_pos hm, if_pos (List.mem_cons_of_mem _ hm), if_neg (by simp)]
        omega
      · rw [if_neg hm, if_neg (c := x ∈ _ :: _) (by simp only [List.mem_cons, not_or]; exact ⟨fun h => e h.symm, hm⟩)]
        rfl
theorem indexB_eq (s : ByteArray) (x : Int) (h0 : 0 ≤ x) (h1 : x < 256) : Lib.indexByte s.data.toList x.toNat.toUInt8 = ixL (bytesOf s) x := index_eq _ x h0 h1
theorem count_eq (s : ByteArray) (x : Int) (h0 : 0 ≤ x) (h1 : x < 256) : s.data.toList.count x.toNat.toUInt8 = (bytesOf s).count x := by
  unfold bytesOf
  generalize s.data.toList = l
  induction l with
  | nil => rfl
  | cons b l ih =>
    have hb := b.toNat_lt
    rw [List.map_cons, List.count_cons, List.count_cons, ih]
    congr 1
    have e1 : (b == x.toNat.toUInt8) = ((b.toNat : Int) == x) := by
      rw [Bool.eq_iff_iff, beq_iff_eq, beq_iff_eq]
      constructor
      · rintro rfl
        simp
        omega
      · intro e
        subst e
        simp
    rw [e1]
end Go.Proofs.YtcgoaipbfnhjhaaGreatDoor.M

/- What the program's IsOneLoop computes. -/
namespace Go.Proofs.YtcgoaipbfnhjhaaGreatDoor.Pr
open Go.RowKit Go.Proofs.YtcgoaipbfnhjhaaGreatDoorW.PrintWords Go.Proofs.YtcgoaipbfnhjhaaGreatDoorW.PrintLast Go.Proofs.YtcgoaipbfnhjhaaGreatDoorW.PrintMore
set_option linter.unusedVariables false
set_option linter.unusedSimpArgs false

/-- Has a text each of its letters twice? -/
def wholeB (t : ByteArray) : Bool := !((bytesOf t).any (missB t))
/-- Is one of the beginnings of a text, from a size on, whole? -/
def sizesB (t : ByteArray) : Nat → Nat → Bool
  | 0, _ => false
  | d + 1, sz => if wholeB (t.extract 0 sz) = true then true else sizesB t d (sz + 1)
/-- .. of one of the turns of a text. -/
def fromB (s : ByteArray) : Nat → Nat → Bool
  | 0, _ => false
  | d + 1, i => if sizesB (s.extract i s.size ++ s.extract 0 i) (s.size - 1) 1 = true then true else fromB s d (i + 1)
def impl_IsOneLoop.f (k : Nat) (a0 : ByteArray) : Option (Bool × Bool) :=
  (impl_IsLoop.f k a0).bind fun g => if g = true then (if asciiB a0 = true then some (!(fromB a0 a0.size 0), true) else none) else some (false, false)
theorem impl_IsOneLoop.mono : ∀ a0 k, LeO (impl_IsOneLoop.f k a0) (impl_IsOneLoop.f (k + 1) a0) := by
  intro a0 k
  unfold impl_IsOneLoop.f
  exact LeO.bind (impl_IsLoop.mono _ _) (fun _ => LeO.refl _)

set_option maxHeartbeats 2000000 in
theorem one_pred (w0 : ByteArray) (B : Nat) (zs : List Int) (hz : ∀ x ∈ zs, 0 ≤ x ∧ x < 128) (w : World) (hB : B < w.heap.size) (hcell : w.cell? ⟨B, 0, none⟩ = some (.string w0)) :
    PredB 87 #[.pointer (some ⟨B, 0, none⟩)] encB (missB w0) zs w := fun W x hx hb => by
  have hc : W.cell? ⟨B, 0, none⟩ = some (.string w0) := (hb.cell (p := ⟨B, 0, none⟩) hB).trans hcell
  obtain ⟨h0, h1⟩ := hz x hx
  show Calls Tryz.prog 87 #[.int .u8 x, .pointer (some ⟨B, 0, none⟩)] W fun e w' => e = .returned (.bool (missB w0 x)) ∧ Below W.heap.size W w'
  unfold missB
  have HC := Aside0.mk (fun (W1 : World) => count_small w0 x h0 h1 W1)
  generalize ((w0.data.toList.count x.toNat.toUInt8 : Nat) : Int) = r at HC ⊢
  clear hcell hb hx hz
  go_enter Tryz.func87, Tryz.ntmps87
  go_wp2_with (go_at_call 66; refine (HC.out _).mono ?_; rintro e w' ⟨rfl, ⟨nd, rfl⟩⟩)
  go_ret
  exact ⟨by simp, pw_below_drewN (Below.refl _ _) _⟩
theorem small_bytes {a0 : ByteArray} (h : asciiB a0 = true) (pos sz : Nat) : ∀ x ∈ bytesOf ((a0.extract pos a0.size ++ a0.extract 0 pos).extract 0 sz), 0 ≤ x ∧ x < 128 := by
  intro x hx
  unfold asciiB at h
  simp only [Bool.and_eq_true, decide_eq_true_eq, List.all_eq_true] at h
  have hm : x ∈ bytesOf a0 := by
    rw [M.bytesOf_extract, List.drop_zero, M.bytesOf_append, M.bytesOf_extract, M.bytesOf_extract, List.drop_zero] at hx
    rcases List.mem_append.1 (List.mem_of_mem_take hx) with e | e
    · exact List.mem_of_mem_take (List.mem_of_mem_drop e)
    · exact List.mem_of_mem_take e
  exact ⟨(M.bytesOf_byte a0 x hm).1, h.2 x hm⟩

set_option maxHeartbeats 8000000 in
set_option maxRecDepth 100000 in
theorem impl_IsOneLoop.calls (k : Nat) (a0 : ByteArray) (r1 : Bool) (r2 : Bool) (w : World) (h : impl_IsOneLoop.f k a0 = some (r1, r2)) :
    Calls Tryz.prog 36 #[.string a0] w fun e w' => e = .returned (.tuple #[.bool r1, .bool r2]) ∧ Below w.heap.size w w' := by
  have eg : ∀ args w, (callFunc 87 args).run Tryz.prog w = .ok (.enter 87 args) w := enters_of Tryz.func87 (by kernel_rfl) rfl
  obtain ⟨g, hg, h⟩ := Option.bind_eq_some_iff.mp h
  have HGd := Aside0.mk (fun (W : World) => impl_IsLoop.calls k a0 g W hg)
  cases g with
  | false =>
    obtain ⟨rfl, rfl⟩ : r1 = false ∧ r2 = false := by
      rw [if_neg (by decide)] at h
      have h5 := Option.some.inj h
      exact ⟨(congrArg Prod.fst h5).symm, (congrArg Prod.snd h5).symm⟩
    clear h hg eg
    go_enter Tryz.func36, Tryz.ntmps36
    go_wp2_with (go_at_call 12; refine (HGd.out _).mono ?_; rintro e w1 ⟨rfl, hb⟩)
    go_ret2
    exact ⟨rfl, hb⟩
  | true =>
    rw [if_pos rfl] at h
    by_cases hA : asciiB a0 = true
    · rw [if_pos hA] at h
      obtain ⟨rfl, rfl⟩ := Prod.mk.inj (Option.some.inj h)
      clear h
      obtain ⟨o, ho⟩ : ∃ o, o = fromB a0 a0.size 0 := ⟨_, rfl⟩
      have HO := Aside0.mk (show fromB a0 (a0.size - 0) 0 = o from ho.symm)
      rw [← ho]
      clear ho
      have HAS := Aside0.mk hA
      have hz16 : a0.size ≤ 1000 := (ascii_at hA).1
      clear hg hA
      go_enter Tryz.func36, Tryz.ntmps36
      go_wp2_with (go_at_call 12; refine (HGd.out _).mono ?_; rintro e w1 ⟨rfl, hb⟩)
      have HB := Aside0.mk hb
      clear hb HGd
      generalize hWE : w1 = W0 at HB ⊢
      clear hWE
      go_loopg [13] a0.size (fun gg v13 w' => ∃ (i : Nat), v13 = .int .i64 i ∧ Aside0 (i + gg = a0.size) ∧ Aside0 (fromB a0 (a0.size - i) i = o) ∧ Aside0 (Below w.heap.size w w'))
      case atStart => exact ⟨0, rfl, ⟨by omega⟩, HO, HB⟩
      case round =>
        obtain ⟨pos, rfl, HG, HT, HB1⟩ := hrel
        clear HO HB
        have HB := HB1
        clear HB1
        by_cases hp : pos < a0.size
        · have c4b0 : decide ((pos : Int) < (a0.size : Int)) = true := decide_eq_true (by omega)
          have c5b0 : decide (pos < a0.size) = true := decide_eq_true hp
          obtain ⟨gn, rfl⟩ : ∃ gn, gk = gn + 1 := ⟨gk - 1, by have := HG.out; omega⟩
          have hT3 := HT.out
          rw [show a0.size - pos = (a0.size - (pos + 1)) + 1 by omega, fromB] at hT3
          have HT3 := Aside0.mk hT3
          clear hT3 HT
          have hsz1 : (pos : Int) ≤ (a0.size : Int) := by omega
          have hz2 : ¬ 9223372036854775807 < (a0.extract pos a0.size).size + (a0.extract 0 pos).size := by
            rw [ByteArray.size_extract, ByteArray.size_extract]
            omega
          have hz3 : (9223372036854775807 < (a0.extract pos a0.size).size + (a0.extract 0 pos).size) = False := eq_false hz2
          have hz4 : (9223372036854775807 < a0.size) = False := eq_false (by omega)
          have hp0 : ((0 : Int) ≤ (pos : Int)) = True := eq_true (by omega)
          have hp1 : ((pos : Int) ≤ (a0.size : Int)) = True := eq_true hsz1
          have hp2 : pos ≤ a0.size := by omega
          have hts : (a0.extract pos a0.size ++ a0.extract 0 pos).size = a0.size := by
            rw [ByteArray.size_append, ByteArray.size_extract, ByteArray.size_extract]
            omega
          have HSm := Aside0.mk (fun sz => small_bytes HAS.out pos sz)
          go_wp2
          go_quiet (fail)
          generalize a0.extract pos a0.size ++ a0.extract 0 pos = t at hts HT3 HSm ⊢
          go_wp2
          have HB2 := Aside0.mk (pw_below_drewN HB.out nq)
          obtain ⟨o1, ho1⟩ : ∃ o1, o1 = sizesB t (a0.size - 1) 1 := ⟨_, rfl⟩
          rw [← ho1] at HT3
          have HT2 := Aside0.mk ho1.symm
          clear HB ho1
          generalize wr.drewN nq = W4 at HB2 ⊢
          go_loopg [6] a0.size (fun gg v6 w' => ∃ (sz : Nat), v6 = .int .i64 sz ∧ Aside0 (sz + gg = a0.size + 1) ∧ Aside0 (1 ≤ sz) ∧ Aside0 (sizesB t (a0.size - sz) sz = o1) ∧ Aside0 (Below w.heap.size w w'))
          case atStart => exact ⟨1, rfl, ⟨by omega⟩, ⟨by omega⟩, HT2, HB2⟩
          case round =>
            obtain ⟨sz, rfl, HG1, HG2, HT4, HB4⟩ := hrel
            clear HT2 HB2
            by_cases hs : sz < a0.size
            · have c4b0 : decide ((sz : Int) < (a0.size : Int)) = true := decide_eq_true (by omega)
              have c5b0 : decide (sz < a0.size) = true := decide_eq_true hs
              obtain ⟨gm, rfl⟩ : ∃ gm, gk = gm + 1 := ⟨gk - 1, by have := HG1.out; omega⟩
              have hT5 := HT4.out
              rw [show a0.size - sz = (a0.size - (sz + 1)) + 1 by omega, sizesB] at hT5
              have hs2 : sz ≤ t.size := by omega
              have hs3 : ((sz : Int) ≤ (t.size : Int)) = True := eq_true (by omega)
              have hs4 : ((0 : Int) ≤ (sz : Int)) = True := eq_true (by omega)
              have hsm := HSm.out sz
              have hpz : (t.extract 0 sz).size ≤ 1000 := by rw [ByteArray.size_extract]; omega
              have HT5 := Aside0.mk hT5
              clear hT5 HT4
              have hb0 : Below wr.heap.size wr (wr.alloc (.cells #[.string (t.extract 0 sz)] 9)) := below_alloc (Below.refl _ _) _
              have hs0 : wr.heap.size < (wr.alloc (.cells #[.string (t.extract 0 sz)] 9)).heap.size := by simp
              have hx0 : (wr.alloc (.cells #[.string (t.extract 0 sz)] 9)).cell? ⟨wr.heap.size, 0, none⟩ = some (.string (t.extract 0 sz)) := by simp
              go_wp2_with fail
              generalize wr.alloc (.cells #[.string (t.extract 0 sz)] 9) = W5 at hb0 hs0 hx0 ⊢
              have hws := HB4.out.size
              generalize wr.heap.size = B5 at hb0 hs0 hx0 hws ⊢
              generalize t.extract 0 sz = u at hsm hpz HT5 hb0 hs0 hx0 ⊢
              rw [print_bytes 9 22 5 Tryz.underlying9 Tryz.underlying22 Tryz.underlying5]
              simp only [Result.andThen]
              rw [Oper.upon_value]
              have hlen := bytesOf_length u
              have hbb : Below W5.heap.size W5 (Lib.bytesWorld W5 5 u) := bytes_below (Below.refl _ _) (Nat.le_refl _) 5 u
              have hCC := containsFunc_byte _ (grownCap W5 u.size 0 5) (bytesOf u) (missB u) 87 #[.pointer (some ⟨B5, 0, none⟩)] eg _ (bytes_C W5 5 u (by omega)) (by rw [hlen]; exact grownCap_ge W5 u.size 0 5) (one_pred u B5 (bytesOf u) hsm _ (lt_keep hbb hs0) (cell_keep hbb hs0 hx0))
              rw [hlen] at hCC
              have HB6 := Aside0.mk (below_keep hbb (HB4.out.trans (hb0.mono hws)))
              obtain ⟨q, hq⟩ : ∃ q, q = (bytesOf u).any (missB u) := ⟨_, rfl⟩
              have HQ := Aside0.mk (show wholeB u = !q by rw [hq]; rfl)
              rw [← hq] at hCC
              clear hq hsm hbb hb0 hs0 hx0
              rw [HQ.out] at HT5
              cases q with
              | false =>
                obtain rfl : o1 = true := by
                  have h5 := HT5.out
                  rw [if_pos (by decide)] at h5
                  exact h5.symm
                obtain rfl : o = true := by
                  have h5 := HT3.out
                  rw [if_pos rfl] at h5
                  exact h5.symm
                go_wp2_with (go_at_call 64; refine hCC.mono ?_; rintro e w2 ⟨rfl, hb3⟩)
                go_ret2
                exact ⟨rfl, below_keep hb3 HB6.out⟩
              | true =>
                have HT7 := Aside0.mk (show sizesB t (a0.size - (sz + 1)) (sz + 1) = o1 by
                  have h5 := HT5.out
                  rw [if_neg (by decide)] at h5
                  exact h5)
                go_wp2_with (go_at_call 64; refine hCC.mono ?_; rintro e w2 ⟨rfl, hb3⟩)
                go_roundg gm
                case measure => omega
                case rel => exact ⟨sz + 1, by first | rfl | (simp; done), ⟨by have := HG1.out; omega⟩, ⟨by omega⟩, HT7, ⟨below_keep hb3 HB6.out⟩⟩
            · have c4b0 : decide ((sz : Int) < (a0.size : Int)) = false := decide_eq_false (by omega)
              have c5b0 : decide (sz < a0.size) = false := decide_eq_false hs
              obtain rfl : o1 = false := by
                have h5 := HT4.out
                rw [show a0.size - sz = 0 by omega] at h5
                exact h5.symm
              have HT6 := Aside0.mk (show fromB a0 (a0.size - (pos + 1)) (pos + 1) = o by
                have h5 := HT3.out
                rw [if_neg (by decide)] at h5
                exact h5)
              clear HT4 HT3
              go_wp2
              go_roundg gn
              case measure => omega
              case rel => exact ⟨pos + 1, by first | rfl | (simp; done), ⟨by have := HG.out; omega⟩, HT6, HB4⟩
        · have c4b0 : decide ((pos : Int) < (a0.size : Int)) = false := decide_eq_false (by omega)
          have c5b0 : decide (pos < a0.size) = false := decide_eq_false hp
          obtain rfl : o = false := by
            have h5 := HT.out
            rw [show a0.size - pos = 0 by omega] at h5
            exact h5.symm
          go_wp2
          go_ret2
          exact ⟨rfl, HB.out⟩
    · rw [if_neg hA] at h; cases h
end Go.Proofs.YtcgoaipbfnhjhaaGreatDoor.Pr

-- Written by a program for this claim.
namespace Go.Proofs.YtcgoaipbfnhjhaaGreatDoor.Pr
open Go.RowKit Go.Proofs.YtcgoaipbfnhjhaaGreatDoorW.PrintWords Go.Proofs.YtcgoaipbfnhjhaaGreatDoorW.PrintLast Go.Proofs.YtcgoaipbfnhjhaaGreatDoorW.PrintMore
attribute [local go_sem] max2_int min2_int max_two min_two max_three min_three max_four min_four   -- for this text's walks alone
set_option linter.unusedVariables false
set_option linter.unusedSimpArgs false

/-! ### spec_loWhole: function 88 -/
def spec_loWhole.l0 : Nat → ByteArray → Int → Option (Bool)
  | 0, _, _ => none
  | k + 1, x0, x3 => if x3 < (x0.size : Int) then (if 0 ≤ x3 then ((spec_loPlaces.f k x0 (bt x0 x3)).bind fun bt272 => (if bt272.1 = bt272.2 then (some false) else (spec_loWhole.l0 k x0 (wrap64 (x3 + 1))))) else (none)) else (some true)
def spec_loWhole.f (k : Nat) (a0 : ByteArray) : Option (Bool) := spec_loWhole.l0 k a0 0
theorem spec_loWhole.mono_l : ∀ k, (∀ y0 y1, LeO (spec_loWhole.l0 k y0 y1) (spec_loWhole.l0 (k + 1) y0 y1))
  | 0 => fun _ _ r h => by simp [spec_loWhole.l0] at h
  | k + 1 => by
    have ih0 := spec_loWhole.mono_l k
    · intro y0 y1
      unfold spec_loWhole.l0
      repeat' first
      | (with_reducible exact ih0 _ _)
      | (with_reducible exact spec_loPlaces.mono _ _ _)
      | (with_reducible exact LeO.refl _)
      | (with_reducible exact LeO.none _)
      | (with_reducible refine LeO.ite ?_ ?_)
      | (with_reducible refine LeO.bind ?_ (fun _ => ?_))
      | exact ih0 _ _
      | exact spec_loPlaces.mono _ _ _
      | exact LeO.none _
      | refine LeO.ite ?_ ?_
      | refine LeO.bind ?_ (fun _ => ?_)
theorem spec_loWhole.mono : ∀ a0 k, LeO (spec_loWhole.f k a0) (spec_loWhole.f (k + 1) a0) := by
  intro a0 k
  have ih0 := spec_loWhole.mono_l k
  unfold spec_loWhole.f
  repeat' first
      | (with_reducible exact ih0 _ _)
      | (with_reducible exact spec_loPlaces.mono _ _ _)
      | (with_reducible exact LeO.refl _)
      | (with_reducible exact LeO.none _)
      | (with_reducible refine LeO.ite ?_ ?_)
      | (with_reducible refine LeO.bind ?_ (fun _ => ?_))
      | exact ih0 _ _
      | exact spec_loPlaces.mono _ _ _
      | exact LeO.none _
      | refine LeO.ite ?_ ?_
      | refine LeO.bind ?_ (fun _ => ?_)
set_option maxHeartbeats 8000000 in
set_option maxRecDepth 100000 in
theorem spec_loWhole.calls (k : Nat) (a0 : ByteArray) (r : Bool) (w : World) (h : spec_loWhole.f k a0 = some r) :
    Calls Tryz.prog 88 #[.string a0] w fun e w' => e = .returned (.bool r) ∧ Drawn0 w w' := by
  have H : (spec_loWhole.l0 k a0 0) = some r := h
  clear h
  have H' := Aside0.mk H
  clear H
  go_enter Tryz.func88, Tryz.ntmps88
  go_wp2
  go_loopg [3] k (fun kq v3 w' => ∃ (x3_1 : Int), v3 = .int .i64 x3_1 ∧ Aside0 (spec_loWhole.l0 kq a0 x3_1 = some r) ∧ Aside0 (kq ≤ k) ∧ Drawn0 w w')
  case atStart => exact ⟨(0), (by first | rfl | (simp; done) | (simp [*]; done)), H', ⟨Nat.le_refl _⟩, by repeat (first | exact Drawn0.refl _ | apply Drawn0.step)⟩
  case round =>
    clear H'
    obtain ⟨x3_1, rfl, HA, HK1, ⟨m1, rfl⟩⟩ := hrel
    cases gk with
    | zero => exact absurd HA.out (by simp [spec_loWhole.l0])
    | succ k1 =>
      have H := HA.out
      clear HA
      simp only [spec_loWhole.l0] at H
      by_cases c2 : x3_1 < (a0.size : Int)
      · rw [if_pos c2] at H
        have c2b0 : decide (x3_1 < (a0.size : Int)) = true := decide_eq_true c2
        clear c2
        by_cases c3 : 0 ≤ x3_1
        · rw [if_pos c3] at H
          have c3b0 : decide (0 ≤ x3_1) = true := decide_eq_true c3
          clear c3
          replace H := Option.bind_eq_some_iff.mp H
          obtain ⟨⟨t272, t273⟩, A50, H⟩ := H
          replace H : (if t272 = t273 then (some false) else (spec_loWhole.l0 k1 a0 (wrap64 (x3_1 + 1)))) = some r := H
          have A5 := Aside0.mk A50
          clear A50
          by_cases c6 : t272 = t273
          · rw [if_pos c6] at H
            have c6b0 : (t272 == t273) = true := beq_iff_eq.mpr c6
            have c6b1 : (t272 != t273) = false := bne_eq_false_iff_eq.mpr c6
            clear c6
            obtain rfl := Option.some.inj H
            have p4 : 0 ≤ (x3_1 : Int) := of_decide_eq_true (by first | (with_reducible assumption) | assumption)
            have q4 : x3_1 < (a0.size : Int) := of_decide_eq_true (by first | (with_reducible assumption) | assumption)
            have hx4 := bt_at a0 x3_1
            replace p4 := eq_true p4
            replace q4 := eq_true q4
            go_wp2_with (first | ((with_reducible refine gate_callee (f := 86) rfl ?_); refine goesL_ (some 17) rfl rfl Tryz.func86 (by kernel_rfl) rfl #[.string a0, .int .u8 (bt a0 x3_1)] rfl (by (try simp only [List.map_toArray, List.map_cons, List.map_nil]); first | done | rfl | (simp only [List.length_drop, List.length_take]; rfl)) ?_; (with_reducible refine (spec_loPlaces.calls k1 a0 (bt a0 x3_1) t272 t273 _ A5.out).mono ?_); rintro e w' ⟨rfl, ⟨nd, rfl⟩⟩; refine ⟨_, rfl, ?_⟩))
            go_ret
            exact ⟨by first | rfl | (simp; done) | (simp [*]; done), by repeat (first | exact Drawn0.refl _ | apply Drawn0.step)⟩
          · rw [if_neg c6] at H
            have c6b0 : (t272 == t273) = false := beq_eq_false_iff_ne.mpr c6
            have c6b1 : (t272 != t273) = true := bne_iff_ne.mpr c6
            have H' := Aside0.mk H
            clear H
            have p4 : 0 ≤ (x3_1 : Int) := of_decide_eq_true (by first | (with_reducible assumption) | assumption)
            have q4 : x3_1 < (a0.size : Int) := of_decide_eq_true (by first | (with_reducible assumption) | assumption)
            have hx4 := bt_at a0 x3_1
            replace p4 := eq_true p4
            replace q4 := eq_true q4
            go_wp2_with (first | ((with_reducible refine gate_callee (f := 86) rfl ?_); refine goesL_ (some 17) rfl rfl Tryz.func86 (by kernel_rfl) rfl #[.string a0, .int .u8 (bt a0 x3_1)] rfl (by (try simp only [List.map_toArray, List.map_cons, List.map_nil]); first | done | rfl | (simp only [List.length_drop, List.length_take]; rfl)) ?_; (with_reducible refine (spec_loPlaces.calls k1 a0 (bt a0 x3_1) t272 t273 _ A5.out).mono ?_); rintro e w' ⟨rfl, ⟨nd, rfl⟩⟩; refine ⟨_, rfl, ?_⟩))
            go_roundg k1
            case measure => have := HK1.out; omega
            case rel => exact ⟨(wrap64 (x3_1 + 1)), (by first | rfl | (simp; done) | (simp [*]; done)), H', ⟨by have := HK1.out; omega⟩, by repeat (first | exact Drawn0.refl _ | apply Drawn0.step)⟩
        · rw [if_neg c3] at H
          exact absurd H (by simp)
      · rw [if_neg c2] at H
        have c2b0 : decide (x3_1 < (a0.size : Int)) = false := decide_eq_false c2
        clear c2
        obtain rfl := Option.some.inj H
        go_wp2
        go_ret
        exact ⟨by first | rfl | (simp; done) | (simp [*]; done), by repeat (first | exact Drawn0.refl _ | apply Drawn0.step)⟩

end Go.Proofs.YtcgoaipbfnhjhaaGreatDoor.Pr

/- What the reference's IsOneLoop computes. -/
namespace Go.Proofs.YtcgoaipbfnhjhaaGreatDoor.Pr
open Go.RowKit Go.Proofs.YtcgoaipbfnhjhaaGreatDoorW.PrintWords Go.Proofs.YtcgoaipbfnhjhaaGreatDoorW.PrintLast Go.Proofs.YtcgoaipbfnhjhaaGreatDoorW.PrintMore
set_option linter.unusedVariables false
set_option linter.unusedSimpArgs false

/-- Is one of the beginnings of a text, from a size on, whole? -/
def sizesF (k : Nat) (t : ByteArray) : Nat → Nat → Option Bool
  | 0, _ => some false
  | d + 1, sz => (spec_loWhole.f k (t.extract 0 sz)).bind fun o => if o = true then some true else sizesF k t d (sz + 1)
/-- .. of one of the turns of a text. -/
def fromF (k : Nat) (s : ByteArray) : Nat → Nat → Option Bool
  | 0, _ => some false
  | d + 1, i => (sizesF k (s.extract i s.size ++ s.extract 0 i) (s.size - 1) 1).bind fun o => if o = true then some true else fromF k s d (i + 1)
def spec_IsOneLoop.f (k : Nat) (a0 : ByteArray) : Option (Bool × Bool) :=
  (spec_loGood.f k a0).bind fun g => if g = true then (if asciiB a0 = true then (fromF k a0 a0.size 0).bind fun o => some (!o, true) else none) else some (false, false)
theorem sizesF_mono (t : ByteArray) : ∀ (d i : Nat) (k : Nat), LeO (sizesF k t d i) (sizesF (k + 1) t d i)
  | 0, i, k => LeO.refl _
  | d + 1, i, k => by
    unfold sizesF
    exact LeO.bind (spec_loWhole.mono _ _) (fun o => LeO.ite (LeO.refl _) (sizesF_mono t d (i + 1) k))
theorem fromF_mono (s : ByteArray) : ∀ (d i : Nat) (k : Nat), LeO (fromF k s d i) (fromF (k + 1) s d i)
  | 0, i, k => LeO.refl _
  | d + 1, i, k => by
    unfold fromF
    exact LeO.bind (sizesF_mono _ _ _ _) (fun o => LeO.ite (LeO.refl _) (fromF_mono s d (i + 1) k))
theorem spec_IsOneLoop.mono : ∀ a0 k, LeO (spec_IsOneLoop.f k a0) (spec_IsOneLoop.f (k + 1) a0) := by
  intro a0 k
  unfold spec_IsOneLoop.f
  exact LeO.bind (spec_loGood.mono _ _) (fun b => LeO.ite (LeO.ite (LeO.bind (fromF_mono _ _ _ _) (fun _ => LeO.refl _)) (LeO.refl _)) (LeO.refl _))

set_option maxHeartbeats 8000000 in
set_option maxRecDepth 100000 in
theorem spec_IsOneLoop.calls (k : Nat) (a0 : ByteArray) (r1 : Bool) (r2 : Bool) (w : World) (h : spec_IsOneLoop.f k a0 = some (r1, r2)) :
    Calls Tryz.prog 37 #[.string a0] w fun e w' => e = .returned (.tuple #[.bool r1, .bool r2]) ∧ Below w.heap.size w w' := by
  obtain ⟨g, hg, h⟩ := Option.bind_eq_some_iff.mp h
  have HGd := Aside0.mk (fun (W : World) => spec_loGood.calls k a0 g W hg)
  cases g with
  | false =>
    obtain ⟨rfl, rfl⟩ : r1 = false ∧ r2 = false := by
      rw [if_neg (by decide)] at h
      have h5 := Option.some.inj h
      exact ⟨(congrArg Prod.fst h5).symm, (congrArg Prod.snd h5).symm⟩
    clear h hg
    go_enter Tryz.func37, Tryz.ntmps37
    go_wp2_with (go_at_call 71; refine (HGd.out _).mono ?_; rintro e w1 ⟨rfl, ⟨nd, rfl⟩⟩)
    go_ret2
    exact ⟨rfl, pw_below_drewN (Below.refl _ _) nd⟩
  | true =>
    rw [if_pos rfl] at h
    by_cases hA : asciiB a0 = true
    · rw [if_pos hA] at h
      obtain ⟨o, ho, h⟩ := Option.bind_eq_some_iff.mp h
      obtain ⟨rfl, rfl⟩ : r1 = (!o) ∧ r2 = true := ⟨(congrArg Prod.fst (Option.some.inj h)).symm, (congrArg Prod.snd (Option.some.inj h)).symm⟩

      have HO := Aside0.mk ho
      have HAS := Aside0.mk (ascii_at hA)
      clear h hg ho hA
      go_enter Tryz.func37, Tryz.ntmps37
      go_wp2_with (go_at_call 71; refine (HGd.out _).mono ?_; rintro e w1 ⟨rfl, ⟨nd, rfl⟩⟩)
      generalize hK0 : w.heap.size = K0
      have hw9 : (w.drewN nd).heap.size = K0 := hK0
      try rw [hw9]
      have HIt := Aside0.mk (show ((w.drewN nd).iter a0 0).heap[K0]? = some (.stringIter a0 0) by rw [← hw9]; exact World.iter_heap _ a0 0)
      have HB := Aside0.mk (show Below K0 w ((w.drewN nd).iter a0 0) by
        have h5 := below_alloc (pw_below_drewN (Below.refl w.heap.size w) nd) (.stringIter a0 0)
        rw [hK0] at h5
        exact h5)
      have HT := Aside0.mk (show fromF k a0 (a0.size - 0) 0 = some o from HO.out)
      clear HO hw9 HGd
      generalize (w.drewN nd).iter a0 0 = W0 at HIt HB ⊢
      go_loopg [6] a0.size (fun gg v6 w' => ∃ (pos : Nat), Aside0 (pos + gg = a0.size) ∧ Aside0 (w'.heap[K0]? = some (.stringIter a0 pos)) ∧ Aside0 (fromF k a0 (a0.size - pos) pos = some o) ∧ Aside0 (Below K0 w w'))
      case atStart => exact ⟨0, ⟨by omega⟩, HIt, HT, HB⟩
      case round =>
        obtain ⟨pos, HG, HIt1, HT1, HB1⟩ := hrel
        clear HIt HT HB
        have HIt := HIt1
        have HT := HT1
        have HB := HB1
        clear HIt1 HT1 HB1
        by_cases hp : pos < a0.size
        · obtain ⟨gn, rfl⟩ : ∃ gn, gk = gn + 1 := ⟨gk - 1, by have := HG.out; omega⟩
          have h128 := HAS.out.2 pos hp
          have hnext : ∀ ty, (Instr.next (.pointer (some ⟨K0, 0, none⟩)) true ty).run Tryz.prog wr = _ := fun ty => Lib.run_next_ascii_at wr K0 a0 pos ty HIt.out hp h128
          have HIt1 := Aside0.mk (Lib.iterAt_heap wr K0 a0 pos (pos + 1) HIt.out)
          have HBe := Aside0.mk (Lib.below_iterAt HB.out (Nat.le_refl _) a0 (pos + 1))
          clear HIt HB
          have hT3 := HT.out
          rw [show a0.size - pos = (a0.size - (pos + 1)) + 1 by omega] at hT3
          obtain ⟨o1, ho1, hT3⟩ := Option.bind_eq_some_iff.mp hT3
          have HS := Aside0.mk ho1
          have HT3 := Aside0.mk hT3
          clear hT3 HT ho1
          generalize wr.iterAt K0 a0 (pos + 1) = W3 at hnext HIt1 HBe
          have hz1 : a0.size ≤ 1000 := HAS.out.1
          have hsz1 : (pos : Int) ≤ (a0.size : Int) := by omega
          have hz2 : ¬ 9223372036854775807 < (a0.extract pos a0.size).size + (a0.extract 0 pos).size := by
            rw [ByteArray.size_extract, ByteArray.size_extract]
            omega
          have hz3 : (9223372036854775807 < (a0.extract pos a0.size).size + (a0.extract 0 pos).size) = False := eq_false hz2
          have hz4 : (9223372036854775807 < a0.size) = False := eq_false (by omega)
          have hp0 : ((0 : Int) ≤ (pos : Int)) = True := eq_true (by omega)
          have hp1 : ((pos : Int) ≤ (a0.size : Int)) = True := eq_true hsz1
          have hp2 : pos ≤ a0.size := by omega
          have hts : (a0.extract pos a0.size ++ a0.extract 0 pos).size = a0.size := by
            rw [ByteArray.size_append, ByteArray.size_extract, ByteArray.size_extract]
            omega
          go_wp2
          go_quiet (fail)
          generalize a0.extract pos a0.size ++ a0.extract 0 pos = t at hts HS ⊢
          go_wp2
          have HB2 := Aside0.mk (show Below K0 w (W3.drewN nq) from pw_below_drewN HBe.out nq)
          have HIt2 := Aside0.mk (show (W3.drewN nq).heap[K0]? = some (.stringIter a0 (pos + 1)) from HIt1.out)
          have HT2 := Aside0.mk (show sizesF k t (a0.size - 1) 1 = some o1 from HS.out)
          clear HBe HIt1 HS
          generalize W3.drewN nq = W4 at HB2 HIt2 ⊢
          go_loopg [6] a0.size (fun gg v6 w' => ∃ (sz : Nat), v6 = .int .i64 sz ∧ Aside0 (sz + gg = a0.size + 1) ∧ Aside0 (1 ≤ sz) ∧ Aside0 (sizesF k t (a0.size - sz) sz = some o1) ∧ Aside0 (w'.heap[K0]? = some (.stringIter a0 (pos + 1))) ∧ Aside0 (Below K0 w w'))
          case atStart => exact ⟨1, rfl, ⟨by omega⟩, ⟨by omega⟩, HT2, HIt2, HB2⟩
          case round =>
            obtain ⟨sz, rfl, HG1, HG2, HT4, HIt4, HB4⟩ := hrel
            clear HT2 HIt2 HB2
            by_cases hs : sz < a0.size
            · have c4b0 : decide ((sz : Int) < (a0.size : Int)) = true := decide_eq_true (by omega)
              have c5b0 : decide (sz < a0.size) = true := decide_eq_true hs
              obtain ⟨gm, rfl⟩ : ∃ gm, gk = gm + 1 := ⟨gk - 1, by have := HG1.out; omega⟩
              have hT5 := HT4.out
              rw [show a0.size - sz = (a0.size - (sz + 1)) + 1 by omega] at hT5
              obtain ⟨o2, ho2, hT5⟩ := Option.bind_eq_some_iff.mp hT5
              have HW := Aside0.mk (fun (W : World) => spec_loWhole.calls k _ o2 W ho2)
              have hs2 : sz ≤ t.size := by omega
              have hs3 : ((sz : Int) ≤ (t.size : Int)) = True := eq_true (by omega)
              have hs4 : ((0 : Int) ≤ (sz : Int)) = True := eq_true (by omega)
              cases o2 with
              | true =>
                obtain rfl : o1 = true := by rw [if_pos rfl] at hT5; exact (Option.some.inj hT5).symm
                obtain rfl : o = true := by
                  have h5 := HT3.out
                  rw [if_pos rfl] at h5
                  exact (Option.some.inj h5).symm
                clear hT5 HT4 HT3
                go_wp2_with (go_at_call 88; refine (HW.out _).mono ?_; rintro e w1 ⟨rfl, ⟨nd1, rfl⟩⟩)
                go_ret2
                exact ⟨rfl, by rw [hK0]; exact pw_below_drewN HB4.out nd1⟩
              | false =>
                have HT5 := Aside0.mk (show sizesF k t (a0.size - (sz + 1)) (sz + 1) = some o1 by rw [if_neg (by decide)] at hT5; exact hT5)
                clear hT5 HT4
                go_wp2_with (go_at_call 88; refine (HW.out _).mono ?_; rintro e w1 ⟨rfl, ⟨nd1, rfl⟩⟩)
                go_roundg gm
                case measure => omega
                case rel => exact ⟨sz + 1, by first | rfl | (simp; done), ⟨by have := HG1.out; omega⟩, ⟨by omega⟩, HT5, HIt4, ⟨pw_below_drewN HB4.out nd1⟩⟩
            · have c4b0 : decide ((sz : Int) < (a0.size : Int)) = false := decide_eq_false (by omega)
              have c5b0 : decide (sz < a0.size) = false := decide_eq_false hs
              obtain rfl : o1 = false := by
                have h5 := HT4.out
                rw [show a0.size - sz = 0 by omega] at h5
                exact (Option.some.inj h5).symm
              have HT6 := Aside0.mk (show fromF k a0 (a0.size - (pos + 1)) (pos + 1) = some o by
                have h5 := HT3.out
                rw [if_neg (by decide)] at h5
                exact h5)
              clear HT4 HT3
              go_wp2
              go_roundg gn
              case measure => omega
              case rel => exact ⟨pos + 1, ⟨by have := HG.out; omega⟩, HIt4, HT6, HB4⟩
        · have hnext : ∀ ty, (Instr.next (.pointer (some ⟨K0, 0, none⟩)) true ty).run Tryz.prog wr = _ := fun ty => Lib.run_next_end_at wr K0 a0 pos ty HIt.out hp
          obtain rfl : o = false := by
            have h5 := HT.out
            rw [show a0.size - pos = 0 by omega] at h5
            exact (Option.some.inj h5).symm
          go_wp2
          go_ret2
          exact ⟨rfl, by rw [hK0]; exact HB.out⟩
    · rw [if_neg hA] at h; cases h
end Go.Proofs.YtcgoaipbfnhjhaaGreatDoor.Pr

-- Written by a program for this claim.
namespace Go.Proofs.YtcgoaipbfnhjhaaGreatDoor.Pr
open Go.RowKit Go.Proofs.YtcgoaipbfnhjhaaGreatDoorW.PrintWords Go.Proofs.YtcgoaipbfnhjhaaGreatDoorW.PrintLast Go.Proofs.YtcgoaipbfnhjhaaGreatDoorW.PrintMore
attribute [local go_sem] max2_int min2_int max_two min_two max_three min_three max_four min_four   -- for this text's walks alone
set_option linter.unusedVariables false
set_option linter.unusedSimpArgs false

/-! ### impl_BackLoop: function 38 -/
def impl_BackLoop.f (k : Nat) (a0 : ByteArray) : Option (ByteArray × Bool) := (impl_IsLoop.f k a0).bind fun t127 => (if t127 = true then ((impl_backward.f a0).bind fun t128 => ((impl_named.f k t128).bind fun t129 => (some (t129, true)))) else (some ((⟨#[]⟩ : ByteArray), false)))
theorem impl_BackLoop.mono : ∀ a0 k, LeO (impl_BackLoop.f k a0) (impl_BackLoop.f (k + 1) a0) := by
  intro a0 k
  unfold impl_BackLoop.f
  repeat' first
      | (with_reducible exact impl_IsLoop.mono _ _)
      | (with_reducible exact impl_named.mono _ _)
      | (with_reducible exact LeO.refl _)
      | (with_reducible exact LeO.none _)
      | (with_reducible refine LeO.ite ?_ ?_)
      | (with_reducible refine LeO.bind ?_ (fun _ => ?_))
      | exact impl_IsLoop.mono _ _
      | exact impl_named.mono _ _
      | exact LeO.none _
      | refine LeO.ite ?_ ?_
      | refine LeO.bind ?_ (fun _ => ?_)
set_option maxHeartbeats 8000000 in
set_option maxRecDepth 100000 in
theorem impl_BackLoop.calls (k : Nat) (a0 : ByteArray) (r1 : ByteArray) (r2 : Bool) (w : World) (h : impl_BackLoop.f k a0 = some (r1, r2)) :
    Calls Tryz.prog 38 #[.string a0] w fun e w' => e = .returned (.tuple #[.string r1, .bool r2]) ∧ Below w.heap.size w w' := by
  have HB := Aside0.mk (Below.refl w.heap.size w)
  have H : ((impl_IsLoop.f k a0).bind fun t127 => (if t127 = true then ((impl_backward.f a0).bind fun t128 => ((impl_named.f k t128).bind fun t129 => (some (t129, true)))) else (some ((⟨#[]⟩ : ByteArray), false)))) = some (r1, r2) := h
  clear h
  replace H := Option.bind_eq_some_iff.mp H
  obtain ⟨t127, A20, H⟩ := H
  replace H : (if t127 = true then ((impl_backward.f a0).bind fun t128 => ((impl_named.f k t128).bind fun t129 => (some (t129, true)))) else (some ((⟨#[]⟩ : ByteArray), false))) = some (r1, r2) := H
  have A2 := Aside0.mk A20
  clear A20
  by_cases c3 : t127 = true
  · subst c3
    have H1 : ((impl_backward.f a0).bind fun t128 => ((impl_named.f k t128).bind fun t129 => (some (t129, true)))) = some (r1, r2) := by rw [if_pos rfl] at H; exact H
    clear H
    have H := H1
    clear H1
    replace H := Option.bind_eq_some_iff.mp H
    obtain ⟨t128, A40, H⟩ := H
    replace H : ((impl_named.f k t128).bind fun t129 => (some (t129, true))) = some (r1, r2) := H
    have A4 := Aside0.mk A40
    clear A40
    replace H := Option.bind_eq_some_iff.mp H
    obtain ⟨t129, A50, H⟩ := H
    replace H : (some (t129, true)) = some (r1, r2) := H
    have A5 := Aside0.mk A50
    clear A50
    simp only [Option.some.injEq, Prod.mk.injEq] at H
    obtain ⟨rfl, rfl⟩ := H
    go_enter Tryz.func38, Tryz.ntmps38
    go_wp2_with (first | ((with_reducible refine gate_callee (f := 12) rfl ?_); refine goesL_ (some 5) rfl rfl Tryz.func12 (by kernel_rfl) rfl #[.string a0] rfl (by (try simp only [List.map_toArray, List.map_cons, List.map_nil]); first | done | rfl | (simp only [List.length_drop, List.length_take]; rfl)) ?_; (with_reducible refine (impl_IsLoop.calls k a0 true _ A2.out).mono ?_); rintro e w6 ⟨rfl, hb⟩; refine ⟨_, rfl, ?_⟩; have n0_ := Aside0.mk (below_step (by repeat (first | (with_reducible first | exact HB.out | apply below_alloc | apply pw_below_drewN | apply below_drew1) | exact HB.out)) hb); clear HB; have HB := n0_; clear n0_; (try clear hb); (try clear hb2); (try clear hk); (try clear hi)) | ((with_reducible refine gate_callee (f := 89) rfl ?_); refine goesL_ (some 8) rfl rfl Tryz.func89 (by kernel_rfl) rfl #[.string a0] rfl (by (try simp only [List.map_toArray, List.map_cons, List.map_nil]); first | done | rfl | (simp only [List.length_drop, List.length_take]; rfl)) ?_; (with_reducible refine (impl_backward.calls a0 t128 _ A4.out).mono ?_); rintro e w7 ⟨rfl, hb⟩; refine ⟨_, rfl, ?_⟩; have n0_ := Aside0.mk (below_step (by repeat (first | (with_reducible first | exact HB.out | apply below_alloc | apply pw_below_drewN | apply below_drew1) | exact HB.out)) hb); clear HB; have HB := n0_; clear n0_; (try clear hb); (try clear hb2); (try clear hk); (try clear hi)) | ((with_reducible refine gate_callee (f := 63) rfl ?_); refine goesL_ (some 9) rfl rfl Tryz.func63 (by kernel_rfl) rfl #[.string t128] rfl (by (try simp only [List.map_toArray, List.map_cons, List.map_nil]); first | done | rfl | (simp only [List.length_drop, List.length_take]; rfl)) ?_; (with_reducible refine (impl_named.calls k t128 t129 _ A5.out).mono ?_); rintro e w8 ⟨rfl, hb⟩; refine ⟨_, rfl, ?_⟩; have n0_ := Aside0.mk (below_step (by repeat (first | (with_reducible first | exact HB.out | apply below_alloc | apply pw_below_drewN | apply below_drew1) | exact HB.out)) hb); clear HB; have HB := n0_; clear n0_; (try clear hb); (try clear hb2); (try clear hk); (try clear hi)))
    go_ret2
    exact ⟨by first | rfl | (simp [errW_none, errW_some] <;> rfl) | (simp [*, errW_none, errW_some] <;> rfl), by repeat (first | (with_reducible first | exact HB.out | apply below_alloc | apply pw_below_drewN | apply below_drew1) | exact HB.out)⟩
  · replace c3 := Bool.eq_false_iff.mpr c3
    subst c3
    have H1 : (some ((⟨#[]⟩ : ByteArray), false)) = some (r1, r2) := by rw [if_neg (show ¬ (false = true) by decide)] at H; exact H
    clear H
    have H := H1
    clear H1
    simp only [Option.some.injEq, Prod.mk.injEq] at H
    obtain ⟨rfl, rfl⟩ := H
    go_enter Tryz.func38, Tryz.ntmps38
    go_wp2_with (first | ((with_reducible refine gate_callee (f := 12) rfl ?_); refine goesL_ (some 5) rfl rfl Tryz.func12 (by kernel_rfl) rfl #[.string a0] rfl (by (try simp only [List.map_toArray, List.map_cons, List.map_nil]); first | done | rfl | (simp only [List.length_drop, List.length_take]; rfl)) ?_; (with_reducible refine (impl_IsLoop.calls k a0 false _ A2.out).mono ?_); rintro e w9 ⟨rfl, hb⟩; refine ⟨_, rfl, ?_⟩; have n0_ := Aside0.mk (below_step (by repeat (first | (with_reducible first | exact HB.out | apply below_alloc | apply pw_below_drewN | apply below_drew1) | exact HB.out)) hb); clear HB; have HB := n0_; clear n0_; (try clear hb); (try clear hb2); (try clear hk); (try clear hi)))
    go_ret2
    exact ⟨by first | rfl | (simp [errW_none, errW_some] <;> rfl) | (simp [*, errW_none, errW_some] <;> rfl), by repeat (first | (with_reducible first | exact HB.out | apply below_alloc | apply pw_below_drewN | apply below_drew1) | exact HB.out)⟩

end Go.Proofs.YtcgoaipbfnhjhaaGreatDoor.Pr

-- Written by a program for this claim.
namespace Go.Proofs.YtcgoaipbfnhjhaaGreatDoor.Pr
open Go.RowKit Go.Proofs.YtcgoaipbfnhjhaaGreatDoorW.PrintWords Go.Proofs.YtcgoaipbfnhjhaaGreatDoorW.PrintLast Go.Proofs.YtcgoaipbfnhjhaaGreatDoorW.PrintMore
attribute [local go_sem] max2_int min2_int max_two min_two max_three min_three max_four min_four   -- for this text's walks alone
set_option linter.unusedVariables false
set_option linter.unusedSimpArgs false

/-! ### spec_BackLoop: function 39 -/
def spec_BackLoop.f (k : Nat) (a0 : ByteArray) : Option (ByteArray × Bool) := (spec_loGood.f k a0).bind fun t161 => (if t161 = true then ((spec_loBack.f k a0).bind fun t162 => (some (t162, true))) else (some ((⟨#[]⟩ : ByteArray), false)))
theorem spec_BackLoop.mono : ∀ a0 k, LeO (spec_BackLoop.f k a0) (spec_BackLoop.f (k + 1) a0) := by
  intro a0 k
  unfold spec_BackLoop.f
  repeat' first
      | (with_reducible exact spec_loBack.mono _ _)
      | (with_reducible exact spec_loGood.mono _ _)
      | (with_reducible exact LeO.refl _)
      | (with_reducible exact LeO.none _)
      | (with_reducible refine LeO.ite ?_ ?_)
      | (with_reducible refine LeO.bind ?_ (fun _ => ?_))
      | exact spec_loBack.mono _ _
      | exact spec_loGood.mono _ _
      | exact LeO.none _
      | refine LeO.ite ?_ ?_
      | refine LeO.bind ?_ (fun _ => ?_)
set_option maxHeartbeats 8000000 in
set_option maxRecDepth 100000 in
theorem spec_BackLoop.calls (k : Nat) (a0 : ByteArray) (r1 : ByteArray) (r2 : Bool) (w : World) (h : spec_BackLoop.f k a0 = some (r1, r2)) :
    Calls Tryz.prog 39 #[.string a0] w fun e w' => e = .returned (.tuple #[.string r1, .bool r2]) ∧ Drawn0 w w' := by
  have H : ((spec_loGood.f k a0).bind fun t161 => (if t161 = true then ((spec_loBack.f k a0).bind fun t162 => (some (t162, true))) else (some ((⟨#[]⟩ : ByteArray), false)))) = some (r1, r2) := h
  clear h
  replace H := Option.bind_eq_some_iff.mp H
  obtain ⟨t161, A20, H⟩ := H
  replace H : (if t161 = true then ((spec_loBack.f k a0).bind fun t162 => (some (t162, true))) else (some ((⟨#[]⟩ : ByteArray), false))) = some (r1, r2) := H
  have A2 := Aside0.mk A20
  clear A20
  by_cases c3 : t161 = true
  · subst c3
    have H1 : ((spec_loBack.f k a0).bind fun t162 => (some (t162, true))) = some (r1, r2) := by rw [if_pos rfl] at H; exact H
    clear H
    have H := H1
    clear H1
    replace H := Option.bind_eq_some_iff.mp H
    obtain ⟨t162, A40, H⟩ := H
    replace H : (some (t162, true)) = some (r1, r2) := H
    have A4 := Aside0.mk A40
    clear A40
    simp only [Option.some.injEq, Prod.mk.injEq] at H
    obtain ⟨rfl, rfl⟩ := H
    go_enter Tryz.func39, Tryz.ntmps39
    go_wp2_with (first | ((with_reducible refine gate_callee (f := 71) rfl ?_); refine goesL_ (some 5) rfl rfl Tryz.func71 (by kernel_rfl) rfl #[.string a0] rfl (by (try simp only [List.map_toArray, List.map_cons, List.map_nil]); first | done | rfl | (simp only [List.length_drop, List.length_take]; rfl)) ?_; (with_reducible refine (spec_loGood.calls k a0 true _ A2.out).mono ?_); rintro e w' ⟨rfl, ⟨nd, rfl⟩⟩; refine ⟨_, rfl, ?_⟩) | ((with_reducible refine gate_callee (f := 74) rfl ?_); refine goesL_ (some 8) rfl rfl Tryz.func74 (by kernel_rfl) rfl #[.string a0] rfl (by (try simp only [List.map_toArray, List.map_cons, List.map_nil]); first | done | rfl | (simp only [List.length_drop, List.length_take]; rfl)) ?_; (with_reducible refine (spec_loBack.calls k a0 t162 _ A4.out).mono ?_); rintro e w' ⟨rfl, ⟨nd, rfl⟩⟩; refine ⟨_, rfl, ?_⟩))
    go_ret2
    exact ⟨by first | rfl | (simp; done) | (simp [*]; done), by repeat (first | exact Drawn0.refl _ | apply Drawn0.step)⟩
  · replace c3 := Bool.eq_false_iff.mpr c3
    subst c3
    have H1 : (some ((⟨#[]⟩ : ByteArray), false)) = some (r1, r2) := by rw [if_neg (show ¬ (false = true) by decide)] at H; exact H
    clear H
    have H := H1
    clear H1
    simp only [Option.some.injEq, Prod.mk.injEq] at H
    obtain ⟨rfl, rfl⟩ := H
    go_enter Tryz.func39, Tryz.ntmps39
    go_wp2_with (first | ((with_reducible refine gate_callee (f := 71) rfl ?_); refine goesL_ (some 5) rfl rfl Tryz.func71 (by kernel_rfl) rfl #[.string a0] rfl (by (try simp only [List.map_toArray, List.map_cons, List.map_nil]); first | done | rfl | (simp only [List.length_drop, List.length_take]; rfl)) ?_; (with_reducible refine (spec_loGood.calls k a0 false _ A2.out).mono ?_); rintro e w' ⟨rfl, ⟨nd, rfl⟩⟩; refine ⟨_, rfl, ?_⟩))
    go_ret2
    exact ⟨by first | rfl | (simp; done) | (simp [*]; done), by repeat (first | exact Drawn0.refl _ | apply Drawn0.step)⟩

end Go.Proofs.YtcgoaipbfnhjhaaGreatDoor.Pr

-- Written by a program for this claim.
namespace Go.Proofs.YtcgoaipbfnhjhaaGreatDoor.Pr
open Go.RowKit Go.Proofs.YtcgoaipbfnhjhaaGreatDoorW.PrintWords Go.Proofs.YtcgoaipbfnhjhaaGreatDoorW.PrintLast Go.Proofs.YtcgoaipbfnhjhaaGreatDoorW.PrintMore
attribute [local go_sem] max2_int min2_int max_two min_two max_three min_three max_four min_four   -- for this text's walks alone
set_option linter.unusedVariables false
set_option linter.unusedSimpArgs false

/-! ### impl_CountLoopCrossings: function 40 -/
def impl_CountLoopCrossings.f (k : Nat) (a0 : ByteArray) : Option (Int × Bool) := (impl_IsLoop.f k a0).bind fun t132 => (if t132 = true then (some (wrap64 ((a0.size : Int) / 2), true)) else (some (0, false)))
theorem impl_CountLoopCrossings.mono : ∀ a0 k, LeO (impl_CountLoopCrossings.f k a0) (impl_CountLoopCrossings.f (k + 1) a0) := by
  intro a0 k
  unfold impl_CountLoopCrossings.f
  repeat' first
      | (with_reducible exact impl_IsLoop.mono _ _)
      | (with_reducible exact LeO.refl _)
      | (with_reducible exact LeO.none _)
      | (with_reducible refine LeO.ite ?_ ?_)
      | (with_reducible refine LeO.bind ?_ (fun _ => ?_))
      | exact impl_IsLoop.mono _ _
      | exact LeO.none _
      | refine LeO.ite ?_ ?_
      | refine LeO.bind ?_ (fun _ => ?_)
set_option maxHeartbeats 8000000 in
set_option maxRecDepth 100000 in
theorem impl_CountLoopCrossings.calls (k : Nat) (a0 : ByteArray) (r1 : Int) (r2 : Bool) (w : World) (h : impl_CountLoopCrossings.f k a0 = some (r1, r2)) :
    Calls Tryz.prog 40 #[.string a0] w fun e w' => e = .returned (.tuple #[.int .i64 r1, .bool r2]) ∧ Below w.heap.size w w' := by
  have HB := Aside0.mk (Below.refl w.heap.size w)
  have H : ((impl_IsLoop.f k a0).bind fun t132 => (if t132 = true then (some (wrap64 ((a0.size : Int) / 2), true)) else (some (0, false)))) = some (r1, r2) := h
  clear h
  replace H := Option.bind_eq_some_iff.mp H
  obtain ⟨t132, A20, H⟩ := H
  replace H : (if t132 = true then (some (wrap64 ((a0.size : Int) / 2), true)) else (some (0, false))) = some (r1, r2) := H
  have A2 := Aside0.mk A20
  clear A20
  by_cases c3 : t132 = true
  · subst c3
    have H1 : (some (wrap64 ((a0.size : Int) / 2), true)) = some (r1, r2) := by rw [if_pos rfl] at H; exact H
    clear H
    have H := H1
    clear H1
    simp only [Option.some.injEq, Prod.mk.injEq] at H
    obtain ⟨rfl, rfl⟩ := H
    go_enter Tryz.func40, Tryz.ntmps40
    go_wp2_with (first | ((with_reducible refine gate_callee (f := 12) rfl ?_); refine goesL_ (some 5) rfl rfl Tryz.func12 (by kernel_rfl) rfl #[.string a0] rfl (by (try simp only [List.map_toArray, List.map_cons, List.map_nil]); first | done | rfl | (simp only [List.length_drop, List.length_take]; rfl)) ?_; (with_reducible refine (impl_IsLoop.calls k a0 true _ A2.out).mono ?_); rintro e w4 ⟨rfl, hb⟩; refine ⟨_, rfl, ?_⟩; have n0_ := Aside0.mk (below_step (by repeat (first | (with_reducible first | exact HB.out | apply below_alloc | apply pw_below_drewN | apply below_drew1) | exact HB.out)) hb); clear HB; have HB := n0_; clear n0_; (try clear hb); (try clear hb2); (try clear hk); (try clear hi)))
    go_ret2
    exact ⟨by first | rfl | (simp [errW_none, errW_some] <;> rfl) | (simp [*, errW_none, errW_some] <;> rfl), by repeat (first | (with_reducible first | exact HB.out | apply below_alloc | apply pw_below_drewN | apply below_drew1) | exact HB.out)⟩
  · replace c3 := Bool.eq_false_iff.mpr c3
    subst c3
    have H1 : (some (0, false)) = some (r1, r2) := by rw [if_neg (show ¬ (false = true) by decide)] at H; exact H
    clear H
    have H := H1
    clear H1
    simp only [Option.some.injEq, Prod.mk.injEq] at H
    obtain ⟨rfl, rfl⟩ := H
    go_enter Tryz.func40, Tryz.ntmps40
    go_wp2_with (first | ((with_reducible refine gate_callee (f := 12) rfl ?_); refine goesL_ (some 5) rfl rfl Tryz.func12 (by kernel_rfl) rfl #[.string a0] rfl (by (try simp only [List.map_toArray, List.map_cons, List.map_nil]); first | done | rfl | (simp only [List.length_drop, List.length_take]; rfl)) ?_; (with_reducible refine (impl_IsLoop.calls k a0 false _ A2.out).mono ?_); rintro e w5 ⟨rfl, hb⟩; refine ⟨_, rfl, ?_⟩; have n0_ := Aside0.mk (below_step (by repeat (first | (with_reducible first | exact HB.out | apply below_alloc | apply pw_below_drewN | apply below_drew1) | exact HB.out)) hb); clear HB; have HB := n0_; clear n0_; (try clear hb); (try clear hb2); (try clear hk); (try clear hi)))
    go_ret2
    exact ⟨by first | rfl | (simp [errW_none, errW_some] <;> rfl) | (simp [*, errW_none, errW_some] <;> rfl), by repeat (first | (with_reducible first | exact HB.out | apply below_alloc | apply pw_below_drewN | apply below_drew1) | exact HB.out)⟩

end Go.Proofs.YtcgoaipbfnhjhaaGreatDoor.Pr

-- Written by a program for this claim.
namespace Go.Proofs.YtcgoaipbfnhjhaaGreatDoor.Pr
open Go.RowKit Go.Proofs.YtcgoaipbfnhjhaaGreatDoorW.PrintWords Go.Proofs.YtcgoaipbfnhjhaaGreatDoorW.PrintLast Go.Proofs.YtcgoaipbfnhjhaaGreatDoorW.PrintMore
attribute [local go_sem] max2_int min2_int max_two min_two max_three min_three max_four min_four   -- for this text's walks alone
set_option linter.unusedVariables false
set_option linter.unusedSimpArgs false

/-! ### spec_CountLoopCrossings: function 41 -/
def spec_CountLoopCrossings.f (k : Nat) (a0 : ByteArray) : Option (Int × Bool) := (spec_loGood.f k a0).bind fun t174 => (if t174 = true then (some (wrap64 ((a0.size : Int) / 2), true)) else (some (0, false)))
theorem spec_CountLoopCrossings.mono : ∀ a0 k, LeO (spec_CountLoopCrossings.f k a0) (spec_CountLoopCrossings.f (k + 1) a0) := by
  intro a0 k
  unfold spec_CountLoopCrossings.f
  repeat' first
      | (with_reducible exact spec_loGood.mono _ _)
      | (with_reducible exact LeO.refl _)
      | (with_reducible exact LeO.none _)
      | (with_reducible refine LeO.ite ?_ ?_)
      | (with_reducible refine LeO.bind ?_ (fun _ => ?_))
      | exact spec_loGood.mono _ _
      | exact LeO.none _
      | refine LeO.ite ?_ ?_
      | refine LeO.bind ?_ (fun _ => ?_)
set_option maxHeartbeats 8000000 in
set_option maxRecDepth 100000 in
theorem spec_CountLoopCrossings.calls (k : Nat) (a0 : ByteArray) (r1 : Int) (r2 : Bool) (w : World) (h : spec_CountLoopCrossings.f k a0 = some (r1, r2)) :
    Calls Tryz.prog 41 #[.string a0] w fun e w' => e = .returned (.tuple #[.int .i64 r1, .bool r2]) ∧ Drawn0 w w' := by
  have H : ((spec_loGood.f k a0).bind fun t174 => (if t174 = true then (some (wrap64 ((a0.size : Int) / 2), true)) else (some (0, false)))) = some (r1, r2) := h
  clear h
  replace H := Option.bind_eq_some_iff.mp H
  obtain ⟨t174, A20, H⟩ := H
  replace H : (if t174 = true then (some (wrap64 ((a0.size : Int) / 2), true)) else (some (0, false))) = some (r1, r2) := H
  have A2 := Aside0.mk A20
  clear A20
  by_cases c3 : t174 = true
  · subst c3
    have H1 : (some (wrap64 ((a0.size : Int) / 2), true)) = some (r1, r2) := by rw [if_pos rfl] at H; exact H
    clear H
    have H := H1
    clear H1
    simp only [Option.some.injEq, Prod.mk.injEq] at H
    obtain ⟨rfl, rfl⟩ := H
    go_enter Tryz.func41, Tryz.ntmps41
    go_wp2_with (first | ((with_reducible refine gate_callee (f := 71) rfl ?_); refine goesL_ (some 5) rfl rfl Tryz.func71 (by kernel_rfl) rfl #[.string a0] rfl (by (try simp only [List.map_toArray, List.map_cons, List.map_nil]); first | done | rfl | (simp only [List.length_drop, List.length_take]; rfl)) ?_; (with_reducible refine (spec_loGood.calls k a0 true _ A2.out).mono ?_); rintro e w' ⟨rfl, ⟨nd, rfl⟩⟩; refine ⟨_, rfl, ?_⟩))
    go_ret2
    exact ⟨by first | rfl | (simp; done) | (simp [*]; done), by repeat (first | exact Drawn0.refl _ | apply Drawn0.step)⟩
  · replace c3 := Bool.eq_false_iff.mpr c3
    subst c3
    have H1 : (some (0, false)) = some (r1, r2) := by rw [if_neg (show ¬ (false = true) by decide)] at H; exact H
    clear H
    have H := H1
    clear H1
    simp only [Option.some.injEq, Prod.mk.injEq] at H
    obtain ⟨rfl, rfl⟩ := H
    go_enter Tryz.func41, Tryz.ntmps41
    go_wp2_with (first | ((with_reducible refine gate_callee (f := 71) rfl ?_); refine goesL_ (some 5) rfl rfl Tryz.func71 (by kernel_rfl) rfl #[.string a0] rfl (by (try simp only [List.map_toArray, List.map_cons, List.map_nil]); first | done | rfl | (simp only [List.length_drop, List.length_take]; rfl)) ?_; (with_reducible refine (spec_loGood.calls k a0 false _ A2.out).mono ?_); rintro e w' ⟨rfl, ⟨nd, rfl⟩⟩; refine ⟨_, rfl, ?_⟩))
    go_ret2
    exact ⟨by first | rfl | (simp; done) | (simp [*]; done), by repeat (first | exact Drawn0.refl _ | apply Drawn0.step)⟩

end Go.Proofs.YtcgoaipbfnhjhaaGreatDoor.Pr

-- Written by a program for this claim.
namespace Go.Proofs.YtcgoaipbfnhjhaaGreatDoor.Pr
open Go.RowKit Go.Proofs.YtcgoaipbfnhjhaaGreatDoorW.PrintWords Go.Proofs.YtcgoaipbfnhjhaaGreatDoorW.PrintLast Go.Proofs.YtcgoaipbfnhjhaaGreatDoorW.PrintMore
attribute [local go_sem] max2_int min2_int max_two min_two max_three min_three max_four min_four   -- for this text's walks alone
set_option linter.unusedVariables false
set_option linter.unusedSimpArgs false

/-! ### spec_IsLoop: function 42 -/
def spec_IsLoop.f (k : Nat) (a0 : ByteArray) : Option (Bool) := (spec_loGood.f k a0).bind fun t267 => (some t267)
theorem spec_IsLoop.mono : ∀ a0 k, LeO (spec_IsLoop.f k a0) (spec_IsLoop.f (k + 1) a0) := by
  intro a0 k
  unfold spec_IsLoop.f
  repeat' first
      | (with_reducible exact spec_loGood.mono _ _)
      | (with_reducible exact LeO.refl _)
      | (with_reducible exact LeO.none _)
      | (with_reducible refine LeO.ite ?_ ?_)
      | (with_reducible refine LeO.bind ?_ (fun _ => ?_))
      | exact spec_loGood.mono _ _
      | exact LeO.none _
      | refine LeO.ite ?_ ?_
      | refine LeO.bind ?_ (fun _ => ?_)
set_option maxHeartbeats 8000000 in
set_option maxRecDepth 100000 in
theorem spec_IsLoop.calls (k : Nat) (a0 : ByteArray) (r : Bool) (w : World) (h : spec_IsLoop.f k a0 = some r) :
    Calls Tryz.prog 42 #[.string a0] w fun e w' => e = .returned (.bool r) ∧ Drawn0 w w' := by
  have H : ((spec_loGood.f k a0).bind fun t267 => (some t267)) = some r := h
  clear h
  replace H := Option.bind_eq_some_iff.mp H
  obtain ⟨t267, A20, H⟩ := H
  replace H : (some t267) = some r := H
  have A2 := Aside0.mk A20
  clear A20
  obtain rfl := Option.some.inj H
  go_enter Tryz.func42, Tryz.ntmps42
  go_wp2_with (first | ((with_reducible refine gate_callee (f := 71) rfl ?_); refine goesL_ (some 4) rfl rfl Tryz.func71 (by kernel_rfl) rfl #[.string a0] rfl (by (try simp only [List.map_toArray, List.map_cons, List.map_nil]); first | done | rfl | (simp only [List.length_drop, List.length_take]; rfl)) ?_; (with_reducible refine (spec_loGood.calls k a0 t267 _ A2.out).mono ?_); rintro e w' ⟨rfl, ⟨nd, rfl⟩⟩; refine ⟨_, rfl, ?_⟩))
  go_ret
  exact ⟨by first | rfl | (simp; done) | (simp [*]; done), by repeat (first | exact Drawn0.refl _ | apply Drawn0.step)⟩

end Go.Proofs.YtcgoaipbfnhjhaaGreatDoor.Pr

-- Written by a program for this claim.
namespace Go.Proofs.YtcgoaipbfnhjhaaGreatDoor.Pr
open Go.RowKit Go.Proofs.YtcgoaipbfnhjhaaGreatDoorW.PrintWords Go.Proofs.YtcgoaipbfnhjhaaGreatDoorW.PrintLast Go.Proofs.YtcgoaipbfnhjhaaGreatDoorW.PrintMore
attribute [local go_sem] max2_int min2_int max_two min_two max_three min_three max_four min_four   -- for this text's walks alone
set_option linter.unusedVariables false
set_option linter.unusedSimpArgs false

/-! ### impl_SameLoops: function 22 -/
def impl_SameLoops.j0 : Nat → ByteArray → ByteArray → Bool → Option (Bool × Bool)
  | 0, _, _, _ => none
  | k + 1, x0, x1, x13 => if x13 = true then (some (false, false)) else ((impl_firstLoop.f k x0).bind fun t147 => ((impl_firstLoop.f k x1).bind fun t148 => (some ((t147.toList == t148.toList), true))))
def impl_SameLoops.f (k : Nat) (a0 : ByteArray) (a1 : ByteArray) : Option (Bool × Bool) := (impl_IsLoop.f k a0).bind fun t145 => (if t145 = true then ((impl_IsLoop.f k a1).bind fun t146 => (impl_SameLoops.j0 k a0 a1 (!t146))) else (impl_SameLoops.j0 k a0 a1 true))
theorem impl_SameLoops.mono_l : ∀ k, (∀ y0 y1 y2, LeO (impl_SameLoops.j0 k y0 y1 y2) (impl_SameLoops.j0 (k + 1) y0 y1 y2))
  | 0 => fun _ _ _ r h => by simp [impl_SameLoops.j0] at h
  | k + 1 => by
    have ih0 := impl_SameLoops.mono_l k
    · intro y0 y1 y2
      unfold impl_SameLoops.j0
      repeat' first
      | (with_reducible exact ih0 _ _ _)
      | (with_reducible exact impl_IsLoop.mono _ _)
      | (with_reducible exact impl_firstLoop.mono _ _)
      | (with_reducible exact LeO.refl _)
      | (with_reducible exact LeO.none _)
      | (with_reducible refine LeO.ite ?_ ?_)
      | (with_reducible refine LeO.bind ?_ (fun _ => ?_))
      | exact ih0 _ _ _
      | exact impl_IsLoop.mono _ _
      | exact impl_firstLoop.mono _ _
      | exact LeO.none _
      | refine LeO.ite ?_ ?_
      | refine LeO.bind ?_ (fun _ => ?_)
theorem impl_SameLoops.mono : ∀ a0 a1 k, LeO (impl_SameLoops.f k a0 a1) (impl_SameLoops.f (k + 1) a0 a1) := by
  intro a0 a1 k
  have ih0 := impl_SameLoops.mono_l k
  unfold impl_SameLoops.f
  repeat' first
      | (with_reducible exact ih0 _ _ _)
      | (with_reducible exact impl_IsLoop.mono _ _)
      | (with_reducible exact impl_firstLoop.mono _ _)
      | (with_reducible exact LeO.refl _)
      | (with_reducible exact LeO.none _)
      | (with_reducible refine LeO.ite ?_ ?_)
      | (with_reducible refine LeO.bind ?_ (fun _ => ?_))
      | exact ih0 _ _ _
      | exact impl_IsLoop.mono _ _
      | exact impl_firstLoop.mono _ _
      | exact LeO.none _
      | refine LeO.ite ?_ ?_
      | refine LeO.bind ?_ (fun _ => ?_)
set_option maxHeartbeats 8000000 in
set_option maxRecDepth 100000 in
theorem impl_SameLoops.calls (k : Nat) (a0 : ByteArray) (a1 : ByteArray) (r1 : Bool) (r2 : Bool) (w : World) (h : impl_SameLoops.f k a0 a1 = some (r1, r2)) :
    Calls Tryz.prog 22 #[.string a0, .string a1] w fun e w' => e = .returned (.tuple #[.bool r1, .bool r2]) ∧ Below w.heap.size w w' := by
  have HB := Aside0.mk (Below.refl w.heap.size w)
  have H : ((impl_IsLoop.f k a0).bind fun t145 => (if t145 = true then ((impl_IsLoop.f k a1).bind fun t146 => (impl_SameLoops.j0 k a0 a1 (!t146))) else (impl_SameLoops.j0 k a0 a1 true))) = some (r1, r2) := h
  clear h
  have HC3 := Aside0.mk H
  clear H
  go_enter Tryz.func22, Tryz.ntmps22
  go_upto_region 1 with (fail)
  go_cut [13] (fun v13 wc => ∃ (kq : Nat) (x13_2 : Bool), v13 = .bool x13_2 ∧ Aside0 (impl_SameLoops.j0 kq a0 a1 x13_2 = some (r1, r2)) ∧ Aside0 (kq ≤ k) ∧ Aside0 (Below w.heap.size w wc))
  case first =>
    have H := HC3.out
    clear HC3
    replace H := Option.bind_eq_some_iff.mp H
    obtain ⟨t145, A40, H⟩ := H
    replace H : (if t145 = true then ((impl_IsLoop.f k a1).bind fun t146 => (impl_SameLoops.j0 k a0 a1 (!t146))) else (impl_SameLoops.j0 k a0 a1 true)) = some (r1, r2) := H
    have A4 := Aside0.mk A40
    clear A40
    by_cases c5 : t145 = true
    · subst c5
      have H1 : ((impl_IsLoop.f k a1).bind fun t146 => (impl_SameLoops.j0 k a0 a1 (!t146))) = some (r1, r2) := by rw [if_pos rfl] at H; exact H
      clear H
      have H := H1
      clear H1
      replace H := Option.bind_eq_some_iff.mp H
      obtain ⟨t146, A60, H⟩ := H
      replace H : (impl_SameLoops.j0 k a0 a1 (!t146)) = some (r1, r2) := H
      have A6 := Aside0.mk A60
      clear A60
      have H' := Aside0.mk H
      clear H
      go_wp2_with (first | ((with_reducible refine gate_callee (f := 12) rfl ?_); refine goesL_ (some 7) rfl rfl Tryz.func12 (by kernel_rfl) rfl #[.string a0] rfl (by (try simp only [List.map_toArray, List.map_cons, List.map_nil]); first | done | rfl | (simp only [List.length_drop, List.length_take]; rfl)) ?_; (with_reducible refine (impl_IsLoop.calls k a0 true _ A4.out).mono ?_); rintro e w7 ⟨rfl, hb⟩; refine ⟨_, rfl, ?_⟩; have n0_ := Aside0.mk (below_step (by repeat (first | (with_reducible first | exact HB.out | apply below_alloc | apply pw_below_drewN | apply below_drew1) | exact HB.out)) hb); clear HB; have HB := n0_; clear n0_; (try clear hb); (try clear hb2); (try clear hk); (try clear hi)) | (go_at_call 12; (with_reducible refine (impl_IsLoop.calls k a1 t146 _ A6.out).mono ?_); rintro e w8 ⟨rfl, hb⟩; have n0_ := Aside0.mk (below_step (by repeat (first | (with_reducible first | exact HB.out | apply below_alloc | apply pw_below_drewN | apply below_drew1) | exact HB.out)) hb); clear HB; have HB := n0_; clear n0_; (try clear hb); (try clear hb2); (try clear hk); (try clear hi)))
      go_meet
      case rel => exact ⟨_, (!t146), (by first | rfl | (simp; done) | (simp [*]; done)), H', ⟨by first | omega | exact Nat.le_refl _⟩, ⟨by repeat (first | (with_reducible first | exact HB.out | apply below_alloc | apply pw_below_drewN | apply below_drew1) | exact HB.out)⟩⟩
    · replace c5 := Bool.eq_false_iff.mpr c5
      subst c5
      have H1 : (impl_SameLoops.j0 k a0 a1 true) = some (r1, r2) := by rw [if_neg (show ¬ (false = true) by decide)] at H; exact H
      clear H
      have H := H1
      clear H1
      have H' := Aside0.mk H
      clear H
      go_wp2_with (first | ((with_reducible refine gate_callee (f := 12) rfl ?_); refine goesL_ (some 7) rfl rfl Tryz.func12 (by kernel_rfl) rfl #[.string a0] rfl (by (try simp only [List.map_toArray, List.map_cons, List.map_nil]); first | done | rfl | (simp only [List.length_drop, List.length_take]; rfl)) ?_; (with_reducible refine (impl_IsLoop.calls k a0 false _ A4.out).mono ?_); rintro e w9 ⟨rfl, hb⟩; refine ⟨_, rfl, ?_⟩; have n0_ := Aside0.mk (below_step (by repeat (first | (with_reducible first | exact HB.out | apply below_alloc | apply pw_below_drewN | apply below_drew1) | exact HB.out)) hb); clear HB; have HB := n0_; clear n0_; (try clear hb); (try clear hb2); (try clear hk); (try clear hi)))
      go_meet
      case rel => exact ⟨_, (true), (by first | rfl | (simp; done) | (simp [*]; done)), H', ⟨by first | omega | exact Nat.le_refl _⟩, ⟨by repeat (first | (with_reducible first | exact HB.out | apply below_alloc | apply pw_below_drewN | apply below_drew1) | exact HB.out)⟩⟩
  case rest =>
    clear HC3
    try clear c1
    try clear c2
    try clear p2
    try clear c5
    obtain ⟨kq, x13_2, rfl, HA, HJ2, HB⟩ := hcut
    cases kq with
    | zero => exact absurd HA.out (by simp [impl_SameLoops.j0])
    | succ kj2 =>
      have H := HA.out
      clear HA
      simp only [impl_SameLoops.j0] at H
      by_cases c10 : x13_2 = true
      · subst c10
        have H1 : (some (false, false)) = some (r1, r2) := by rw [if_pos rfl] at H; exact H
        clear H
        have H := H1
        clear H1
        simp only [Option.some.injEq, Prod.mk.injEq] at H
        obtain ⟨rfl, rfl⟩ := H
        go_wp2
        go_ret2
        exact ⟨by first | rfl | (simp [errW_none, errW_some] <;> rfl) | (simp [*, errW_none, errW_some] <;> rfl), by repeat (first | (with_reducible first | exact HB.out | apply below_alloc | apply pw_below_drewN | apply below_drew1) | exact HB.out)⟩
      · replace c10 := Bool.eq_false_iff.mpr c10
        subst c10
        have H1 : ((impl_firstLoop.f kj2 a0).bind fun t147 => ((impl_firstLoop.f kj2 a1).bind fun t148 => (some ((t147.toList == t148.toList), true)))) = some (r1, r2) := by rw [if_neg (show ¬ (false = true) by decide)] at H; exact H
        clear H
        have H := H1
        clear H1
        replace H := Option.bind_eq_some_iff.mp H
        obtain ⟨t147, A110, H⟩ := H
        replace H : ((impl_firstLoop.f kj2 a1).bind fun t148 => (some ((t147.toList == t148.toList), true))) = some (r1, r2) := H
        have A11 := Aside0.mk A110
        clear A110
        replace H := Option.bind_eq_some_iff.mp H
        obtain ⟨t148, A120, H⟩ := H
        replace H : (some ((t147.toList == t148.toList), true)) = some (r1, r2) := H
        have A12 := Aside0.mk A120
        clear A120
        simp only [Option.some.injEq, Prod.mk.injEq] at H
        obtain ⟨rfl, rfl⟩ := H
        go_wp2_with (first | ((with_reducible refine gate_callee (f := 76) rfl ?_); refine goesL_ (some 15) rfl rfl Tryz.func76 (by kernel_rfl) rfl #[.string a0] rfl (by (try simp only [List.map_toArray, List.map_cons, List.map_nil]); first | done | rfl | (simp only [List.length_drop, List.length_take]; rfl)) ?_; (with_reducible refine (impl_firstLoop.calls kj2 a0 t147 _ A11.out).mono ?_); rintro e w13 ⟨rfl, hb⟩; refine ⟨_, rfl, ?_⟩; have n0_ := Aside0.mk (below_step (by repeat (first | (with_reducible first | exact HB.out | apply below_alloc | apply pw_below_drewN | apply below_drew1) | exact HB.out)) hb); clear HB; have HB := n0_; clear n0_; (try clear hb); (try clear hb2); (try clear hk); (try clear hi)) | ((with_reducible refine gate_callee (f := 76) rfl ?_); refine goesL_ (some 17) rfl rfl Tryz.func76 (by kernel_rfl) rfl #[.string a1] rfl (by (try simp only [List.map_toArray, List.map_cons, List.map_nil]); first | done | rfl | (simp only [List.length_drop, List.length_take]; rfl)) ?_; (with_reducible refine (impl_firstLoop.calls kj2 a1 t148 _ A12.out).mono ?_); rintro e w14 ⟨rfl, hb⟩; refine ⟨_, rfl, ?_⟩; have n0_ := Aside0.mk (below_step (by repeat (first | (with_reducible first | exact HB.out | apply below_alloc | apply pw_below_drewN | apply below_drew1) | exact HB.out)) hb); clear HB; have HB := n0_; clear n0_; (try clear hb); (try clear hb2); (try clear hk); (try clear hi)))
        go_ret2
        exact ⟨by first | rfl | (simp [errW_none, errW_some] <;> rfl) | (simp [*, errW_none, errW_some] <;> rfl), by repeat (first | (with_reducible first | exact HB.out | apply below_alloc | apply pw_below_drewN | apply below_drew1) | exact HB.out)⟩

end Go.Proofs.YtcgoaipbfnhjhaaGreatDoor.Pr

-- Written by a program for this claim.
namespace Go.Proofs.YtcgoaipbfnhjhaaGreatDoor.Pr
open Go.RowKit Go.Proofs.YtcgoaipbfnhjhaaGreatDoorW.PrintWords Go.Proofs.YtcgoaipbfnhjhaaGreatDoorW.PrintLast Go.Proofs.YtcgoaipbfnhjhaaGreatDoorW.PrintMore
attribute [local go_sem] max2_int min2_int max_two min_two max_three min_three max_four min_four   -- for this text's walks alone
set_option linter.unusedVariables false
set_option linter.unusedSimpArgs false

/-! ### impl_isLetter: function 90 -/
def impl_isLetter.f (k : Nat) (a0 : ByteArray) (a1 : ByteArray) : Option (Bool) := (impl_IsLoop.f k a0).bind fun t115 => (if t115 = true then (if (a1.size : Int) = 1 then ((strings_Contains.f a0 a1).bind fun t116 => (some t116)) else (some false)) else (some false))
theorem impl_isLetter.mono : ∀ a0 a1 k, LeO (impl_isLetter.f k a0 a1) (impl_isLetter.f (k + 1) a0 a1) := by
  intro a0 a1 k
  unfold impl_isLetter.f
  repeat' first
      | (with_reducible exact impl_IsLoop.mono _ _)
      | (with_reducible exact LeO.refl _)
      | (with_reducible exact LeO.none _)
      | (with_reducible refine LeO.ite ?_ ?_)
      | (with_reducible refine LeO.bind ?_ (fun _ => ?_))
      | exact impl_IsLoop.mono _ _
      | exact LeO.none _
      | refine LeO.ite ?_ ?_
      | refine LeO.bind ?_ (fun _ => ?_)
set_option maxHeartbeats 8000000 in
set_option maxRecDepth 100000 in
theorem impl_isLetter.calls (k : Nat) (a0 : ByteArray) (a1 : ByteArray) (r : Bool) (w : World) (h : impl_isLetter.f k a0 a1 = some r) :
    Calls Tryz.prog 90 #[.string a0, .string a1] w fun e w' => e = .returned (.bool r) ∧ Below w.heap.size w w' := by
  have HB := Aside0.mk (Below.refl w.heap.size w)
  have H : ((impl_IsLoop.f k a0).bind fun t115 => (if t115 = true then (if (a1.size : Int) = 1 then ((strings_Contains.f a0 a1).bind fun t116 => (some t116)) else (some false)) else (some false))) = some r := h
  clear h
  replace H := Option.bind_eq_some_iff.mp H
  obtain ⟨t115, A30, H⟩ := H
  replace H : (if t115 = true then (if (a1.size : Int) = 1 then ((strings_Contains.f a0 a1).bind fun t116 => (some t116)) else (some false)) else (some false)) = some r := H
  have A3 := Aside0.mk A30
  clear A30
  by_cases c4 : t115 = true
  · subst c4
    have H1 : (if (a1.size : Int) = 1 then ((strings_Contains.f a0 a1).bind fun t116 => (some t116)) else (some false)) = some r := by rw [if_pos rfl] at H; exact H
    clear H
    have H := H1
    clear H1
    by_cases c5 : (a1.size : Int) = 1
    · rw [if_pos c5] at H
      have c5b0 : ((a1.size : Int) == 1) = true := beq_iff_eq.mpr c5
      have c5b1 : ((a1.size : Int) != 1) = false := bne_eq_false_iff_eq.mpr c5
      clear c5
      replace H := Option.bind_eq_some_iff.mp H
      obtain ⟨t116, A60, H⟩ := H
      replace H : (some t116) = some r := H
      have A6 := Aside0.mk A60
      clear A60
      obtain rfl := Option.some.inj H
      go_enter Tryz.func90, Tryz.ntmps90
      go_wp2_with (first | ((with_reducible refine gate_callee (f := 12) rfl ?_); refine goesL_ (some 6) rfl rfl Tryz.func12 (by kernel_rfl) rfl #[.string a0] rfl (by (try simp only [List.map_toArray, List.map_cons, List.map_nil]); first | done | rfl | (simp only [List.length_drop, List.length_take]; rfl)) ?_; (with_reducible refine (impl_IsLoop.calls k a0 true _ A3.out).mono ?_); rintro e w7 ⟨rfl, hb⟩; refine ⟨_, rfl, ?_⟩; have n0_ := Aside0.mk (below_step (by repeat (first | (with_reducible first | exact HB.out | apply below_alloc | apply pw_below_drewN | apply below_drew1) | exact HB.out)) hb); clear HB; have HB := n0_; clear n0_; (try clear hb); (try clear hb2); (try clear hk); (try clear hi)) | (go_at_call 99; (with_reducible refine (strings_Contains.calls a0 a1 t116 _ A6.out).mono ?_); rintro e w' ⟨rfl, ⟨nd, rfl⟩⟩))
      go_ret
      exact ⟨by first | rfl | (simp [errW_none, errW_some] <;> rfl) | (simp [*, errW_none, errW_some] <;> rfl), by repeat (first | (with_reducible first | exact HB.out | apply below_alloc | apply pw_below_drewN | apply below_drew1) | exact HB.out)⟩
    · rw [if_neg c5] at H
      have c5b0 : ((a1.size : Int) == 1) = false := beq_eq_false_iff_ne.mpr c5
      have c5b1 : ((a1.size : Int) != 1) = true := bne_iff_ne.mpr c5
      obtain rfl := Option.some.inj H
      go_enter Tryz.func90, Tryz.ntmps90
      go_wp2_with (first | ((with_reducible refine gate_callee (f := 12) rfl ?_); refine goesL_ (some 6) rfl rfl Tryz.func12 (by kernel_rfl) rfl #[.string a0] rfl (by (try simp only [List.map_toArray, List.map_cons, List.map_nil]); first | done | rfl | (simp only [List.length_drop, List.length_take]; rfl)) ?_; (with_reducible refine (impl_IsLoop.calls k a0 true _ A3.out).mono ?_); rintro e w8 ⟨rfl, hb⟩; refine ⟨_, rfl, ?_⟩; have n0_ := Aside0.mk (below_step (by repeat (first | (with_reducible first | exact HB.out | apply below_alloc | apply pw_below_drewN | apply below_drew1) | exact HB.out)) hb); clear HB; have HB := n0_; clear n0_; (try clear hb); (try clear hb2); (try clear hk); (try clear hi)))
      go_ret
      exact ⟨by first | rfl | (simp [errW_none, errW_some] <;> rfl) | (simp [*, errW_none, errW_some] <;> rfl), by repeat (first | (with_reducible first | exact HB.out | apply below_alloc | apply pw_below_drewN | apply below_drew1) | exact HB.out)⟩
  · replace c4 := Bool.eq_false_iff.mpr c4
    subst c4
    have H1 : (some false) = some r := by rw [if_neg (show ¬ (false = true) by decide)] at H; exact H
    clear H
    have H := H1
    clear H1
    obtain rfl := Option.some.inj H
    go_enter Tryz.func90, Tryz.ntmps90
    go_wp2_with (first | ((with_reducible refine gate_callee (f := 12) rfl ?_); refine goesL_ (some 6) rfl rfl Tryz.func12 (by kernel_rfl) rfl #[.string a0] rfl (by (try simp only [List.map_toArray, List.map_cons, List.map_nil]); first | done | rfl | (simp only [List.length_drop, List.length_take]; rfl)) ?_; (with_reducible refine (impl_IsLoop.calls k a0 false _ A3.out).mono ?_); rintro e w9 ⟨rfl, hb⟩; refine ⟨_, rfl, ?_⟩; have n0_ := Aside0.mk (below_step (by repeat (first | (with_reducible first | exact HB.out | apply below_alloc | apply pw_below_drewN | apply below_drew1) | exact HB.out)) hb); clear HB; have HB := n0_; clear n0_; (try clear hb); (try clear hb2); (try clear hk); (try clear hi)))
    go_ret
    exact ⟨by first | rfl | (simp [errW_none, errW_some] <;> rfl) | (simp [*, errW_none, errW_some] <;> rfl), by repeat (first | (with_reducible first | exact HB.out | apply below_alloc | apply pw_below_drewN | apply below_drew1) | exact HB.out)⟩

end Go.Proofs.YtcgoaipbfnhjhaaGreatDoor.Pr

-- Written by a program for this claim.
namespace Go.Proofs.YtcgoaipbfnhjhaaGreatDoor.Pr
open Go.RowKit Go.Proofs.YtcgoaipbfnhjhaaGreatDoorW.PrintWords Go.Proofs.YtcgoaipbfnhjhaaGreatDoorW.PrintLast Go.Proofs.YtcgoaipbfnhjhaaGreatDoorW.PrintMore
attribute [local go_sem] max2_int min2_int max_two min_two max_three min_three max_four min_four   -- for this text's walks alone
set_option linter.unusedVariables false
set_option linter.unusedSimpArgs false

/-! ### impl_InterlacedWith: function 43 -/
def impl_InterlacedWith.f (k : Nat) (a0 : ByteArray) (a1 : ByteArray) : Option (ByteArray × Bool) := (impl_isLetter.f k a0 a1).bind fun t141 => (if t141 = true then (if 0 < (a1.size : Int) then ((impl_interlacedWith.f a0 (bt a1 0)).bind fun t142 => (some (t142, true))) else (none)) else (some ((⟨#[]⟩ : ByteArray), false)))
theorem impl_InterlacedWith.mono : ∀ a0 a1 k, LeO (impl_InterlacedWith.f k a0 a1) (impl_InterlacedWith.f (k + 1) a0 a1) := by
  intro a0 a1 k
  unfold impl_InterlacedWith.f
  repeat' first
      | (with_reducible exact impl_isLetter.mono _ _ _)
      | (with_reducible exact LeO.refl _)
      | (with_reducible exact LeO.none _)
      | (with_reducible refine LeO.ite ?_ ?_)
      | (with_reducible refine LeO.bind ?_ (fun _ => ?_))
      | exact impl_isLetter.mono _ _ _
      | exact LeO.none _
      | refine LeO.ite ?_ ?_
      | refine LeO.bind ?_ (fun _ => ?_)
set_option maxHeartbeats 8000000 in
set_option maxRecDepth 100000 in
theorem impl_InterlacedWith.calls (k : Nat) (a0 : ByteArray) (a1 : ByteArray) (r1 : ByteArray) (r2 : Bool) (w : World) (h : impl_InterlacedWith.f k a0 a1 = some (r1, r2)) :
    Calls Tryz.prog 43 #[.string a0, .string a1] w fun e w' => e = .returned (.tuple #[.string r1, .bool r2]) ∧ Below w.heap.size w w' := by
  have HB := Aside0.mk (Below.refl w.heap.size w)
  have H : ((impl_isLetter.f k a0 a1).bind fun t141 => (if t141 = true then (if 0 < (a1.size : Int) then ((impl_interlacedWith.f a0 (bt a1 0)).bind fun t142 => (some (t142, true))) else (none)) else (some ((⟨#[]⟩ : ByteArray), false)))) = some (r1, r2) := h
  clear h
  replace H := Option.bind_eq_some_iff.mp H
  obtain ⟨t141, A30, H⟩ := H
  replace H : (if t141 = true then (if 0 < (a1.size : Int) then ((impl_interlacedWith.f a0 (bt a1 0)).bind fun t142 => (some (t142, true))) else (none)) else (some ((⟨#[]⟩ : ByteArray), false))) = some (r1, r2) := H
  have A3 := Aside0.mk A30
  clear A30
  by_cases c4 : t141 = true
  · subst c4
    have H1 : (if 0 < (a1.size : Int) then ((impl_interlacedWith.f a0 (bt a1 0)).bind fun t142 => (some (t142, true))) else (none)) = some (r1, r2) := by rw [if_pos rfl] at H; exact H
    clear H
    have H := H1
    clear H1
    by_cases c5 : 0 < (a1.size : Int)
    · rw [if_pos c5] at H
      have c5b0 : decide (0 < (a1.size : Int)) = true := decide_eq_true c5
      have c5b1 : decide (0 < a1.size) = true := decide_eq_true (by omega)
      clear c5
      replace H := Option.bind_eq_some_iff.mp H
      obtain ⟨t142, A70, H⟩ := H
      replace H : (some (t142, true)) = some (r1, r2) := H
      have A7 := Aside0.mk A70
      clear A70
      simp only [Option.some.injEq, Prod.mk.injEq] at H
      obtain ⟨rfl, rfl⟩ := H
      go_enter Tryz.func43, Tryz.ntmps43
      go_wp2_with (first | ((with_reducible refine gate_callee (f := 90) rfl ?_); refine goesL_ (some 8) rfl rfl Tryz.func90 (by kernel_rfl) rfl #[.string a0, .string a1] rfl (by (try simp only [List.map_toArray, List.map_cons, List.map_nil]); first | done | rfl | (simp only [List.length_drop, List.length_take]; rfl)) ?_; (with_reducible refine (impl_isLetter.calls k a0 a1 true _ A3.out).mono ?_); rintro e w8 ⟨rfl, hb⟩; refine ⟨_, rfl, ?_⟩; have n0_ := Aside0.mk (below_step (by repeat (first | (with_reducible first | exact HB.out | apply below_alloc | apply pw_below_drewN | apply below_drew1) | exact HB.out)) hb); clear HB; have HB := n0_; clear n0_; (try clear hb); (try clear hb2); (try clear hk); (try clear hi); have p6 : 0 ≤ (0 : Int) := (by omega); have q6 : 0 < a1.size := (by have : (0 : Int) < (a1.size : Int) := of_decide_eq_true (by first | (with_reducible assumption) | assumption); omega); have hx6 : ∀ h : 0 < a1.size, ((a1[0]'h).toNat : Int) = bt a1 0 := bt_at a1 0; clear p6; have qi6 : (0 < (a1.size : Int)) = True := eq_true (of_decide_eq_true (by first | (with_reducible assumption) | assumption)); replace q6 := eq_true q6) | ((with_reducible refine gate_callee (f := 91) rfl ?_); refine goesL_ (some 13) rfl rfl Tryz.func91 (by kernel_rfl) rfl #[.string a0, .int .u8 (bt a1 0)] rfl (by (try simp only [List.map_toArray, List.map_cons, List.map_nil]); first | done | rfl | (simp only [List.length_drop, List.length_take]; rfl)) ?_; (with_reducible refine (impl_interlacedWith.calls a0 (bt a1 0) t142 _ A7.out).mono ?_); rintro e w9 ⟨rfl, hb⟩; refine ⟨_, rfl, ?_⟩; have n0_ := Aside0.mk (below_step (by repeat (first | (with_reducible first | exact HB.out | apply below_alloc | apply pw_below_drewN | apply below_drew1) | exact HB.out)) hb); clear HB; have HB := n0_; clear n0_; (try clear hb); (try clear hb2); (try clear hk); (try clear hi)))
      go_ret2
      exact ⟨by first | rfl | (simp [errW_none, errW_some] <;> rfl) | (simp [*, errW_none, errW_some] <;> rfl), by repeat (first | (with_reducible first | exact HB.out | apply below_alloc | apply pw_below_drewN | apply below_drew1) | exact HB.out)⟩
    · rw [if_neg c5] at H
      exact absurd H (by simp)
  · replace c4 := Bool.eq_false_iff.mpr c4
    subst c4
    have H1 : (some ((⟨#[]⟩ : ByteArray), false)) = some (r1, r2) := by rw [if_neg (show ¬ (false = true) by decide)] at H; exact H
    clear H
    have H := H1
    clear H1
    simp only [Option.some.injEq, Prod.mk.injEq] at H
    obtain ⟨rfl, rfl⟩ := H
    go_enter Tryz.func43, Tryz.ntmps43
    go_wp2_with (first | ((with_reducible refine gate_callee (f := 90) rfl ?_); refine goesL_ (some 8) rfl rfl Tryz.func90 (by kernel_rfl) rfl #[.string a0, .string a1] rfl (by (try simp only [List.map_toArray, List.map_cons, List.map_nil]); first | done | rfl | (simp only [List.length_drop, List.length_take]; rfl)) ?_; (with_reducible refine (impl_isLetter.calls k a0 a1 false _ A3.out).mono ?_); rintro e w10 ⟨rfl, hb⟩; refine ⟨_, rfl, ?_⟩; have n0_ := Aside0.mk (below_step (by repeat (first | (with_reducible first | exact HB.out | apply below_alloc | apply pw_below_drewN | apply below_drew1) | exact HB.out)) hb); clear HB; have HB := n0_; clear n0_; (try clear hb); (try clear hb2); (try clear hk); (try clear hi)))
    go_ret2
    exact ⟨by first | rfl | (simp [errW_none, errW_some] <;> rfl) | (simp [*, errW_none, errW_some] <;> rfl), by repeat (first | (with_reducible first | exact HB.out | apply below_alloc | apply pw_below_drewN | apply below_drew1) | exact HB.out)⟩

end Go.Proofs.YtcgoaipbfnhjhaaGreatDoor.Pr

-- Written by a program for this claim.
namespace Go.Proofs.YtcgoaipbfnhjhaaGreatDoor.Pr
open Go.RowKit Go.Proofs.YtcgoaipbfnhjhaaGreatDoorW.PrintWords Go.Proofs.YtcgoaipbfnhjhaaGreatDoorW.PrintLast Go.Proofs.YtcgoaipbfnhjhaaGreatDoorW.PrintMore
attribute [local go_sem] max2_int min2_int max_two min_two max_three min_three max_four min_four   -- for this text's walks alone
set_option linter.unusedVariables false
set_option linter.unusedSimpArgs false

/-! ### spec_l1In: function 58 -/
def spec_l1In.f (a0 : Int) (a1 : Int) (a2 : Int) : Option (Bool) := if a0 ≥ a1 then (some (decide (a0 ≤ a2))) else (some false)
set_option maxHeartbeats 8000000 in
set_option maxRecDepth 100000 in
theorem spec_l1In.calls (a0 : Int) (a1 : Int) (a2 : Int) (r : Bool) (w : World) (h : spec_l1In.f a0 a1 a2 = some r) :
    Calls Tryz.prog 58 #[.int .i64 a0, .int .i64 a1, .int .i64 a2] w fun e w' => e = .returned (.bool r) ∧ Drawn0 w w' := by
  have H : (if a0 ≥ a1 then (some (decide (a0 ≤ a2))) else (some false)) = some r := h
  clear h
  by_cases c4 : a0 ≥ a1
  · rw [if_pos c4] at H
    have c4b0 : decide (a1 ≤ a0) = true := decide_eq_true c4
    clear c4
    obtain rfl := Option.some.inj H
    go_enter Tryz.func58, Tryz.ntmps58
    go_wp2
    go_ret
    exact ⟨by first | rfl | (simp; done) | (simp [*]; done), by repeat (first | exact Drawn0.refl _ | apply Drawn0.step)⟩
  · rw [if_neg c4] at H
    have c4b0 : decide (a1 ≤ a0) = false := decide_eq_false c4
    clear c4
    obtain rfl := Option.some.inj H
    go_enter Tryz.func58, Tryz.ntmps58
    go_wp2
    go_ret
    exact ⟨by first | rfl | (simp; done) | (simp [*]; done), by repeat (first | exact Drawn0.refl _ | apply Drawn0.step)⟩

end Go.Proofs.YtcgoaipbfnhjhaaGreatDoor.Pr

-- Written by a program for this claim.
namespace Go.Proofs.YtcgoaipbfnhjhaaGreatDoor.Pr
open Go.RowKit Go.Proofs.YtcgoaipbfnhjhaaGreatDoorW.PrintWords Go.Proofs.YtcgoaipbfnhjhaaGreatDoorW.PrintLast Go.Proofs.YtcgoaipbfnhjhaaGreatDoorW.PrintMore
attribute [local go_sem] max2_int min2_int max_two min_two max_three min_three max_four min_four   -- for this text's walks alone
set_option linter.unusedVariables false
set_option linter.unusedSimpArgs false

/-! ### spec_loLetter: function 95 -/
def spec_loLetter.f (a0 : ByteArray) (a1 : ByteArray) : Option (Bool) := if (a1.size : Int) = 1 then (if 0 < (a1.size : Int) then ((spec_l1In.f (wrap64 ((wrap64 (bt a1 0)) - 97)) 0 (wrap64 ((wrap64 ((a0.size : Int) / 2)) - 1))).bind fun t153 => (some t153)) else (none)) else (some false)
set_option maxHeartbeats 8000000 in
set_option maxRecDepth 100000 in
theorem spec_loLetter.calls (a0 : ByteArray) (a1 : ByteArray) (r : Bool) (w : World) (h : spec_loLetter.f a0 a1 = some r) :
    Calls Tryz.prog 95 #[.string a0, .string a1] w fun e w' => e = .returned (.bool r) ∧ Drawn0 w w' := by
  have H : (if (a1.size : Int) = 1 then (if 0 < (a1.size : Int) then ((spec_l1In.f (wrap64 ((wrap64 (bt a1 0)) - 97)) 0 (wrap64 ((wrap64 ((a0.size : Int) / 2)) - 1))).bind fun t153 => (some t153)) else (none)) else (some false)) = some r := h
  clear h
  by_cases c3 : (a1.size : Int) = 1
  · rw [if_pos c3] at H
    have c3b0 : ((a1.size : Int) == 1) = true := beq_iff_eq.mpr c3
    have c3b1 : ((a1.size : Int) != 1) = false := bne_eq_false_iff_eq.mpr c3
    clear c3
    by_cases c4 : 0 < (a1.size : Int)
    · rw [if_pos c4] at H
      have c4b0 : decide (0 < (a1.size : Int)) = true := decide_eq_true c4
      have c4b1 : decide (0 < a1.size) = true := decide_eq_true (by omega)
      clear c4
      replace H := Option.bind_eq_some_iff.mp H
      obtain ⟨t153, A60, H⟩ := H
      replace H : (some t153) = some r := H
      have A6 := Aside0.mk A60
      clear A60
      obtain rfl := Option.some.inj H
      have p5 : 0 ≤ (0 : Int) := (by omega)
      have q5 : 0 < a1.size := (by have : (0 : Int) < (a1.size : Int) := of_decide_eq_true (by first | (with_reducible assumption) | assumption); omega)
      have hx5 : ∀ h : 0 < a1.size, ((a1[0]'h).toNat : Int) = bt a1 0 := bt_at a1 0
      clear p5
      have qi5 : (0 < (a1.size : Int)) = True := eq_true (of_decide_eq_true (by first | (with_reducible assumption) | assumption))
      replace q5 := eq_true q5
      go_enter Tryz.func95, Tryz.ntmps95
      go_wp2_with (first | (go_at_call 58; (with_reducible refine (spec_l1In.calls (wrap64 ((wrap64 (bt a1 0)) - 97)) 0 (wrap64 ((wrap64 ((a0.size : Int) / 2)) - 1)) t153 _ A6.out).mono ?_); rintro e w' ⟨rfl, ⟨nd, rfl⟩⟩))
      go_ret
      exact ⟨by first | rfl | (simp; done) | (simp [*]; done), by repeat (first | exact Drawn0.refl _ | apply Drawn0.step)⟩
    · rw [if_neg c4] at H
      exact absurd H (by simp)
  · rw [if_neg c3] at H
    have c3b0 : ((a1.size : Int) == 1) = false := beq_eq_false_iff_ne.mpr c3
    have c3b1 : ((a1.size : Int) != 1) = true := bne_iff_ne.mpr c3
    obtain rfl := Option.some.inj H
    go_enter Tryz.func95, Tryz.ntmps95
    go_wp2
    go_ret
    exact ⟨by first | rfl | (simp; done) | (simp [*]; done), by repeat (first | exact Drawn0.refl _ | apply Drawn0.step)⟩

end Go.Proofs.YtcgoaipbfnhjhaaGreatDoor.Pr
