/- Loops are ranked in order, all of them are told and those that can be drawn counted, and joined loops are drawn if both are. (Part 5 of 6.) -/
import Derived.OwnWalk
import Derived.Deep.CutRange
import Derived.Lib.MinMaxS
import Derived.WalkSmall
import Derived.RowKit
import Derived.Lib.Walk
import Derived.Shelf.Strings.SlTrimAscii
import Derived.Lib.LastIndexByte
import Derived.Test.YtcgoaipbfnhjhaaGreatDoorKFnLoopsListed0
import Derived.Test.YtcgoaipbfnhjhaaGreatDoorKFnLoopsListed1
import Derived.Test.YtcgoaipbfnhjhaaGreatDoorKFnLoopsListed2
import Derived.Test.YtcgoaipbfnhjhaaGreatDoorKFnLoopsListed3
-- Written by a program for this claim.
namespace Go.Proofs.YtcgoaipbfnhjhaaGreatDoor.Pr
open Go.RowKit Go.Proofs.YtcgoaipbfnhjhaaGreatDoorW.PrintWords Go.Proofs.YtcgoaipbfnhjhaaGreatDoorW.PrintLast Go.Proofs.YtcgoaipbfnhjhaaGreatDoorW.PrintMore
attribute [local go_sem] max2_int min2_int max_two min_two max_three min_three max_four min_four   -- for this text's walks alone
set_option linter.unusedVariables false
set_option linter.unusedSimpArgs false

/-! ### spec_RankOfLoop: function 25 -/
mutual
def spec_RankOfLoop.l0 : Nat → ByteArray → Int → ByteArray → Int → Int → Option (Int × Bool)
  | 0, _, _, _, _, _ => none
  | k + 1, x0, x4, x5, x6, x7 => if x7 < (x0.size : Int) then (spec_RankOfLoop.l1 k x0 x4 x5 x6 x7 false 0) else (some (x4, true))
def spec_RankOfLoop.l1 : Nat → ByteArray → Int → ByteArray → Int → Int → Bool → Int → Option (Int × Bool)
  | 0, _, _, _, _, _, _, _ => none
  | k + 1, x0, x4, x5, x6, x7, x8, x9 => if x9 < (x5.size : Int) then (spec_RankOfLoop.j2 k x0 x4 x5 x6 x7 x8 x9 (!x8)) else (spec_RankOfLoop.j2 k x0 x4 x5 x6 x7 x8 x9 false)
def spec_RankOfLoop.j2 : Nat → ByteArray → Int → ByteArray → Int → Int → Bool → Int → Bool → Option (Int × Bool)
  | 0, _, _, _, _, _, _, _, _ => none
  | k + 1, x0, x4, x5, x6, x7, x8, x9, x26 => if x26 = true then (if 0 ≤ x9 then (if x9 < (x5.size : Int) then (if 0 ≤ x7 then (if x7 < (x0.size : Int) then (if (bt x5 x9) = (bt x0 x7) then (if x9 ≤ (x5.size : Int) then (if 0 ≤ (wrap64 (x9 + 1)) then (if (wrap64 (x9 + 1)) ≤ (x5.size : Int) then (if (x5.extract 0 (x9 : Int).toNat).size + (x5.extract ((wrap64 (x9 + 1)) : Int).toNat x5.size).size ≤ 9223372036854775807 then (spec_RankOfLoop.l1 k x0 x4 ((x5.extract 0 (x9 : Int).toNat) ++ (x5.extract ((wrap64 (x9 + 1)) : Int).toNat x5.size)) x6 x7 true (wrap64 (x9 + 1))) else (none)) else (none)) else (none)) else (none)) else ((spec_loWays.f k (wrap64 ((x5.size : Int) - 1)) (wrap64 ((wrap64 ((x0.size : Int) / 2)) - x6))).bind fun t307 => (spec_RankOfLoop.l1 k x0 (wrap64 (x4 + t307)) x5 x6 x7 x8 (wrap64 (x9 + 1))))) else (none)) else (none)) else (none)) else (none)) else (if x8 = true then (spec_RankOfLoop.l0 k x0 x4 x5 x6 (wrap64 (x7 + 1))) else (if 0 ≤ x7 then (if x7 ≤ (wrap64 (x7 + 1)) then (if (wrap64 (x7 + 1)) ≤ (x0.size : Int) then (if x5.size + (x0.extract (x7 : Int).toNat ((wrap64 (x7 + 1)) : Int).toNat).size ≤ 9223372036854775807 then (spec_RankOfLoop.l0 k x0 x4 (x5 ++ (x0.extract (x7 : Int).toNat ((wrap64 (x7 + 1)) : Int).toNat)) (wrap64 (x6 + 1)) (wrap64 (x7 + 1))) else (none)) else (none)) else (none)) else (none)))
end
def spec_RankOfLoop.f (k : Nat) (a0 : ByteArray) : Option (Int × Bool) := (spec_loGood.f k a0).bind fun t306 => (if t306 = true then (spec_RankOfLoop.l0 k a0 0 (⟨#[]⟩ : ByteArray) 0 0) else (some (0, false)))
theorem spec_RankOfLoop.mono_l : ∀ k, (∀ y0 y1 y2 y3 y4, LeO (spec_RankOfLoop.l0 k y0 y1 y2 y3 y4) (spec_RankOfLoop.l0 (k + 1) y0 y1 y2 y3 y4)) ∧ (∀ y0 y1 y2 y3 y4 y5 y6, LeO (spec_RankOfLoop.l1 k y0 y1 y2 y3 y4 y5 y6) (spec_RankOfLoop.l1 (k + 1) y0 y1 y2 y3 y4 y5 y6)) ∧ (∀ y0 y1 y2 y3 y4 y5 y6 y7, LeO (spec_RankOfLoop.j2 k y0 y1 y2 y3 y4 y5 y6 y7) (spec_RankOfLoop.j2 (k + 1) y0 y1 y2 y3 y4 y5 y6 y7))
  | 0 => ⟨fun _ _ _ _ _ r h => by simp [spec_RankOfLoop.l0] at h, fun _ _ _ _ _ _ _ r h => by simp [spec_RankOfLoop.l1] at h, fun _ _ _ _ _ _ _ _ r h => by simp [spec_RankOfLoop.j2] at h⟩
  | k + 1 => by
    obtain ⟨ih0, ih1, ih2⟩ := spec_RankOfLoop.mono_l k
    refine ⟨?_, ?_, ?_⟩
    · intro y0 y1 y2 y3 y4
      unfold spec_RankOfLoop.l0
      repeat' first
      | (with_reducible exact ih0 _ _ _ _ _)
      | (with_reducible exact ih1 _ _ _ _ _ _ _)
      | (with_reducible exact ih2 _ _ _ _ _ _ _ _)
      | (with_reducible exact spec_loGood.mono _ _)
      | (with_reducible exact spec_loWays.mono _ _ _)
      | (with_reducible exact LeO.refl _)
      | (with_reducible exact LeO.none _)
      | (with_reducible refine LeO.ite ?_ ?_)
      | (with_reducible refine LeO.bind ?_ (fun _ => ?_))
      | exact ih0 _ _ _ _ _
      | exact ih1 _ _ _ _ _ _ _
      | exact ih2 _ _ _ _ _ _ _ _
      | exact spec_loGood.mono _ _
      | exact spec_loWays.mono _ _ _
      | exact LeO.none _
      | refine LeO.ite ?_ ?_
      | refine LeO.bind ?_ (fun _ => ?_)
    · intro y0 y1 y2 y3 y4 y5 y6
      unfold spec_RankOfLoop.l1
      repeat' first
      | (with_reducible exact ih0 _ _ _ _ _)
      | (with_reducible exact ih1 _ _ _ _ _ _ _)
      | (with_reducible exact ih2 _ _ _ _ _ _ _ _)
      | (with_reducible exact spec_loGood.mono _ _)
      | (with_reducible exact spec_loWays.mono _ _ _)
      | (with_reducible exact LeO.refl _)
      | (with_reducible exact LeO.none _)
      | (with_reducible refine LeO.ite ?_ ?_)
      | (with_reducible refine LeO.bind ?_ (fun _ => ?_))
      | exact ih0 _ _ _ _ _
      | exact ih1 _ _ _ _ _ _ _
      | exact ih2 _ _ _ _ _ _ _ _
      | exact spec_loGood.mono _ _
      | exact spec_loWays.mono _ _ _
      | exact LeO.none _
      | refine LeO.ite ?_ ?_
      | refine LeO.bind ?_ (fun _ => ?_)
    · intro y0 y1 y2 y3 y4 y5 y6 y7
      unfold spec_RankOfLoop.j2
      repeat' first
      | (with_reducible exact ih0 _ _ _ _ _)
      | (with_reducible exact ih1 _ _ _ _ _ _ _)
      | (with_reducible exact ih2 _ _ _ _ _ _ _ _)
      | (with_reducible exact spec_loGood.mono _ _)
      | (with_reducible exact spec_loWays.mono _ _ _)
      | (with_reducible exact LeO.refl _)
      | (with_reducible exact LeO.none _)
      | (with_reducible refine LeO.ite ?_ ?_)
      | (with_reducible refine LeO.bind ?_ (fun _ => ?_))
      | exact ih0 _ _ _ _ _
      | exact ih1 _ _ _ _ _ _ _
      | exact ih2 _ _ _ _ _ _ _ _
      | exact spec_loGood.mono _ _
      | exact spec_loWays.mono _ _ _
      | exact LeO.none _
      | refine LeO.ite ?_ ?_
      | refine LeO.bind ?_ (fun _ => ?_)
theorem spec_RankOfLoop.mono : ∀ a0 k, LeO (spec_RankOfLoop.f k a0) (spec_RankOfLoop.f (k + 1) a0) := by
  intro a0 k
  obtain ⟨ih0, ih1, ih2⟩ := spec_RankOfLoop.mono_l k
  unfold spec_RankOfLoop.f
  repeat' first
      | (with_reducible exact ih0 _ _ _ _ _)
      | (with_reducible exact ih1 _ _ _ _ _ _ _)
      | (with_reducible exact ih2 _ _ _ _ _ _ _ _)
      | (with_reducible exact spec_loGood.mono _ _)
      | (with_reducible exact spec_loWays.mono _ _ _)
      | (with_reducible exact LeO.refl _)
      | (with_reducible exact LeO.none _)
      | (with_reducible refine LeO.ite ?_ ?_)
      | (with_reducible refine LeO.bind ?_ (fun _ => ?_))
      | exact ih0 _ _ _ _ _
      | exact ih1 _ _ _ _ _ _ _
      | exact ih2 _ _ _ _ _ _ _ _
      | exact spec_loGood.mono _ _
      | exact spec_loWays.mono _ _ _
      | exact LeO.none _
      | refine LeO.ite ?_ ?_
      | refine LeO.bind ?_ (fun _ => ?_)
set_option maxHeartbeats 8000000 in
set_option maxRecDepth 100000 in
theorem spec_RankOfLoop.calls (k : Nat) (a0 : ByteArray) (r1 : Int) (r2 : Bool) (w : World) (h : spec_RankOfLoop.f k a0 = some (r1, r2)) :
    Calls Tryz.prog 25 #[.string a0] w fun e w' => e = .returned (.tuple #[.int .i64 r1, .bool r2]) ∧ Drawn0 w w' := by
  have H : ((spec_loGood.f k a0).bind fun t306 => (if t306 = true then (spec_RankOfLoop.l0 k a0 0 (⟨#[]⟩ : ByteArray) 0 0) else (some (0, false)))) = some (r1, r2) := h
  clear h
  replace H := Option.bind_eq_some_iff.mp H
  obtain ⟨t306, A20, H⟩ := H
  replace H : (if t306 = true then (spec_RankOfLoop.l0 k a0 0 (⟨#[]⟩ : ByteArray) 0 0) else (some (0, false))) = some (r1, r2) := H
  have A2 := Aside0.mk A20
  clear A20
  by_cases c3 : t306 = true
  · subst c3
    have H1 : (spec_RankOfLoop.l0 k a0 0 (⟨#[]⟩ : ByteArray) 0 0) = some (r1, r2) := by rw [if_pos rfl] at H; exact H
    clear H
    have H := H1
    clear H1
    have H' := Aside0.mk H
    clear H
    go_enter Tryz.func25, Tryz.ntmps25
    go_wp2_with (first | (go_at_call 71; (with_reducible refine (spec_loGood.calls k a0 true _ A2.out).mono ?_); rintro e w' ⟨rfl, ⟨nd, rfl⟩⟩; (try first | exact ⟨rfl, _, World.drewN_drewN _ _ _⟩ | exact ⟨rfl, _, Eq.trans (World.drewN_drewN _ _ _) (congrArg (World.drewN _) (Nat.add_assoc _ _ _))⟩)))
    repeat (go_quiet (first | (go_at_call 71; (with_reducible refine (spec_loGood.calls k a0 true _ A2.out).mono ?_); rintro e w' ⟨rfl, ⟨nd, rfl⟩⟩; (try first | exact ⟨rfl, _, World.drewN_drewN _ _ _⟩ | exact ⟨rfl, _, Eq.trans (World.drewN_drewN _ _ _) (congrArg (World.drewN _) (Nat.add_assoc _ _ _))⟩))); try go_wp2_with (first | (go_at_call 71; (with_reducible refine (spec_loGood.calls k a0 true _ A2.out).mono ?_); rintro e w' ⟨rfl, ⟨nd, rfl⟩⟩; (try first | exact ⟨rfl, _, World.drewN_drewN _ _ _⟩ | exact ⟨rfl, _, Eq.trans (World.drewN_drewN _ _ _) (congrArg (World.drewN _) (Nat.add_assoc _ _ _))⟩))))
    go_loopg [4, 5, 6, 7] k (fun kq v4 v5 v6 v7 w' => ∃ (x4_1 : Int) (x5_1 : ByteArray) (x6_1 : Int) (x7_1 : Int), v4 = .int .i64 x4_1 ∧ v5 = .string x5_1 ∧ v6 = .int .i64 x6_1 ∧ v7 = .int .i64 x7_1 ∧ Aside0 (spec_RankOfLoop.l0 kq a0 x4_1 x5_1 x6_1 x7_1 = some (r1, r2)) ∧ Aside0 (kq ≤ k) ∧ Drawn0 w w')
    case atStart => exact ⟨(0), ((⟨#[]⟩ : ByteArray)), (0), (0), (by first | rfl | (simp; done) | (simp [*]; done)), (by first | rfl | (simp; done) | (simp [*]; done)), (by first | rfl | (simp; done) | (simp [*]; done)), (by first | rfl | (simp; done) | (simp [*]; done)), H', ⟨Nat.le_refl _⟩, by repeat (first | exact Drawn0.refl _ | apply Drawn0.step)⟩
    case round =>
      clear H'
      try clear c2
      try clear p2
      try clear c3
      obtain ⟨x4_1, x5_1, x6_1, x7_1, rfl, rfl, rfl, rfl, HA, HK1, ⟨m1, rfl⟩⟩ := hrel
      cases gk with
      | zero => exact absurd HA.out (by simp [spec_RankOfLoop.l0])
      | succ k1 =>
        have H := HA.out
        clear HA
        simp only [spec_RankOfLoop.l0] at H
        by_cases c4 : x7_1 < (a0.size : Int)
        · rw [if_pos c4] at H
          have c4b0 : decide (x7_1 < (a0.size : Int)) = true := decide_eq_true c4
          clear c4
          have H' := Aside0.mk H
          clear H
          go_wp2
          repeat (go_quiet (fail); try go_wp2)
          go_loopg [4, 5, 8, 9] k1 (fun kq v4 v5 v8 v9 w' => ∃ (x4_2 : Int) (x5_2 : ByteArray) (x8_2 : Bool) (x9_2 : Int), v4 = .int .i64 x4_2 ∧ v5 = .string x5_2 ∧ v8 = .bool x8_2 ∧ v9 = .int .i64 x9_2 ∧ Aside0 (spec_RankOfLoop.l1 kq a0 x4_2 x5_2 x6_1 x7_1 x8_2 x9_2 = some (r1, r2)) ∧ Aside0 (kq ≤ k1) ∧ Drawn0 w w')
          case atStart => exact ⟨(x4_1), (x5_1), (false), (0), (by first | rfl | (simp; done) | (simp [*]; done)), (by first | rfl | (simp; done) | (simp [*]; done)), (by first | rfl | (simp; done) | (simp [*]; done)), (by first | rfl | (simp; done) | (simp [*]; done)), H', ⟨Nat.le_refl _⟩, by repeat (first | exact Drawn0.refl _ | apply Drawn0.step)⟩
          case round =>
            clear H'
            try clear c2
            try clear p2
            try clear c3
            try clear c4
            try clear c4b0
            try clear p2
            obtain ⟨x4_2, x5_2, x8_2, x9_2, rfl, rfl, rfl, rfl, HA, HK2, ⟨m2, rfl⟩⟩ := hrel
            cases gk with
            | zero => exact absurd HA.out (by simp [spec_RankOfLoop.l1])
            | succ k2 =>
              have H := HA.out
              clear HA
              simp only [spec_RankOfLoop.l1] at H
              have HC5 := Aside0.mk H
              clear H
              go_upto_region 11 with (fail)
              repeat (go_quiet (fail); go_upto_region 11 with (fail))
              go_cut [26] (fun v26 wc => ∃ (kq : Nat) (x26_4 : Bool), v26 = .bool x26_4 ∧ Aside0 (spec_RankOfLoop.j2 kq a0 x4_2 x5_2 x6_1 x7_1 x8_2 x9_2 x26_4 = some (r1, r2)) ∧ Aside0 (kq ≤ k2) ∧ Drawn0 w wc)
              case first =>
                have H := HC5.out
                clear HC5
                by_cases c6 : x9_2 < (x5_2.size : Int)
                · rw [if_pos c6] at H
                  have c6b0 : decide (x9_2 < (x5_2.size : Int)) = true := decide_eq_true c6
                  clear c6
                  (first | rw [c6b0] | (simp only [i64_w, i32_w]; rw [c6b0]) | skip)
                  have H' := Aside0.mk H
                  clear H
                  go_wp2
                  repeat (go_quiet (fail); try go_wp2)
                  go_meet
                  case rel => exact ⟨_, (!x8_2), (by first | rfl | (simp; done) | (simp [*]; done)), H', ⟨by have := HK1.out; have := HK2.out; first | omega | exact Nat.le_refl _⟩, by repeat (first | exact Drawn0.refl _ | apply Drawn0.step)⟩
                · rw [if_neg c6] at H
                  have c6b0 : decide (x9_2 < (x5_2.size : Int)) = false := decide_eq_false c6
                  clear c6
                  (first | rw [c6b0] | (simp only [i64_w, i32_w]; rw [c6b0]) | skip)
                  have H' := Aside0.mk H
                  clear H
                  go_wp2
                  repeat (go_quiet (fail); try go_wp2)
                  go_meet
                  case rel => exact ⟨_, (false), (by first | rfl | (simp; done) | (simp [*]; done)), H', ⟨by have := HK1.out; have := HK2.out; first | omega | exact Nat.le_refl _⟩, by repeat (first | exact Drawn0.refl _ | apply Drawn0.step)⟩
              case rest =>
                clear HC5
                try clear c2
                try clear p2
                try clear c3
                try clear c4
                try clear c4b0
                try clear c6
                try clear c6b0
                try clear p2
                obtain ⟨kq, x26_4, rfl, HA, HJ4, ⟨mc4, rfl⟩⟩ := hcut
                cases kq with
                | zero => exact absurd HA.out (by simp [spec_RankOfLoop.j2])
                | succ kj4 =>
                  have H := HA.out
                  clear HA
                  simp only [spec_RankOfLoop.j2] at H
                  by_cases c7 : x26_4 = true
                  · subst c7
                    have H1 : (if 0 ≤ x9_2 then (if x9_2 < (x5_2.size : Int) then (if 0 ≤ x7_1 then (if x7_1 < (a0.size : Int) then (if (bt x5_2 x9_2) = (bt a0 x7_1) then (if x9_2 ≤ (x5_2.size : Int) then (if 0 ≤ (wrap64 (x9_2 + 1)) then (if (wrap64 (x9_2 + 1)) ≤ (x5_2.size : Int) then (if (x5_2.extract 0 (x9_2 : Int).toNat).size + (x5_2.extract ((wrap64 (x9_2 + 1)) : Int).toNat x5_2.size).size ≤ 9223372036854775807 then (spec_RankOfLoop.l1 kj4 a0 x4_2 ((x5_2.extract 0 (x9_2 : Int).toNat) ++ (x5_2.extract ((wrap64 (x9_2 + 1)) : Int).toNat x5_2.size)) x6_1 x7_1 true (wrap64 (x9_2 + 1))) else (none)) else (none)) else (none)) else (none)) else ((spec_loWays.f kj4 (wrap64 ((x5_2.size : Int) - 1)) (wrap64 ((wrap64 ((a0.size : Int) / 2)) - x6_1))).bind fun t307 => (spec_RankOfLoop.l1 kj4 a0 (wrap64 (x4_2 + t307)) x5_2 x6_1 x7_1 x8_2 (wrap64 (x9_2 + 1))))) else (none)) else (none)) else (none)) else (none)) = some (r1, r2) := by rw [if_pos rfl] at H; exact H
                    clear H
                    have H := H1
                    clear H1
                    by_cases c8 : 0 ≤ x9_2
                    · rw [if_pos c8] at H
                      have c8b0 : decide (0 ≤ x9_2) = true := decide_eq_true c8
                      clear c8
                      by_cases c9 : x9_2 < (x5_2.size : Int)
                      · rw [if_pos c9] at H
                        have c9b0 : decide (x9_2 < (x5_2.size : Int)) = true := decide_eq_true c9
                        clear c9
                        by_cases c11 : 0 ≤ x7_1
                        · rw [if_pos c11] at H
                          have c11b0 : decide (0 ≤ x7_1) = true := decide_eq_true c11
                          clear c11
                          by_cases c12 : x7_1 < (a0.size : Int)
                          · rw [if_pos c12] at H
                            have c12b0 : decide (x7_1 < (a0.size : Int)) = true := decide_eq_true c12
                            clear c12
                            by_cases c14 : (bt x5_2 x9_2) = (bt a0 x7_1)
                            · rw [if_pos c14] at H
                              have c14b0 : ((bt x5_2 x9_2) == (bt a0 x7_1)) = true := beq_iff_eq.mpr c14
                              have c14b1 : ((bt x5_2 x9_2) != (bt a0 x7_1)) = false := bne_eq_false_iff_eq.mpr c14
                              clear c14
                              have c15b0 := eq_true (of_decide_eq_true (by first | (with_reducible assumption) | assumption) : 0 ≤ x9_2)
                              by_cases c16 : x9_2 ≤ (x5_2.size : Int)
                              · rw [if_pos c16] at H
                                have c16b0 := eq_true c16
                                have c16b1 : decide (x9_2 ≤ (x5_2.size : Int)) = true := decide_eq_true c16
                                clear c16
                                obtain ⟨ji17, hji17⟩ : ∃ j_ : Int, (wrap64 (x9_2 + 1)) = j_ := ⟨_, rfl⟩
                                replace H : (if 0 ≤ (ji17) then (if (ji17) ≤ (x5_2.size : Int) then (if (x5_2.extract 0 (x9_2 : Int).toNat).size + (x5_2.extract ((ji17) : Int).toNat x5_2.size).size ≤ 9223372036854775807 then (spec_RankOfLoop.l1 kj4 a0 x4_2 ((x5_2.extract 0 (x9_2 : Int).toNat) ++ (x5_2.extract ((ji17) : Int).toNat x5_2.size)) x6_1 x7_1 true ji17) else (none)) else (none)) else (none)) = some (r1, r2) := by first | (rw [hji17] at H; exact H) | (simp only [hji17] at H ⊢; exact H)
                                have hji17w : (IntKind.i64.wrap (x9_2 + 1)) = ji17 := (i64_w _).trans hji17
                                by_cases c18 : 0 ≤ (ji17)
                                · rw [if_pos c18] at H
                                  have c18b0 := eq_true c18
                                  have c18b1 : decide (0 ≤ (ji17)) = true := decide_eq_true c18
                                  clear c18
                                  by_cases c19 : (ji17) ≤ (x5_2.size : Int)
                                  · rw [if_pos c19] at H
                                    have c19b0 := eq_true c19
                                    have c19b1 : decide ((ji17) ≤ (x5_2.size : Int)) = true := decide_eq_true c19
                                    clear c19
                                    by_cases c20 : (x5_2.extract 0 (x9_2 : Int).toNat).size + (x5_2.extract ((ji17) : Int).toNat x5_2.size).size ≤ 9223372036854775807
                                    · rw [if_pos c20] at H
                                      have c20b0 := eq_true c20
                                      have c20b1 : decide ((x5_2.extract 0 (x9_2 : Int).toNat).size + (x5_2.extract ((ji17) : Int).toNat x5_2.size).size ≤ 9223372036854775807) = true := decide_eq_true c20
                                      try have c20b2 : (9223372036854775807 < (x5_2.extract 0 (x9_2 : Int).toNat).size + (x5_2.extract ((ji17) : Int).toNat x5_2.size).size) = False := eq_false (Nat.not_lt.2 c20)
                                      have H' := Aside0.mk H
                                      clear H
                                      have p10 : 0 ≤ (x9_2 : Int) := of_decide_eq_true (by first | (with_reducible assumption) | assumption)
                                      have q10 : x9_2 < (x5_2.size : Int) := of_decide_eq_true (by first | (with_reducible assumption) | assumption)
                                      have hx10 := bt_at x5_2 x9_2
                                      replace p10 := eq_true p10
                                      replace q10 := eq_true q10
                                      have p13 : 0 ≤ (x7_1 : Int) := of_decide_eq_true (by first | (with_reducible assumption) | assumption)
                                      have q13 : x7_1 < (a0.size : Int) := of_decide_eq_true (by first | (with_reducible assumption) | assumption)
                                      have hx13 := bt_at a0 x7_1
                                      replace p13 := eq_true p13
                                      replace q13 := eq_true q13
                                      go_wp2
                                      repeat (go_quiet (fail); try go_wp2)
                                      go_roundg kj4
                                      case measure => have := HK1.out; have := HK2.out; have := HJ4.out; omega
                                      case rel => exact ⟨(x4_2), ((x5_2.extract 0 (x9_2 : Int).toNat) ++ (x5_2.extract ((ji17) : Int).toNat x5_2.size)), (true), (ji17), (by first | rfl | (simp; done) | (simp [*]; done)), (by first | rfl | (simp; done) | (simp only [← hji17] <;> (first | rfl | simp)) | (simp [*]; done)), (by first | rfl | (simp; done) | (simp [*]; done)), (by first | rfl | (simp; done) | (simp only [← hji17] <;> (first | rfl | simp)) | (simp [*]; done)), H', ⟨by have := HK1.out; have := HK2.out; have := HJ4.out; omega⟩, by repeat (first | exact Drawn0.refl _ | apply Drawn0.step)⟩
                                    · rw [if_neg c20] at H
                                      exact absurd H (by simp)
                                  · rw [if_neg c19] at H
                                    exact absurd H (by simp)
                                · rw [if_neg c18] at H
                                  exact absurd H (by simp)
                              · rw [if_neg c16] at H
                                exact absurd H (by simp)
                            · rw [if_neg c14] at H
                              have c14b0 : ((bt x5_2 x9_2) == (bt a0 x7_1)) = false := beq_eq_false_iff_ne.mpr c14
                              have c14b1 : ((bt x5_2 x9_2) != (bt a0 x7_1)) = true := bne_iff_ne.mpr c14
                              replace H := Option.bind_eq_some_iff.mp H
                              obtain ⟨t307, A210, H⟩ := H
                              replace H : (spec_RankOfLoop.l1 kj4 a0 (wrap64 (x4_2 + t307)) x5_2 x6_1 x7_1 x8_2 (wrap64 (x9_2 + 1))) = some (r1, r2) := H
                              have A21 := Aside0.mk A210
                              clear A210
                              have H' := Aside0.mk H
                              clear H
                              have p10 : 0 ≤ (x9_2 : Int) := of_decide_eq_true (by first | (with_reducible assumption) | assumption)
                              have q10 : x9_2 < (x5_2.size : Int) := of_decide_eq_true (by first | (with_reducible assumption) | assumption)
                              have hx10 := bt_at x5_2 x9_2
                              replace p10 := eq_true p10
                              replace q10 := eq_true q10
                              have p13 : 0 ≤ (x7_1 : Int) := of_decide_eq_true (by first | (with_reducible assumption) | assumption)
                              have q13 : x7_1 < (a0.size : Int) := of_decide_eq_true (by first | (with_reducible assumption) | assumption)
                              have hx13 := bt_at a0 x7_1
                              replace p13 := eq_true p13
                              replace q13 := eq_true q13
                              go_wp2_with (first | (go_at_call 79; (with_reducible refine (spec_loWays.calls kj4 (wrap64 ((x5_2.size : Int) - 1)) (wrap64 ((wrap64 ((a0.size : Int) / 2)) - x6_1)) t307 _ A21.out).mono ?_); rintro e w' ⟨rfl, ⟨nd, rfl⟩⟩; (try first | exact ⟨rfl, _, World.drewN_drewN _ _ _⟩ | exact ⟨rfl, _, Eq.trans (World.drewN_drewN _ _ _) (congrArg (World.drewN _) (Nat.add_assoc _ _ _))⟩)))
                              repeat (go_quiet (first | (go_at_call 79; (with_reducible refine (spec_loWays.calls kj4 (wrap64 ((x5_2.size : Int) - 1)) (wrap64 ((wrap64 ((a0.size : Int) / 2)) - x6_1)) t307 _ A21.out).mono ?_); rintro e w' ⟨rfl, ⟨nd, rfl⟩⟩; (try first | exact ⟨rfl, _, World.drewN_drewN _ _ _⟩ | exact ⟨rfl, _, Eq.trans (World.drewN_drewN _ _ _) (congrArg (World.drewN _) (Nat.add_assoc _ _ _))⟩))); try go_wp2_with (first | (go_at_call 79; (with_reducible refine (spec_loWays.calls kj4 (wrap64 ((x5_2.size : Int) - 1)) (wrap64 ((wrap64 ((a0.size : Int) / 2)) - x6_1)) t307 _ A21.out).mono ?_); rintro e w' ⟨rfl, ⟨nd, rfl⟩⟩; (try first | exact ⟨rfl, _, World.drewN_drewN _ _ _⟩ | exact ⟨rfl, _, Eq.trans (World.drewN_drewN _ _ _) (congrArg (World.drewN _) (Nat.add_assoc _ _ _))⟩))))
                              go_roundg kj4
                              case measure => have := HK1.out; have := HK2.out; have := HJ4.out; omega
                              case rel => exact ⟨(wrap64 (x4_2 + t307)), (x5_2), (x8_2), (wrap64 (x9_2 + 1)), (by first | rfl | (simp; done) | (simp [*]; done)), (by first | rfl | (simp; done) | (simp [*]; done)), (by first | rfl | (simp; done) | (simp [*]; done)), (by first | rfl | (simp; done) | (simp [*]; done)), H', ⟨by have := HK1.out; have := HK2.out; have := HJ4.out; omega⟩, by repeat (first | exact Drawn0.refl _ | apply Drawn0.step)⟩
                          · rw [if_neg c12] at H
                            exact absurd H (by simp)
                        · rw [if_neg c11] at H
                          exact absurd H (by simp)
                      · rw [if_neg c9] at H
                        exact absurd H (by simp)
                    · rw [if_neg c8] at H
                      exact absurd H (by simp)
                  · replace c7 := Bool.eq_false_iff.mpr c7
                    subst c7
                    have H1 : (if x8_2 = true then (spec_RankOfLoop.l0 kj4 a0 x4_2 x5_2 x6_1 (wrap64 (x7_1 + 1))) else (if 0 ≤ x7_1 then (if x7_1 ≤ (wrap64 (x7_1 + 1)) then (if (wrap64 (x7_1 + 1)) ≤ (a0.size : Int) then (if x5_2.size + (a0.extract (x7_1 : Int).toNat ((wrap64 (x7_1 + 1)) : Int).toNat).size ≤ 9223372036854775807 then (spec_RankOfLoop.l0 kj4 a0 x4_2 (x5_2 ++ (a0.extract (x7_1 : Int).toNat ((wrap64 (x7_1 + 1)) : Int).toNat)) (wrap64 (x6_1 + 1)) (wrap64 (x7_1 + 1))) else (none)) else (none)) else (none)) else (none))) = some (r1, r2) := by rw [if_neg (show ¬ (false = true) by decide)] at H; exact H
                    clear H
                    have H := H1
                    clear H1
                    by_cases c22 : x8_2 = true
                    · subst c22
                      have H1 : (spec_RankOfLoop.l0 kj4 a0 x4_2 x5_2 x6_1 (wrap64 (x7_1 + 1))) = some (r1, r2) := by rw [if_pos rfl] at H; exact H
                      clear H
                      have H := H1
                      clear H1
                      have H' := Aside0.mk H
                      clear H
                      go_wp2
                      repeat (go_quiet (fail); try go_wp2)
                      go_roundg kj4
                      case measure => have := HK1.out; have := HK2.out; have := HJ4.out; omega
                      case rel => exact ⟨(x4_2), (x5_2), (x6_1), (wrap64 (x7_1 + 1)), (by first | rfl | (simp; done) | (simp [*]; done)), (by first | rfl | (simp; done) | (simp [*]; done)), (by first | rfl | (simp; done) | (simp [*]; done)), (by first | rfl | (simp; done) | (simp [*]; done)), H', ⟨by have := HK1.out; have := HK2.out; have := HJ4.out; omega⟩, by repeat (first | exact Drawn0.refl _ | apply Drawn0.step)⟩
                    · replace c22 := Bool.eq_false_iff.mpr c22
                      subst c22
                      have H1 : (if 0 ≤ x7_1 then (if x7_1 ≤ (wrap64 (x7_1 + 1)) then (if (wrap64 (x7_1 + 1)) ≤ (a0.size : Int) then (if x5_2.size + (a0.extract (x7_1 : Int).toNat ((wrap64 (x7_1 + 1)) : Int).toNat).size ≤ 9223372036854775807 then (spec_RankOfLoop.l0 kj4 a0 x4_2 (x5_2 ++ (a0.extract (x7_1 : Int).toNat ((wrap64 (x7_1 + 1)) : Int).toNat)) (wrap64 (x6_1 + 1)) (wrap64 (x7_1 + 1))) else (none)) else (none)) else (none)) else (none)) = some (r1, r2) := by rw [if_neg (show ¬ (false = true) by decide)] at H; exact H
                      clear H
                      have H := H1
                      clear H1
                      by_cases c23 : 0 ≤ x7_1
                      · rw [if_pos c23] at H
                        have c23b0 := eq_true c23
                        have c23b1 : decide (0 ≤ x7_1) = true := decide_eq_true c23
                        clear c23
                        by_cases c24 : x7_1 ≤ (wrap64 (x7_1 + 1))
                        · rw [if_pos c24] at H
                          have c24b0 := eq_true c24
                          have c24b1 : decide (x7_1 ≤ (wrap64 (x7_1 + 1))) = true := decide_eq_true c24
                          by_cases c25 : (wrap64 (x7_1 + 1)) ≤ (a0.size : Int)
                          · rw [if_pos c25] at H
                            have c25b0 := eq_true c25
                            have c25b1 : decide ((wrap64 (x7_1 + 1)) ≤ (a0.size : Int)) = true := decide_eq_true c25
                            by_cases c26 : x5_2.size + (a0.extract (x7_1 : Int).toNat ((wrap64 (x7_1 + 1)) : Int).toNat).size ≤ 9223372036854775807
                            · rw [if_pos c26] at H
                              have c26b0 := eq_true c26
                              have c26b1 : decide (x5_2.size + (a0.extract (x7_1 : Int).toNat ((wrap64 (x7_1 + 1)) : Int).toNat).size ≤ 9223372036854775807) = true := decide_eq_true c26
                              try have c26b2 : (9223372036854775807 < x5_2.size + (a0.extract (x7_1 : Int).toNat ((wrap64 (x7_1 + 1)) : Int).toNat).size) = False := eq_false (Nat.not_lt.2 c26)
                              have H' := Aside0.mk H
                              clear H
                              go_wp2
                              repeat (go_quiet (fail); try go_wp2)
                              go_roundg kj4
                              case measure => have := HK1.out; have := HK2.out; have := HJ4.out; omega
                              case rel => exact ⟨(x4_2), (x5_2 ++ (a0.extract (x7_1 : Int).toNat ((wrap64 (x7_1 + 1)) : Int).toNat)), (wrap64 (x6_1 + 1)), (wrap64 (x7_1 + 1)), (by first | rfl | (simp; done) | (simp [*]; done)), (by first | rfl | (simp; done) | (simp [*]; done)), (by first | rfl | (simp; done) | (simp [*]; done)), (by first | rfl | (simp; done) | (simp [*]; done)), H', ⟨by have := HK1.out; have := HK2.out; have := HJ4.out; omega⟩, by repeat (first | exact Drawn0.refl _ | apply Drawn0.step)⟩
                            · rw [if_neg c26] at H
                              exact absurd H (by simp)
                          · rw [if_neg c25] at H
                            exact absurd H (by simp)
                        · rw [if_neg c24] at H
                          exact absurd H (by simp)
                      · rw [if_neg c23] at H
                        exact absurd H (by simp)
        · rw [if_neg c4] at H
          have c4b0 : decide (x7_1 < (a0.size : Int)) = false := decide_eq_false c4
          clear c4
          simp only [Option.some.injEq, Prod.mk.injEq] at H
          obtain ⟨rfl, rfl⟩ := H
          go_wp2
          repeat (go_quiet (fail); try go_wp2)
          go_ret2
          exact ⟨by first | rfl | (simp; done) | (simp [*]; done), by repeat (first | exact Drawn0.refl _ | apply Drawn0.step)⟩
  · replace c3 := Bool.eq_false_iff.mpr c3
    subst c3
    have H1 : (some (0, false)) = some (r1, r2) := by rw [if_neg (show ¬ (false = true) by decide)] at H; exact H
    clear H
    have H := H1
    clear H1
    simp only [Option.some.injEq, Prod.mk.injEq] at H
    obtain ⟨rfl, rfl⟩ := H
    go_enter Tryz.func25, Tryz.ntmps25
    go_wp2_with (first | (go_at_call 71; (with_reducible refine (spec_loGood.calls k a0 false _ A2.out).mono ?_); rintro e w' ⟨rfl, ⟨nd, rfl⟩⟩; (try first | exact ⟨rfl, _, World.drewN_drewN _ _ _⟩ | exact ⟨rfl, _, Eq.trans (World.drewN_drewN _ _ _) (congrArg (World.drewN _) (Nat.add_assoc _ _ _))⟩)))
    repeat (go_quiet (first | (go_at_call 71; (with_reducible refine (spec_loGood.calls k a0 false _ A2.out).mono ?_); rintro e w' ⟨rfl, ⟨nd, rfl⟩⟩; (try first | exact ⟨rfl, _, World.drewN_drewN _ _ _⟩ | exact ⟨rfl, _, Eq.trans (World.drewN_drewN _ _ _) (congrArg (World.drewN _) (Nat.add_assoc _ _ _))⟩))); try go_wp2_with (first | (go_at_call 71; (with_reducible refine (spec_loGood.calls k a0 false _ A2.out).mono ?_); rintro e w' ⟨rfl, ⟨nd, rfl⟩⟩; (try first | exact ⟨rfl, _, World.drewN_drewN _ _ _⟩ | exact ⟨rfl, _, Eq.trans (World.drewN_drewN _ _ _) (congrArg (World.drewN _) (Nat.add_assoc _ _ _))⟩))))
    go_ret2
    exact ⟨by first | rfl | (simp; done) | (simp [*]; done), by repeat (first | exact Drawn0.refl _ | apply Drawn0.step)⟩

end Go.Proofs.YtcgoaipbfnhjhaaGreatDoor.Pr

-- Written by a program for this claim.
namespace Go.Proofs.YtcgoaipbfnhjhaaGreatDoor.Pr
open Go.RowKit Go.Proofs.YtcgoaipbfnhjhaaGreatDoorW.PrintWords Go.Proofs.YtcgoaipbfnhjhaaGreatDoorW.PrintLast Go.Proofs.YtcgoaipbfnhjhaaGreatDoorW.PrintMore
attribute [local go_sem] max2_int min2_int max_two min_two max_three min_three max_four min_four   -- for this text's walks alone
set_option linter.unusedVariables false
set_option linter.unusedSimpArgs false

/-! ### impl_CanBeDrawn: function 27 -/
def impl_CanBeDrawn.f (k : Nat) (a0 : ByteArray) : Option (Bool × Bool) := (impl_IsLoop.f k a0).bind fun t122 => (if t122 = true then ((impl_canBeDrawn.f k a0).bind fun t123 => (some (t123, true))) else (some (false, false)))
theorem impl_CanBeDrawn.mono : ∀ a0 k, LeO (impl_CanBeDrawn.f k a0) (impl_CanBeDrawn.f (k + 1) a0) := by
  intro a0 k
  unfold impl_CanBeDrawn.f
  repeat' first
      | (with_reducible exact impl_IsLoop.mono _ _)
      | (with_reducible exact impl_canBeDrawn.mono _ _)
      | (with_reducible exact LeO.refl _)
      | (with_reducible exact LeO.none _)
      | (with_reducible refine LeO.ite ?_ ?_)
      | (with_reducible refine LeO.bind ?_ (fun _ => ?_))
      | exact impl_IsLoop.mono _ _
      | exact impl_canBeDrawn.mono _ _
      | exact LeO.none _
      | refine LeO.ite ?_ ?_
      | refine LeO.bind ?_ (fun _ => ?_)
set_option maxHeartbeats 8000000 in
set_option maxRecDepth 100000 in
theorem impl_CanBeDrawn.calls (k : Nat) (a0 : ByteArray) (r1 : Bool) (r2 : Bool) (w : World) (h : impl_CanBeDrawn.f k a0 = some (r1, r2)) :
    Calls Tryz.prog 27 #[.string a0] w fun e w' => e = .returned (.tuple #[.bool r1, .bool r2]) ∧ Below w.heap.size w w' := by
  have HB := Aside0.mk (Below.refl w.heap.size w)
  have H : ((impl_IsLoop.f k a0).bind fun t122 => (if t122 = true then ((impl_canBeDrawn.f k a0).bind fun t123 => (some (t123, true))) else (some (false, false)))) = some (r1, r2) := h
  clear h
  replace H := Option.bind_eq_some_iff.mp H
  obtain ⟨t122, A20, H⟩ := H
  replace H : (if t122 = true then ((impl_canBeDrawn.f k a0).bind fun t123 => (some (t123, true))) else (some (false, false))) = some (r1, r2) := H
  have A2 := Aside0.mk A20
  clear A20
  by_cases c3 : t122 = true
  · subst c3
    have H1 : ((impl_canBeDrawn.f k a0).bind fun t123 => (some (t123, true))) = some (r1, r2) := by rw [if_pos rfl] at H; exact H
    clear H
    have H := H1
    clear H1
    replace H := Option.bind_eq_some_iff.mp H
    obtain ⟨t123, A40, H⟩ := H
    replace H : (some (t123, true)) = some (r1, r2) := H
    have A4 := Aside0.mk A40
    clear A40
    simp only [Option.some.injEq, Prod.mk.injEq] at H
    obtain ⟨rfl, rfl⟩ := H
    go_enter Tryz.func27, Tryz.ntmps27
    go_wp2_with (first | ((with_reducible refine gate_callee (f := 12) rfl ?_); refine goesL_ (some 5) rfl rfl Tryz.func12 (by kernel_rfl) rfl #[.string a0] rfl (by (try simp only [List.map_toArray, List.map_cons, List.map_nil]); first | done | rfl | (simp only [List.length_drop, List.length_take]; rfl)) ?_; (with_reducible refine (impl_IsLoop.calls k a0 true _ A2.out).mono ?_); rintro e w5 ⟨rfl, hb⟩; refine ⟨_, rfl, ?_⟩; have n0_ := Aside0.mk (below_step (by repeat (first | (with_reducible first | exact HB.out | apply below_alloc | apply pw_below_drewN | apply below_drew1) | exact HB.out)) hb); clear HB; have HB := n0_; clear n0_; (try clear hb); (try clear hb2); (try clear hk); (try clear hi)) | ((with_reducible refine gate_callee (f := 68) rfl ?_); refine goesL_ (some 8) rfl rfl Tryz.func68 (by kernel_rfl) rfl #[.string a0] rfl (by (try simp only [List.map_toArray, List.map_cons, List.map_nil]); first | done | rfl | (simp only [List.length_drop, List.length_take]; rfl)) ?_; (with_reducible refine (impl_canBeDrawn.calls k a0 t123 _ A4.out).mono ?_); rintro e w6 ⟨rfl, hb⟩; refine ⟨_, rfl, ?_⟩; have n0_ := Aside0.mk (below_step (by repeat (first | (with_reducible first | exact HB.out | apply below_alloc | apply pw_below_drewN | apply below_drew1) | exact HB.out)) hb); clear HB; have HB := n0_; clear n0_; (try clear hb); (try clear hb2); (try clear hk); (try clear hi)))
    go_ret2
    exact ⟨by first | rfl | (simp [errW_none, errW_some] <;> rfl) | (simp [*, errW_none, errW_some] <;> rfl), by repeat (first | (with_reducible first | exact HB.out | apply below_alloc | apply pw_below_drewN | apply below_drew1) | exact HB.out)⟩
  · replace c3 := Bool.eq_false_iff.mpr c3
    subst c3
    have H1 : (some (false, false)) = some (r1, r2) := by rw [if_neg (show ¬ (false = true) by decide)] at H; exact H
    clear H
    have H := H1
    clear H1
    simp only [Option.some.injEq, Prod.mk.injEq] at H
    obtain ⟨rfl, rfl⟩ := H
    go_enter Tryz.func27, Tryz.ntmps27
    go_wp2_with (first | ((with_reducible refine gate_callee (f := 12) rfl ?_); refine goesL_ (some 5) rfl rfl Tryz.func12 (by kernel_rfl) rfl #[.string a0] rfl (by (try simp only [List.map_toArray, List.map_cons, List.map_nil]); first | done | rfl | (simp only [List.length_drop, List.length_take]; rfl)) ?_; (with_reducible refine (impl_IsLoop.calls k a0 false _ A2.out).mono ?_); rintro e w7 ⟨rfl, hb⟩; refine ⟨_, rfl, ?_⟩; have n0_ := Aside0.mk (below_step (by repeat (first | (with_reducible first | exact HB.out | apply below_alloc | apply pw_below_drewN | apply below_drew1) | exact HB.out)) hb); clear HB; have HB := n0_; clear n0_; (try clear hb); (try clear hb2); (try clear hk); (try clear hi)))
    go_ret2
    exact ⟨by first | rfl | (simp [errW_none, errW_some] <;> rfl) | (simp [*, errW_none, errW_some] <;> rfl), by repeat (first | (with_reducible first | exact HB.out | apply below_alloc | apply pw_below_drewN | apply below_drew1) | exact HB.out)⟩

end Go.Proofs.YtcgoaipbfnhjhaaGreatDoor.Pr

-- Written by a program for this claim.
namespace Go.Proofs.YtcgoaipbfnhjhaaGreatDoor.Pr
open Go.RowKit Go.Proofs.YtcgoaipbfnhjhaaGreatDoorW.PrintWords Go.Proofs.YtcgoaipbfnhjhaaGreatDoorW.PrintLast Go.Proofs.YtcgoaipbfnhjhaaGreatDoorW.PrintMore
attribute [local go_sem] max2_int min2_int max_two min_two max_three min_three max_four min_four   -- for this text's walks alone
set_option linter.unusedVariables false
set_option linter.unusedSimpArgs false

/-! ### impl_FirstLoop: function 28 -/
def impl_FirstLoop.f (k : Nat) (a0 : ByteArray) : Option (ByteArray × Bool) := (impl_IsLoop.f k a0).bind fun t134 => (if t134 = true then ((impl_firstLoop.f k a0).bind fun t135 => (some (t135, true))) else (some ((⟨#[]⟩ : ByteArray), false)))
theorem impl_FirstLoop.mono : ∀ a0 k, LeO (impl_FirstLoop.f k a0) (impl_FirstLoop.f (k + 1) a0) := by
  intro a0 k
  unfold impl_FirstLoop.f
  repeat' first
      | (with_reducible exact impl_IsLoop.mono _ _)
      | (with_reducible exact impl_firstLoop.mono _ _)
      | (with_reducible exact LeO.refl _)
      | (with_reducible exact LeO.none _)
      | (with_reducible refine LeO.ite ?_ ?_)
      | (with_reducible refine LeO.bind ?_ (fun _ => ?_))
      | exact impl_IsLoop.mono _ _
      | exact impl_firstLoop.mono _ _
      | exact LeO.none _
      | refine LeO.ite ?_ ?_
      | refine LeO.bind ?_ (fun _ => ?_)
set_option maxHeartbeats 8000000 in
set_option maxRecDepth 100000 in
theorem impl_FirstLoop.calls (k : Nat) (a0 : ByteArray) (r1 : ByteArray) (r2 : Bool) (w : World) (h : impl_FirstLoop.f k a0 = some (r1, r2)) :
    Calls Tryz.prog 28 #[.string a0] w fun e w' => e = .returned (.tuple #[.string r1, .bool r2]) ∧ Below w.heap.size w w' := by
  have HB := Aside0.mk (Below.refl w.heap.size w)
  have H : ((impl_IsLoop.f k a0).bind fun t134 => (if t134 = true then ((impl_firstLoop.f k a0).bind fun t135 => (some (t135, true))) else (some ((⟨#[]⟩ : ByteArray), false)))) = some (r1, r2) := h
  clear h
  replace H := Option.bind_eq_some_iff.mp H
  obtain ⟨t134, A20, H⟩ := H
  replace H : (if t134 = true then ((impl_firstLoop.f k a0).bind fun t135 => (some (t135, true))) else (some ((⟨#[]⟩ : ByteArray), false))) = some (r1, r2) := H
  have A2 := Aside0.mk A20
  clear A20
  by_cases c3 : t134 = true
  · subst c3
    have H1 : ((impl_firstLoop.f k a0).bind fun t135 => (some (t135, true))) = some (r1, r2) := by rw [if_pos rfl] at H; exact H
    clear H
    have H := H1
    clear H1
    replace H := Option.bind_eq_some_iff.mp H
    obtain ⟨t135, A40, H⟩ := H
    replace H : (some (t135, true)) = some (r1, r2) := H
    have A4 := Aside0.mk A40
    clear A40
    simp only [Option.some.injEq, Prod.mk.injEq] at H
    obtain ⟨rfl, rfl⟩ := H
    go_enter Tryz.func28, Tryz.ntmps28
    go_wp2_with (first | ((with_reducible refine gate_callee (f := 12) rfl ?_); refine goesL_ (some 5) rfl rfl Tryz.func12 (by kernel_rfl) rfl #[.string a0] rfl (by (try simp only [List.map_toArray, List.map_cons, List.map_nil]); first | done | rfl | (simp only [List.length_drop, List.length_take]; rfl)) ?_; (with_reducible refine (impl_IsLoop.calls k a0 true _ A2.out).mono ?_); rintro e w5 ⟨rfl, hb⟩; refine ⟨_, rfl, ?_⟩; have n0_ := Aside0.mk (below_step (by repeat (first | (with_reducible first | exact HB.out | apply below_alloc | apply pw_below_drewN | apply below_drew1) | exact HB.out)) hb); clear HB; have HB := n0_; clear n0_; (try clear hb); (try clear hb2); (try clear hk); (try clear hi)) | ((with_reducible refine gate_callee (f := 76) rfl ?_); refine goesL_ (some 8) rfl rfl Tryz.func76 (by kernel_rfl) rfl #[.string a0] rfl (by (try simp only [List.map_toArray, List.map_cons, List.map_nil]); first | done | rfl | (simp only [List.length_drop, List.length_take]; rfl)) ?_; (with_reducible refine (impl_firstLoop.calls k a0 t135 _ A4.out).mono ?_); rintro e w6 ⟨rfl, hb⟩; refine ⟨_, rfl, ?_⟩; have n0_ := Aside0.mk (below_step (by repeat (first | (with_reducible first | exact HB.out | apply below_alloc | apply pw_below_drewN | apply below_drew1) | exact HB.out)) hb); clear HB; have HB := n0_; clear n0_; (try clear hb); (try clear hb2); (try clear hk); (try clear hi)))
    go_ret2
    exact ⟨by first | rfl | (simp [errW_none, errW_some] <;> rfl) | (simp [*, errW_none, errW_some] <;> rfl), by repeat (first | (with_reducible first | exact HB.out | apply below_alloc | apply pw_below_drewN | apply below_drew1) | exact HB.out)⟩
  · replace c3 := Bool.eq_false_iff.mpr c3
    subst c3
    have H1 : (some ((⟨#[]⟩ : ByteArray), false)) = some (r1, r2) := by rw [if_neg (show ¬ (false = true) by decide)] at H; exact H
    clear H
    have H := H1
    clear H1
    simp only [Option.some.injEq, Prod.mk.injEq] at H
    obtain ⟨rfl, rfl⟩ := H
    go_enter Tryz.func28, Tryz.ntmps28
    go_wp2_with (first | ((with_reducible refine gate_callee (f := 12) rfl ?_); refine goesL_ (some 5) rfl rfl Tryz.func12 (by kernel_rfl) rfl #[.string a0] rfl (by (try simp only [List.map_toArray, List.map_cons, List.map_nil]); first | done | rfl | (simp only [List.length_drop, List.length_take]; rfl)) ?_; (with_reducible refine (impl_IsLoop.calls k a0 false _ A2.out).mono ?_); rintro e w7 ⟨rfl, hb⟩; refine ⟨_, rfl, ?_⟩; have n0_ := Aside0.mk (below_step (by repeat (first | (with_reducible first | exact HB.out | apply below_alloc | apply pw_below_drewN | apply below_drew1) | exact HB.out)) hb); clear HB; have HB := n0_; clear n0_; (try clear hb); (try clear hb2); (try clear hk); (try clear hi)))
    go_ret2
    exact ⟨by first | rfl | (simp [errW_none, errW_some] <;> rfl) | (simp [*, errW_none, errW_some] <;> rfl), by repeat (first | (with_reducible first | exact HB.out | apply below_alloc | apply pw_below_drewN | apply below_drew1) | exact HB.out)⟩

end Go.Proofs.YtcgoaipbfnhjhaaGreatDoor.Pr

-- Written by a program for this claim.
namespace Go.Proofs.YtcgoaipbfnhjhaaGreatDoor.Pr
open Go.RowKit Go.Proofs.YtcgoaipbfnhjhaaGreatDoorW.PrintWords Go.Proofs.YtcgoaipbfnhjhaaGreatDoorW.PrintLast Go.Proofs.YtcgoaipbfnhjhaaGreatDoorW.PrintMore
attribute [local go_sem] max2_int min2_int max_two min_two max_three min_three max_four min_four   -- for this text's walks alone
set_option linter.unusedVariables false
set_option linter.unusedSimpArgs false

/-! ### laws_uTexts: function 26 -/
def laws_uTexts.l0 : Nat → List ByteArray → List ByteArray → Int → Int → Option (Bool)
  | 0, _, _, _, _ => none
  | k + 1, x0, x1, x12, x13 => if x13 < x12 then (if 0 ≤ x13 then (if x13 < (x0.length : Int) then (if x13 < (x1.length : Int) then (if (rdOf ByteArray.empty x0 x13).toList = (rdOf ByteArray.empty x1 x13).toList then (laws_uTexts.l0 k x0 x1 x12 (wrap64 (x13 + 1))) else (some false)) else (none)) else (none)) else (none)) else (some true)
def laws_uTexts.f (k : Nat) (l0 : List ByteArray) (l1 : List ByteArray) : Option (Bool) := if (l0.length : Int) = (l1.length : Int) then (laws_uTexts.l0 k l0 l1 (l0.length : Int) 0) else (some false)
theorem laws_uTexts.mono_l : ∀ k, (∀ y0 y1 y2 y3, LeO (laws_uTexts.l0 k y0 y1 y2 y3) (laws_uTexts.l0 (k + 1) y0 y1 y2 y3))
  | 0 => fun _ _ _ _ r h => by simp [laws_uTexts.l0] at h
  | k + 1 => by
    have ih0 := laws_uTexts.mono_l k
    · intro y0 y1 y2 y3
      unfold laws_uTexts.l0
      repeat' first
      | (with_reducible exact ih0 _ _ _ _)
      | (with_reducible exact LeO.refl _)
      | (with_reducible exact LeO.none _)
      | (with_reducible refine LeO.ite ?_ ?_)
      | (with_reducible refine LeO.bind ?_ (fun _ => ?_))
      | exact ih0 _ _ _ _
      | exact LeO.none _
      | refine LeO.ite ?_ ?_
      | refine LeO.bind ?_ (fun _ => ?_)
theorem laws_uTexts.mono : ∀ a0 a1 k, LeO (laws_uTexts.f k a0 a1) (laws_uTexts.f (k + 1) a0 a1) := by
  intro a0 a1 k
  have ih0 := laws_uTexts.mono_l k
  unfold laws_uTexts.f
  repeat' first
      | (with_reducible exact ih0 _ _ _ _)
      | (with_reducible exact LeO.refl _)
      | (with_reducible exact LeO.none _)
      | (with_reducible refine LeO.ite ?_ ?_)
      | (with_reducible refine LeO.bind ?_ (fun _ => ?_))
      | exact ih0 _ _ _ _
      | exact LeO.none _
      | refine LeO.ite ?_ ?_
      | refine LeO.bind ?_ (fun _ => ?_)
set_option maxHeartbeats 8000000 in
set_option maxRecDepth 100000 in
theorem laws_uTexts.calls (k : Nat) (A0 : Option Addr) (c0 : Nat) (l0 : List ByteArray) (A1 : Option Addr) (c1 : Nat) (l1 : List ByteArray) (r : Bool) (w : World) (hr0 : Kd.C Kd.string w A0 l0.length l0) (hc0 : l0.length ≤ c0) (hr1 : Kd.C Kd.string w A1 l1.length l1) (hc1 : l1.length ≤ c1) (h : laws_uTexts.f k l0 l1 = some r) :
    Calls Tryz.prog 26 #[.slice A0 l0.length c0, .slice A1 l1.length c1] w fun e w' => e = .returned (.bool r) ∧ Drawn0 w w' := by
  have HR0 := Aside0.mk hr0
  have HC0 := Aside0.mk hc0
  clear hr0 hc0
  have HR1 := Aside0.mk hr1
  have HC1 := Aside0.mk hc1
  clear hr1 hc1
  have H : (if (l0.length : Int) = (l1.length : Int) then (laws_uTexts.l0 k l0 l1 (l0.length : Int) 0) else (some false)) = some r := h
  clear h
  by_cases c3 : (l0.length : Int) = (l1.length : Int)
  · rw [if_pos c3] at H
    have c3b0 : ((l0.length : Int) == (l1.length : Int)) = true := beq_iff_eq.mpr c3
    have c3b1 : ((l0.length : Int) != (l1.length : Int)) = false := bne_eq_false_iff_eq.mpr c3
    have c3b2 : (l0.length == l1.length) = true := by first | simpa using c3 | (simp at c3 ⊢; omega)
    clear c3
    have H' := Aside0.mk H
    clear H
    go_enter Tryz.func26, Tryz.ntmps26
    go_wp2
    repeat (go_quiet (fail); try go_wp2)
    go_loopg [13] k (fun kq v13 w' => ∃ (x13_1 : Int), v13 = .int .i64 x13_1 ∧ Aside0 (laws_uTexts.l0 kq l0 l1 (l0.length : Int) x13_1 = some r) ∧ Aside0 (kq ≤ k) ∧ Drawn0 w w')
    case atStart => exact ⟨(0), (by first | rfl | (simp; done) | (simp [*]; done)), H', ⟨Nat.le_refl _⟩, by repeat (first | exact Drawn0.refl _ | apply Drawn0.step)⟩
    case round =>
      clear H'
      try clear c1
      try clear c2
      try clear p2
      try clear c3
      try clear c3b0
      try clear c3b1
      try clear c3b2
      obtain ⟨x13_1, rfl, HA, HK1, ⟨m1, rfl⟩⟩ := hrel
      cases gk with
      | zero => exact absurd HA.out (by simp [laws_uTexts.l0])
      | succ k1 =>
        have H := HA.out
        clear HA
        simp only [laws_uTexts.l0] at H
        by_cases c4 : x13_1 < (l0.length : Int)
        · rw [if_pos c4] at H
          have c4b0 : decide (x13_1 < (l0.length : Int)) = true := decide_eq_true c4
          clear c4
          by_cases c5 : 0 ≤ x13_1
          · rw [if_pos c5] at H
            have c5b0 : decide (0 ≤ x13_1) = true := decide_eq_true c5
            clear c5
            by_cases c6 : x13_1 < (l0.length : Int)
            · rw [if_pos c6] at H
              have c6b0 : decide (x13_1 < (l0.length : Int)) = true := decide_eq_true c6
              clear c6
              by_cases c7 : x13_1 < (l1.length : Int)
              · rw [if_pos c7] at H
                have c7b0 : decide (x13_1 < (l1.length : Int)) = true := decide_eq_true c7
                clear c7
                by_cases c8 : (rdOf ByteArray.empty l0 x13_1).toList = (rdOf ByteArray.empty l1 x13_1).toList
                · rw [if_pos c8] at H
                  have c8b0 : ((rdOf ByteArray.empty l0 x13_1).toList == (rdOf ByteArray.empty l1 x13_1).toList) = true := beq_iff_eq.mpr c8
                  have c8b1 : ((rdOf ByteArray.empty l0 x13_1).toList != (rdOf ByteArray.empty l1 x13_1).toList) = false := bne_eq_false_iff_eq.mpr c8
                  clear c8
                  have H' := Aside0.mk H
                  clear H
                  have p308 : 0 ≤ (x13_1 : Int) := of_decide_eq_true (by first | (with_reducible assumption) | assumption)
                  have q308 : x13_1 < (l0.length : Int) := of_decide_eq_true (by first | (with_reducible assumption) | assumption)
                  obtain ⟨ad308, e308, hx308_0⟩ := Kd.at_string HR0.out x13_1 p308 q308
                  cases e308
                  replace p308 := eq_true p308
                  replace q308 := eq_true q308
                  have p309 : 0 ≤ (x13_1 : Int) := of_decide_eq_true (by first | (with_reducible assumption) | assumption)
                  have q309 : x13_1 < (l1.length : Int) := of_decide_eq_true (by first | (with_reducible assumption) | assumption)
                  obtain ⟨ad309, e309, hx309_0⟩ := Kd.at_string HR1.out x13_1 p309 q309
                  cases e309
                  replace p309 := eq_true p309
                  replace q309 := eq_true q309
                  go_wp2
                  repeat (go_quiet (fail); try go_wp2)
                  go_roundg k1
                  case measure => have := HK1.out; omega
                  case rel => exact ⟨(wrap64 (x13_1 + 1)), (by first | rfl | (simp; done) | (simp [*]; done)), H', ⟨by have := HK1.out; omega⟩, by repeat (first | exact Drawn0.refl _ | apply Drawn0.step)⟩
                · rw [if_neg c8] at H
                  have c8b0 : ((rdOf ByteArray.empty l0 x13_1).toList == (rdOf ByteArray.empty l1 x13_1).toList) = false := beq_eq_false_iff_ne.mpr c8
                  have c8b1 : ((rdOf ByteArray.empty l0 x13_1).toList != (rdOf ByteArray.empty l1 x13_1).toList) = true := bne_iff_ne.mpr c8
                  obtain rfl := Option.some.inj H
                  have p308 : 0 ≤ (x13_1 : Int) := of_decide_eq_true (by first | (with_reducible assumption) | assumption)
                  have q308 : x13_1 < (l0.length : Int) := of_decide_eq_true (by first | (with_reducible assumption) | assumption)
                  obtain ⟨ad308, e308, hx308_0⟩ := Kd.at_string HR0.out x13_1 p308 q308
                  cases e308
                  replace p308 := eq_true p308
                  replace q308 := eq_true q308
                  have p309 : 0 ≤ (x13_1 : Int) := of_decide_eq_true (by first | (with_reducible assumption) | assumption)
                  have q309 : x13_1 < (l1.length : Int) := of_decide_eq_true (by first | (with_reducible assumption) | assumption)
                  obtain ⟨ad309, e309, hx309_0⟩ := Kd.at_string HR1.out x13_1 p309 q309
                  cases e309
                  replace p309 := eq_true p309
                  replace q309 := eq_true q309
                  go_wp2
                  repeat (go_quiet (fail); try go_wp2)
                  go_ret
                  exact ⟨by first | rfl | (simp; done) | (simp [*]; done), by repeat (first | exact Drawn0.refl _ | apply Drawn0.step)⟩
              · rw [if_neg c7] at H
                exact absurd H (by simp)
            · rw [if_neg c6] at H
              exact absurd H (by simp)
          · rw [if_neg c5] at H
            exact absurd H (by simp)
        · rw [if_neg c4] at H
          have c4b0 : decide (x13_1 < (l0.length : Int)) = false := decide_eq_false c4
          clear c4
          obtain rfl := Option.some.inj H
          go_wp2
          repeat (go_quiet (fail); try go_wp2)
          go_ret
          exact ⟨by first | rfl | (simp; done) | (simp [*]; done), by repeat (first | exact Drawn0.refl _ | apply Drawn0.step)⟩
  · rw [if_neg c3] at H
    have c3b0 : ((l0.length : Int) == (l1.length : Int)) = false := beq_eq_false_iff_ne.mpr c3
    have c3b1 : ((l0.length : Int) != (l1.length : Int)) = true := bne_iff_ne.mpr c3
    have c3b2 : (l0.length == l1.length) = false := by first | simpa using c3 | (simp at c3 ⊢; omega)
    obtain rfl := Option.some.inj H
    go_enter Tryz.func26, Tryz.ntmps26
    go_wp2
    repeat (go_quiet (fail); try go_wp2)
    go_ret
    exact ⟨by first | rfl | (simp; done) | (simp [*]; done), by repeat (first | exact Drawn0.refl _ | apply Drawn0.step)⟩

end Go.Proofs.YtcgoaipbfnhjhaaGreatDoor.Pr

-- Written by a program for this claim.
namespace Go.Proofs.YtcgoaipbfnhjhaaGreatDoor.Pr
open Go.RowKit Go.Proofs.YtcgoaipbfnhjhaaGreatDoorW.PrintWords Go.Proofs.YtcgoaipbfnhjhaaGreatDoorW.PrintLast Go.Proofs.YtcgoaipbfnhjhaaGreatDoorW.PrintMore
attribute [local go_sem] max2_int min2_int max_two min_two max_three min_three max_four min_four   -- for this text's walks alone
set_option linter.unusedVariables false
set_option linter.unusedSimpArgs false

/-! ### laws_big: function 5 -/
def laws_big.f (l0 : List Int) (l1 : List Int) : Option (Bool) := if (l0.length : Int) > 1048576 then (some true) else (some (decide ((l1.length : Int) > (wrap64 (1048576 - (l0.length : Int))))))
set_option maxHeartbeats 8000000 in
set_option maxRecDepth 100000 in
theorem laws_big.calls (A0 : Option Addr) (c0 : Nat) (l0 : List Int) (A1 : Option Addr) (c1 : Nat) (l1 : List Int) (r : Bool) (w : World) (hr0 : Kd.C (Kd.int .u8) w A0 l0.length l0) (hc0 : l0.length ≤ c0) (hr1 : Kd.C (Kd.int .u8) w A1 l1.length l1) (hc1 : l1.length ≤ c1) (h : laws_big.f l0 l1 = some r) :
    Calls Tryz.prog 5 #[.slice A0 l0.length c0, .slice A1 l1.length c1] w fun e w' => e = .returned (.bool r) ∧ Drawn0 w w' := by
  have HR0 := Aside0.mk hr0
  have HC0 := Aside0.mk hc0
  clear hr0 hc0
  have HR1 := Aside0.mk hr1
  have HC1 := Aside0.mk hc1
  clear hr1 hc1
  have H : (if (l0.length : Int) > 1048576 then (some true) else (some (decide ((l1.length : Int) > (wrap64 (1048576 - (l0.length : Int))))))) = some r := h
  clear h
  by_cases c3 : (l0.length : Int) > 1048576
  · rw [if_pos c3] at H
    have c3b0 : decide (1048576 < (l0.length : Int)) = true := decide_eq_true c3
    have c3b1 : decide (1048576 < l0.length) = true := decide_eq_true (by omega)
    clear c3
    obtain rfl := Option.some.inj H
    go_enter Tryz.func5, Tryz.ntmps5
    go_wp2
    go_ret
    exact ⟨by first | rfl | (simp; done) | (simp [*]; done), by repeat (first | exact Drawn0.refl _ | apply Drawn0.step)⟩
  · rw [if_neg c3] at H
    have c3b0 : decide (1048576 < (l0.length : Int)) = false := decide_eq_false c3
    have c3b1 : decide (1048576 < l0.length) = false := decide_eq_false (by omega)
    clear c3
    obtain rfl := Option.some.inj H
    go_enter Tryz.func5, Tryz.ntmps5
    go_wp2
    go_ret
    exact ⟨by first | rfl | (simp; done) | (simp [*]; done), by repeat (first | exact Drawn0.refl _ | apply Drawn0.step)⟩

end Go.Proofs.YtcgoaipbfnhjhaaGreatDoor.Pr

/- What the law of listed loops computes: true, where each test holds. -/
namespace Go.Proofs.YtcgoaipbfnhjhaaGreatDoor.Pr
open Go.RowKit Go.Proofs.YtcgoaipbfnhjhaaGreatDoorW.PrintWords Go.Proofs.YtcgoaipbfnhjhaaGreatDoorW.PrintLast Go.Proofs.YtcgoaipbfnhjhaaGreatDoorW.PrintMore
set_option linter.unusedVariables false
set_option linter.unusedSimpArgs false

def llC (k : Nat) (n r : Int) (a : ByteArray × Bool) : Option Unit :=
  if a.2 = true then (impl_RankOfLoop.f k a.1).bind fun b => (impl_IsLoop.f k a.1).bind fun g => if b.2 = true ∧ b.1 = r ∧ g = true ∧ (a.1.size : Int) = wrap64 (2 * n) then
    (if r > 0 then (impl_LoopOfRank.f k n (wrap64 (r - 1))).bind fun z => if z.2 = true ∧ Op.bytesLess z.1.toList a.1.toList = true then some () else none else some ()) else none else some ()
def llA (k : Nat) (n r : Int) : Option Unit :=
  (impl_LoopOfRank.f k n r).bind fun a => (spec_LoopOfRank.f k n r).bind fun a' => (impl_CountLoops.f k n).bind fun c => (spec_CountLoops.f k n).bind fun c' =>
  if a' = a ∧ c' = c ∧ a.2 = (c.2 && (decide (0 ≤ r) && decide (r < c.1))) then llC k n r a else none
def llL (k : Nat) (xs : List ByteArray) : Nat → Int → Int → Option Int
  | 0, _, t => some t
  | d + 1, i, t => (impl_CanBeDrawn.f k (rdOf ByteArray.empty xs i)).bind fun b => if b.2 = true ∧ (0 < i → Op.bytesLess (rdOf ByteArray.empty xs (i - 1)).toList (rdOf ByteArray.empty xs i).toList = true) then llL k xs d (i + 1) (if b.1 = true then wrap64 (t + 1) else t) else none
def llAll (k : Nat) (n : Int) (xs : List ByteArray) (cd : Int) : Option Unit :=
  (impl_CountLoops.f k n).bind fun c => (llL k xs xs.length 0 0).bind fun t => if c.2 = true ∧ c.1 = (xs.length : Int) ∧ t = cd ∧ ¬ cd < 1 ∧ xs.length ≤ 1000000 then some () else none
def llJ (k : Nat) (a b : ByteArray) (j : ByteArray × Bool) : Option Unit :=
  if j.2 = true then (impl_CanBeDrawn.f k a).bind fun p => (impl_CanBeDrawn.f k b).bind fun q => (impl_CanBeDrawn.f k j.1).bind fun s => (impl_IsLoop.f k j.1).bind fun g =>
    if g = true ∧ p.2 = true ∧ q.2 = true ∧ s.2 = true ∧ s.1 = (p.1 && q.1) then some () else none else some ()
def llF (k : Nat) (x y : ByteArray) (s : Bool × Bool) : Option Unit :=
  if s.2 = true then (impl_FirstLoop.f k x).bind fun p => (impl_FirstLoop.f k y).bind fun q => if p.2 = true ∧ q.2 = true ∧ s.1 = (p.1.toList == q.1.toList) then some () else none else some ()
def llR (k : Nat) (v : ByteArray) (m : Int × Bool) : Option Unit :=
  if m.2 = true then (impl_LoopOfRank.f k (wrap64 ((v.size : Int) / 2)) m.1).bind fun z => if z.2 = true ∧ z.1 = v then some () else none else some ()
def llB (k : Nat) (l1 : List Int) : Option Unit :=
  (spec_DrawAllLoops.f l1).bind fun n => (impl_AllLoops.f k n).bind fun al => (spec_AllLoops.f k n).bind fun al' => (impl_CountDrawn.f k n).bind fun cd => (spec_CountDrawn.f k n).bind fun cd' =>
  (spec_DrawJoinLoops.f k l1).bind fun ab => (impl_JoinLoops.f k ab.1 ab.2).bind fun j => (spec_JoinLoops.f k ab.1 ab.2).bind fun j' =>
  (spec_DrawSameLoops.f k l1).bind fun xy => (impl_SameLoops.f k xy.1 xy.2).bind fun s => (spec_SameLoops.f k xy.1 xy.2).bind fun s' =>
  (spec_DrawRankOfLoop.f k l1).bind fun v => (impl_RankOfLoop.f k v).bind fun m => (spec_RankOfLoop.f k v).bind fun m' => (laws_uTexts.f k al.1 al'.1).bind fun t =>
  if t = true ∧ al'.2 = al.2 ∧ cd' = cd ∧ cd.2 = al.2 ∧ j' = j ∧ s' = s ∧ m' = m then
    (if al.2 = true then llAll k n al.1 cd.1 else some ()).bind fun _ => (llJ k ab.1 ab.2 j).bind fun _ => (llF k xy.1 xy.2 s).bind fun _ => llR k v m
  else none
def laws_FnLoopsListed.f (k : Nat) (l0 : List Int) (l1 : List Int) : Option (Bool) := (laws_big.f l0 l1).bind fun t => if t = true then some true else
  (spec_DrawLoopOfRank.f l0).bind fun d => (llA k d.1 d.2).bind fun _ => (llB k l1).bind fun _ => some true

/-- A world behind the call's begin, with the texts that were told. -/
structure RT (w W : World) (A : Option Addr) (c : Nat) (xs : List ByteArray) : Prop where
  b : Below w.heap.size w W
  r : Kd.R Kd.string 9 W w.heap.size (fun _ => True) (.slice A xs.length c) xs
theorem RT.go {w W W' : World} {A : Option Addr} {c : Nat} {xs : List ByteArray} (h : RT w W A c xs) (hb : Below W.heap.size W W') : RT w W' A c xs := ⟨below_step h.b hb, Kd.R_below h.r hb⟩
theorem RT.rd {w W : World} {A : Option Addr} {c : Nat} {xs : List ByteArray} (h : RT w W A c xs) : Kd.C Kd.string W A xs.length xs := (Kd.R_reads' h.r).2.2
theorem RT.cap {w W : World} {A : Option Addr} {c : Nat} {xs : List ByteArray} (h : RT w W A c xs) : xs.length ≤ c := (Kd.R_reads' h.r).2.1
theorem ll_drawn {W w' : World} (h : Drawn0 W w') : Below W.heap.size W w' := by obtain ⟨n, rfl⟩ := h.out; exact pw_below_drewN (Below.refl _ _) n
theorem ll_calls {f : Nat} {vs : Array Value} {W : World} {v : Value} (h : Calls Tryz.prog f vs W fun e w' => e = .returned v ∧ Drawn0 W w') : Calls Tryz.prog f vs W fun e w' => e = .returned v ∧ Below W.heap.size W w' :=
  h.mono fun _ _ h => ⟨h.1, ll_drawn h.2⟩
theorem ll_if {c : Prop} [Decidable c] {α : Type} {x : Option α} {r : α} (h : (if c then x else none) = some r) : c ∧ x = some r := by
  split at h
  · exact ⟨by assumption, h⟩
  · cases h
theorem geq_str {z a : ByteArray} (W : World) (h : Op.bytesLess z.toList a.toList = true) : Sem.run Tryz.prog (binOp BinOp.geq 9 (Value.string z) (Value.string a)) W = .ok (.bool false) W := by
  have e : Sem.run Tryz.prog (binOp BinOp.geq 9 (Value.string z) (Value.string a)) W = .ok (.bool (!Op.bytesLess z.toList a.toList)) W := rfl
  rw [e, h]
  rfl
set_option maxHeartbeats 4000000 in
set_option maxRecDepth 100000 in
theorem laws_FnLoopsListed.calls (k : Nat) (A0 : Option Addr) (c0 : Nat) (l0 : List Int) (A1 : Option Addr) (c1 : Nat) (l1 : List Int) (r : Bool) (w : World) (hr0 : Kd.C (Kd.int .u8) w A0 l0.length l0) (hc0 : l0.length ≤ c0) (hr1 : Kd.C (Kd.int .u8) w A1 l1.length l1) (hc1 : l1.length ≤ c1) (h : laws_FnLoopsListed.f k l0 l1 = some r) :
    Calls Tryz.prog 3 #[.slice A0 l0.length c0, .slice A1 l1.length c1] w fun e w' => e = .returned (.bool r) ∧ Below w.heap.size w w' := by
  replace h := Option.bind_eq_some_iff.mp h; obtain ⟨t, ht, h⟩ := h
  have HBig := Aside0.mk (ll_calls (laws_big.calls A0 c0 l0 A1 c1 l1 t w hr0 hc0 hr1 hc1 ht))
  clear ht
  cases t with
  | true =>
    obtain rfl := Option.some.inj h
    clear h hr0 hr1
    go_enter Tryz.func3, Tryz.ntmps3
    go_wp2_with (go_at_call 5; refine HBig.out.mono ?_; rintro e w1 ⟨rfl, hb1⟩)
    go_ret
    exact ⟨rfl, hb1⟩
  | false =>
    rw [if_neg (by decide)] at h
    replace h := Option.bind_eq_some_iff.mp h; obtain ⟨⟨n, q⟩, hd, h⟩ := h
    replace h := Option.bind_eq_some_iff.mp h; obtain ⟨_, hA, h⟩ := h
    replace h := Option.bind_eq_some_iff.mp h; obtain ⟨_, hB, h⟩ := h
    obtain rfl := Option.some.inj h
    clear h
    have HR1 := Aside0.mk hr1
    have HD := Aside0.mk (fun (W : World) (hW : Below w.heap.size w W) => spec_DrawLoopOfRank.calls A0 c0 l0 n q W (Kd.C_below hr0 hW) hc0 hd)
    have HPB := Aside0.mk hB
    clear hr0 hr1 hd hB
    dsimp only at hA
    unfold llA at hA
    replace hA := Option.bind_eq_some_iff.mp hA; obtain ⟨⟨a, ab⟩, hA1, hA⟩ := hA
    replace hA := Option.bind_eq_some_iff.mp hA; obtain ⟨a', hA2, hA⟩ := hA
    replace hA := Option.bind_eq_some_iff.mp hA; obtain ⟨⟨cn, cb⟩, hC1, hA⟩ := hA
    replace hA := Option.bind_eq_some_iff.mp hA; obtain ⟨c', hC2, hA⟩ := hA
    replace hA := ll_if hA; obtain ⟨⟨q1, q2, q3⟩, hA⟩ := hA
    simp only at q3
    subst q1 q2
    have CA1 := Aside0.mk (fun (W : World) => impl_LoopOfRank.calls k n q a ab W hA1)
    have CA2 := Aside0.mk (fun (W : World) => ll_calls (spec_LoopOfRank.calls k n q a ab W hA2))
    have CC1 := Aside0.mk (fun (W : World) => ll_calls (impl_CountLoops.calls k n cn cb W hC1))
    have CC2 := Aside0.mk (fun (W : World) => ll_calls (spec_CountLoops.calls k n cn cb W hC2))
    have HC := Aside0.mk hA
    have HQ := Aside0.mk q3
    clear hA1 hA2 hC1 hC2 hA q3
    go_enter Tryz.func3, Tryz.ntmps3
    go_upto_region 8 with (first | (go_at_call 5; refine HBig.out.mono ?_; rintro e w1 ⟨rfl, hb1⟩; have HB := Aside0.mk hb1; clear hb1 HBig) | (go_at_call 6; refine (HD.out _ HB.out).mono ?_; clear HD; rintro e w2 ⟨rfl, hb2⟩; have HB2 := Aside0.mk (below_step HB.out hb2); clear HB hb2; have HB := HB2; clear HB2) | ((first | (go_at_call 7; refine (CA1.out _).mono ?_; clear CA1) | (go_at_call 8; refine (CA2.out _).mono ?_; clear CA2) | (go_at_call 9; refine (CC1.out _).mono ?_; clear CC1) | (go_at_call 10; refine (CC2.out _).mono ?_; clear CC2)); rintro e w2 ⟨rfl, hb2⟩; have HB2 := Aside0.mk (below_step HB.out hb2); clear HB hb2; have HB := HB2; clear HB2))
    go_cut [125] from 125 to 125 (fun v125 wc => v125 = .bool false ∧ Aside0 (Below w.heap.size w wc))
    case first =>
      clear HC HPB HR1
      have hq := HQ.out
      cases cb <;> cases h1 : decide (0 ≤ q) <;> cases h2 : decide (q < cn)
      all_goals
        rw [h1, h2] at hq
        simp only [Bool.and_true, Bool.and_false, Bool.true_and, Bool.false_and] at hq
        subst hq
        go_wp2_with fail
        go_meet
        case rel => exact ⟨by first | rfl | (simp [*]; done), HB⟩
    case rest =>
    obtain ⟨rfl, HB2⟩ := hcut
    clear HB HQ
    have HB := HB2
    clear HB2
    go_upto_if 126 with (fail)
    go_cut [] from 126 to 126 (fun wc => Aside0 (Below w.heap.size w wc))
    case first =>
      have hq := HC.out
      clear HC HPB HR1
      unfold llC at hq
      cases ab with
      | false =>
        clear hq
        go_wp2_with fail
        go_meet
        case rel => exact HB
      | true =>
        rw [if_pos rfl] at hq
        replace hq := Option.bind_eq_some_iff.mp hq; obtain ⟨⟨b1, b2⟩, hb, hq⟩ := hq
        replace hq := Option.bind_eq_some_iff.mp hq; obtain ⟨g, hg, hq⟩ := hq
        replace hq := ll_if hq; obtain ⟨⟨q1, q2, q3, q4⟩, hq⟩ := hq
        simp only at q1 q2 q3 q4 hq
        subst q1 q2 q3
        have CR := Aside0.mk (fun (W : World) => impl_RankOfLoop.calls k a b1 true W hb)
        have CG := Aside0.mk (fun (W : World) => impl_IsLoop.calls k a true W hg)
        have z1 : ((a.size : Int) != wrap64 (2 * n)) = false := by rw [q4]; exact bne_self_eq_false _
        clear hb hg q4
        by_cases hp : b1 > 0
        · rw [if_pos hp] at hq
          replace hq := Option.bind_eq_some_iff.mp hq; obtain ⟨⟨z, zb⟩, hz, hq⟩ := hq
          replace hq := ll_if hq; obtain ⟨⟨q5, q6⟩, hq⟩ := hq
          simp only at q5 q6
          subst q5
          have CL := Aside0.mk (fun (W : World) => impl_LoopOfRank.calls k n (wrap64 (b1 - 1)) z true W hz)
          have e1 : decide (0 < b1) = true := decide_eq_true hp
          clear hz hp hq
          go_wp2_with ((first | (go_at_call 11; refine (CR.out _).mono ?_; clear CR) | (go_at_call 12; refine (CG.out _).mono ?_; clear CG) | (go_at_call 7; refine (CL.out _).mono ?_; clear CL)); rintro e w2 ⟨rfl, hb2⟩; have HB2 := Aside0.mk (below_step HB.out hb2); clear HB hb2; have HB := HB2; clear HB2)
          rw [geq_str _ q6]
          simp only [Result.andThen]
          rw [Oper.upon_value]
          go_wp2_with fail
          go_meet
          case rel => exact HB
        · have e1 : decide (0 < b1) = false := decide_eq_false hp
          clear hp hq
          go_wp2_with ((first | (go_at_call 11; refine (CR.out _).mono ?_; clear CR) | (go_at_call 12; refine (CG.out _).mono ?_; clear CG)); rintro e w2 ⟨rfl, hb2⟩; have HB2 := Aside0.mk (below_step HB.out hb2); clear HB hb2; have HB := HB2; clear HB2)
          go_meet
          case rel => exact HB
    case rest =>
    have HB2 := hcut
    clear HB HC hcut
    have HB := HB2
    clear HB2
    have hq := HPB.out
    clear HPB
    unfold llB at hq
    replace hq := Option.bind_eq_some_iff.mp hq; obtain ⟨u, hU, hq⟩ := hq
    replace hq := Option.bind_eq_some_iff.mp hq; obtain ⟨⟨xs, xb⟩, hX1, hq⟩ := hq
    replace hq := Option.bind_eq_some_iff.mp hq; obtain ⟨⟨ys, yb⟩, hX2, hq⟩ := hq
    replace hq := Option.bind_eq_some_iff.mp hq; obtain ⟨⟨cd, cdb⟩, hE1, hq⟩ := hq
    replace hq := Option.bind_eq_some_iff.mp hq; obtain ⟨cd', hE2, hq⟩ := hq
    replace hq := Option.bind_eq_some_iff.mp hq; obtain ⟨⟨ja, jb⟩, hJ, hq⟩ := hq
    replace hq := Option.bind_eq_some_iff.mp hq; obtain ⟨⟨j, jo⟩, hJ1, hq⟩ := hq
    replace hq := Option.bind_eq_some_iff.mp hq; obtain ⟨j', hJ2, hq⟩ := hq
    replace hq := Option.bind_eq_some_iff.mp hq; obtain ⟨⟨sx, sy⟩, hS, hq⟩ := hq
    replace hq := Option.bind_eq_some_iff.mp hq; obtain ⟨⟨s, so⟩, hS1, hq⟩ := hq
    replace hq := Option.bind_eq_some_iff.mp hq; obtain ⟨s', hS2, hq⟩ := hq
    replace hq := Option.bind_eq_some_iff.mp hq; obtain ⟨v, hV, hq⟩ := hq
    replace hq := Option.bind_eq_some_iff.mp hq; obtain ⟨⟨m, mo⟩, hM1, hq⟩ := hq
    replace hq := Option.bind_eq_some_iff.mp hq; obtain ⟨m', hM2, hq⟩ := hq
    replace hq := Option.bind_eq_some_iff.mp hq; obtain ⟨t, hT, hq⟩ := hq
    replace hq := ll_if hq; obtain ⟨⟨q1, q2, q3, q4, q5, q6, q7⟩, hq⟩ := hq
    simp only at q2 q4 hq
    subst q1 q2 q3 q5 q6 q7
    subst q4
    replace hq := Option.bind_eq_some_iff.mp hq; obtain ⟨_, hAll, hq⟩ := hq
    replace hq := Option.bind_eq_some_iff.mp hq; obtain ⟨_, hJn, hq⟩ := hq
    replace hq := Option.bind_eq_some_iff.mp hq; obtain ⟨_, hFi, hRa⟩ := hq
    have CU := Aside0.mk (fun (W : World) (hW : Below w.heap.size w W) => spec_DrawAllLoops.calls A1 c1 l1 u W (Kd.C_below HR1.out hW) hc1 hU)
    have CX1 := Aside0.mk (fun (W : World) => impl_AllLoops.calls k u xs _ W hX1)
    have CX2 := Aside0.mk (fun (W : World) => spec_AllLoops.calls k u ys _ W hX2)
    have CE1 := Aside0.mk (fun (W : World) => impl_CountDrawn.calls k u cd _ W hE1)
    have CE2 := Aside0.mk (fun (W : World) => spec_CountDrawn.calls k u cd _ W hE2)
    have CJ := Aside0.mk (fun (W : World) (hW : Below w.heap.size w W) => spec_DrawJoinLoops.calls k A1 c1 l1 ja jb W (Kd.C_below HR1.out hW) hc1 hJ)
    have CJ1 := Aside0.mk (fun (W : World) => impl_JoinLoops.calls k ja jb j jo W hJ1)
    have CJ2 := Aside0.mk (fun (W : World) => ll_calls (spec_JoinLoops.calls k ja jb j jo W hJ2))
    have CS := Aside0.mk (fun (W : World) (hW : Below w.heap.size w W) => spec_DrawSameLoops.calls k A1 c1 l1 sx sy W (Kd.C_below HR1.out hW) hc1 hS)
    have CS1 := Aside0.mk (fun (W : World) => impl_SameLoops.calls k sx sy s so W hS1)
    have CS2 := Aside0.mk (fun (W : World) => spec_SameLoops.calls k sx sy s so W hS2)
    have CV := Aside0.mk (fun (W : World) (hW : Below w.heap.size w W) => spec_DrawRankOfLoop.calls k A1 c1 l1 v W (Kd.C_below HR1.out hW) hc1 hV)
    have CM1 := Aside0.mk (fun (W : World) => impl_RankOfLoop.calls k v m mo W hM1)
    have CM2 := Aside0.mk (fun (W : World) => ll_calls (spec_RankOfLoop.calls k v m mo W hM2))
    have CT := Aside0.mk (fun (W : World) (A B : Option Addr) (c d : Nat) (h1 : RT w W A c xs) (h2 : RT w W B d ys) => ll_calls (laws_uTexts.calls k A c xs B d ys true W h1.rd h1.cap h2.rd h2.cap hT))
    have HAll := Aside0.mk hAll
    have HJn := Aside0.mk hJn
    have HFi := Aside0.mk hFi
    have HRa := Aside0.mk hRa
    clear hU hX1 hX2 hE1 hE2 hJ hJ1 hJ2 hS hS1 hS2 hV hM1 hM2 hT hAll hJn hFi hRa
    go_upto_region 32 with (first | (go_at_call 13; refine (CU.out _ HB.out).mono ?_; clear CU; rintro e w2 ⟨rfl, hb2⟩; have HB2 := Aside0.mk (below_step HB.out hb2); clear HB hb2; have HB := HB2; clear HB2) | (go_at_call 14; refine (CX1.out _).mono ?_; clear CX1; rintro e w2 ⟨v2, rfl, hr2, hb2⟩; obtain ⟨Av, cv, ev⟩ := Kd.R_slice hr2; subst ev; have HI := Aside0.mk (RT.mk (below_step HB.out hb2) (Kd.R_lower hr2 HB.out.size)); clear HB hr2 hb2) | (go_at_call 15; refine (CX2.out _).mono ?_; clear CX2; rintro e w2 ⟨v2, rfl, hr2, hb2⟩; obtain ⟨Bv, dv, ev⟩ := Kd.R_slice hr2; subst ev; have HY := Aside0.mk (RT.mk (below_step HI.out.b hb2) (Kd.R_lower hr2 HI.out.b.size)); have HI2 := Aside0.mk (HI.out.go hb2); clear HI hr2 hb2; have HI := HI2; clear HI2) | ((first | (go_at_call 18; refine (CJ.out _ HI.out.b).mono ?_; clear CJ) | (go_at_call 21; refine (CS.out _ HI.out.b).mono ?_; clear CS) | (go_at_call 24; refine (CV.out _ HI.out.b).mono ?_; clear CV) | (go_at_call 16; refine (CE1.out _).mono ?_; clear CE1) | (go_at_call 17; refine (CE2.out _).mono ?_; clear CE2) | (go_at_call 19; refine (CJ1.out _).mono ?_; clear CJ1) | (go_at_call 20; refine (CJ2.out _).mono ?_; clear CJ2) | (go_at_call 22; refine (CS1.out _).mono ?_; clear CS1) | (go_at_call 23; refine (CS2.out _).mono ?_; clear CS2) | (go_at_call 11; refine (CM1.out _).mono ?_; clear CM1) | (go_at_call 25; refine (CM2.out _).mono ?_; clear CM2)); rintro e w2 ⟨rfl, hb2⟩; have HI2 := Aside0.mk (HI.out.go hb2); have HY2 := Aside0.mk (HY.out.go hb2); clear HI HY hb2; have HI := HI2; have HY := HY2; clear HI2 HY2))
    go_cut [288] from 288 to 288 (fun v288 wc => v288 = .bool false ∧ Aside0 (RT w wc Av cv xs))
    case first =>
      clear HAll HJn HFi HRa
      go_wp2_with (go_at_call 26; refine (CT.out _ _ _ _ _ HI.out HY.out).mono ?_; clear CT; rintro e w2 ⟨rfl, hb2⟩; have HI2 := Aside0.mk (HI.out.go hb2); have HY2 := Aside0.mk (HY.out.go hb2); clear HI HY hb2; have HI := HI2; have HY := HY2; clear HI2 HY2)
      go_meet
      case rel => exact ⟨by first | rfl | (simp [*]; done), HI⟩
    case rest =>
    obtain ⟨rfl, HI2⟩ := hcut
    clear HI HY CT
    have HI := HI2
    clear HI2
    go_upto_if 289 with (fail)
    go_cut [] from 289 to 289 (fun wc => Aside0 (Below w.heap.size w wc))
    case first =>
      have hq := HAll.out
      clear HAll HJn HFi HRa
      cases cdb with
      | false =>
        clear hq
        go_wp2_with fail
        go_meet
        case rel => exact ⟨HI.out.b⟩
      | true =>
        rw [if_pos rfl] at hq
        unfold llAll at hq
        replace hq := Option.bind_eq_some_iff.mp hq; obtain ⟨⟨c1_, c2_⟩, hc, hq⟩ := hq
        replace hq := Option.bind_eq_some_iff.mp hq; obtain ⟨tt, hL, hq⟩ := hq
        replace hq := ll_if hq; obtain ⟨⟨q1, q2, q3, q4, q5⟩, hq⟩ := hq
        simp only at q1 q2
        subst q1 q2 q3
        have CC := Aside0.mk (fun (W : World) => ll_calls (impl_CountLoops.calls k u _ true W hc))
        have HL := Aside0.mk hL
        have HLn := Aside0.mk q5
        have z1 : decide (tt < 1) = false := decide_eq_false q4
        clear hc hL hq q4 q5
        go_upto_region 37 with (go_at_call 9; refine (CC.out _).mono ?_; clear CC; rintro e w2 ⟨rfl, hb2⟩; have HI2 := Aside0.mk (HI.out.go hb2); clear HI hb2; have HI := HI2; clear HI2)
        go_wp2_with fail
        obtain ⟨N, hN⟩ : ∃ N, N = xs.length := ⟨_, rfl⟩
        have z0 : (N : Int) = (xs.length : Int) := by omega
        have HN := Aside0.mk z0
        clear z0
        go_loopg [47, 297] N (fun gg v47 v297 W => ∃ (x t : Int), v47 = .int .i64 t ∧ v297 = .int .i64 x ∧ Aside0 (0 ≤ x ∧ x + gg = N) ∧ Aside0 (RT w W Av cv xs) ∧ Aside0 (llL k xs gg x t = some tt))
        case atStart => exact ⟨0, 0, by first | rfl | (simp; done), by first | rfl | (simp; done), ⟨by omega⟩, HI, ⟨by rw [hN]; exact HL.out⟩⟩
        case round =>
          clear HI HL
          obtain ⟨x, t, rfl, rfl, HG, HI, HL⟩ := hrel
          by_cases hlt : x < (xs.length : Int)
          · obtain ⟨gm, rfl⟩ : ∃ gm, gk = gm + 1 := ⟨gk - 1, by have := HG.out; have := HN.out; omega⟩
            have hq := HL.out
            clear HL
            rw [llL] at hq
            replace hq := Option.bind_eq_some_iff.mp hq; obtain ⟨⟨b1, b2⟩, hb, hq⟩ := hq
            replace hq := ll_if hq; obtain ⟨⟨q1, q2⟩, hq⟩ := hq
            simp only at q1 hq
            subst q1
            have HL := Aside0.mk hq
            have HQ := Aside0.mk q2
            have CD := Aside0.mk (fun (W : World) => impl_CanBeDrawn.calls k (rdOf ByteArray.empty xs x) b1 true W hb)
            have p0 : 0 ≤ x := HG.out.1
            obtain ⟨ad, ea, hx⟩ := Kd.at_string HI.out.rd x p0 hlt
            cases ea
            have c7 : decide (x < (xs.length : Int)) = true := decide_eq_true hlt
            have c8 : decide (0 ≤ x) = true := decide_eq_true p0
            have e2 : IntKind.i64.wrap (x + 1) = x + 1 := by
              rw [i64_w]
              have := HLn.out
              exact M.w64 (by omega) (by omega)
            have HX := Aside0.mk (And.intro p0 hlt)
            by_cases h0 : 0 < x
            · have q6 := HQ.out h0
              obtain ⟨y, hy⟩ : ∃ y, y = x - 1 := ⟨_, rfl⟩
              rw [← hy] at q6
              have e5 : IntKind.i64.wrap (x - 1) = y := by
                rw [i64_w, hy]
                have := HLn.out
                exact M.w64 (by omega) (by omega)
              have y0 : 0 ≤ y := by omega
              have y1 : y < (xs.length : Int) := by omega
              have HYY := Aside0.mk (And.intro y0 y1)
              have c9 : decide (0 < x) = true := decide_eq_true h0
              replace p0 := eq_true p0
              replace hlt := eq_true hlt
              replace y0 := eq_true y0
              replace y1 := eq_true y1
              clear h0 hb hq q2 hy HQ
              go_wp2_with (go_at_call 27; refine (CD.out _).mono ?_; clear CD; rintro e w2 ⟨rfl, hb2⟩; have HI2 := Aside0.mk (HI.out.go hb2); clear HI hb2; have HI := HI2; clear HI2; obtain ⟨ad2, ea2, hx2⟩ := Kd.at_string HI.out.rd y HYY.out.1 HYY.out.2; cases ea2)
              rw [geq_str _ q6]
              simp only [Result.andThen]
              rw [Oper.upon_value]
              cases b1 with
              | true =>
                go_wp2_with fail
                go_roundg gm
                case measure => omega
                case rel => exact ⟨x + 1, wrap64 (t + 1), by first | rfl | (simp; done), by first | rfl | (simp; done), ⟨by have := HG.out; omega⟩, HI, ⟨by have := HL.out; (first | rw [if_pos rfl] at this | rw [if_pos trivial] at this); exact this⟩⟩
              | false =>
                go_wp2_with fail
                go_roundg gm
                case measure => omega
                case rel => exact ⟨x + 1, t, by first | rfl | (simp; done), by first | rfl | (simp; done), ⟨by have := HG.out; omega⟩, HI, ⟨by have := HL.out; rw [if_neg (show ¬ (false = true) by decide)] at this; exact this⟩⟩
            · have c9 : decide (0 < x) = false := decide_eq_false h0
              replace p0 := eq_true p0
              replace hlt := eq_true hlt
              clear h0 hb hq q2 HQ
              cases b1 with
              | true =>
                go_wp2_with (go_at_call 27; refine (CD.out _).mono ?_; clear CD; rintro e w2 ⟨rfl, hb2⟩; have HI2 := Aside0.mk (HI.out.go hb2); clear HI hb2; have HI := HI2; clear HI2)
                go_roundg gm
                case measure => omega
                case rel => exact ⟨x + 1, wrap64 (t + 1), by first | rfl | (simp; done), by first | rfl | (simp; done), ⟨by have := HG.out; omega⟩, HI, ⟨by have := HL.out; (first | rw [if_pos rfl] at this | rw [if_pos trivial] at this); exact this⟩⟩
              | false =>
                go_wp2_with (go_at_call 27; refine (CD.out _).mono ?_; clear CD; rintro e w2 ⟨rfl, hb2⟩; have HI2 := Aside0.mk (HI.out.go hb2); clear HI hb2; have HI := HI2; clear HI2)
                go_roundg gm
                case measure => omega
                case rel => exact ⟨x + 1, t, by first | rfl | (simp; done), by first | rfl | (simp; done), ⟨by have := HG.out; omega⟩, HI, ⟨by have := HL.out; rw [if_neg (show ¬ (false = true) by decide)] at this; exact this⟩⟩
          · obtain rfl : gk = 0 := by have := HG.out; have := HN.out; omega
            have hs := Option.some.inj HL.out
            subst hs
            have c7 : decide (x < (xs.length : Int)) = false := decide_eq_false hlt
            clear HL hlt
            go_wp2_with fail
            go_meet
            case rel => exact ⟨HI.out.b⟩
    case rest =>
    have HB := hcut
    clear HI hcut HAll
    go_upto_if 343 with (fail)
    go_cut [] from 343 to 343 (fun wc => Aside0 (Below w.heap.size w wc))
    case first =>
      have hq := HJn.out
      clear HJn HFi HRa
      unfold llJ at hq
      cases jo with
      | false =>
        clear hq
        go_wp2_with fail
        go_meet
        case rel => exact HB
      | true =>
        rw [if_pos rfl] at hq
        replace hq := Option.bind_eq_some_iff.mp hq; obtain ⟨⟨p1, p2⟩, h1, hq⟩ := hq
        replace hq := Option.bind_eq_some_iff.mp hq; obtain ⟨⟨r1, r2⟩, h2, hq⟩ := hq
        replace hq := Option.bind_eq_some_iff.mp hq; obtain ⟨⟨s1, s2⟩, h3, hq⟩ := hq
        replace hq := Option.bind_eq_some_iff.mp hq; obtain ⟨g, h4, hq⟩ := hq
        replace hq := ll_if hq; obtain ⟨⟨q1, q2, q3, q4, q5⟩, hq⟩ := hq
        simp only at q2 q3 q4 q5
        subst q1 q2 q3 q4 q5
        have CP1 := Aside0.mk (fun (W : World) => impl_CanBeDrawn.calls k ja p1 true W h1)
        have CP2 := Aside0.mk (fun (W : World) => impl_CanBeDrawn.calls k jb r1 true W h2)
        have CP3 := Aside0.mk (fun (W : World) => impl_CanBeDrawn.calls k j (p1 && r1) true W h3)
        have CG := Aside0.mk (fun (W : World) => impl_IsLoop.calls k j true W h4)
        clear h1 h2 h3 h4 hq
        cases p1 <;> cases r1
        all_goals
          simp only [Bool.and_true, Bool.and_false, Bool.true_and, Bool.false_and] at CP3
          go_wp2_with ((first | (go_at_call 27; refine (CP1.out _).mono ?_; clear CP1) | (go_at_call 27; refine (CP2.out _).mono ?_; clear CP2) | (go_at_call 27; refine (CP3.out _).mono ?_; clear CP3) | (go_at_call 12; refine (CG.out _).mono ?_; clear CG)); rintro e w2 ⟨rfl, hb2⟩; have HB2 := Aside0.mk (below_step HB.out hb2); clear HB hb2; have HB := HB2; clear HB2)
          go_meet
          case rel => exact HB
    case rest =>
    have HB2 := hcut
    clear HB hcut HJn
    have HB := HB2
    clear HB2
    go_upto_if 382 with (fail)
    go_cut [] from 382 to 382 (fun wc => Aside0 (Below w.heap.size w wc))
    case first =>
      have hq := HFi.out
      clear HFi HRa
      unfold llF at hq
      cases so with
      | false =>
        clear hq
        go_wp2_with fail
        go_meet
        case rel => exact HB
      | true =>
        rw [if_pos rfl] at hq
        replace hq := Option.bind_eq_some_iff.mp hq; obtain ⟨⟨p1, p2⟩, h1, hq⟩ := hq
        replace hq := Option.bind_eq_some_iff.mp hq; obtain ⟨⟨r1, r2⟩, h2, hq⟩ := hq
        replace hq := ll_if hq; obtain ⟨⟨q2, q3, q4⟩, hq⟩ := hq
        simp only at q2 q3 q4
        subst q2 q3 q4
        have CP1 := Aside0.mk (fun (W : World) => impl_FirstLoop.calls k sx p1 true W h1)
        have CP2 := Aside0.mk (fun (W : World) => impl_FirstLoop.calls k sy r1 true W h2)
        clear h1 h2 hq
        go_wp2_with ((first | (go_at_call 28; refine (CP1.out _).mono ?_; clear CP1) | (go_at_call 28; refine (CP2.out _).mono ?_; clear CP2)); rintro e w2 ⟨rfl, hb2⟩; have HB2 := Aside0.mk (below_step HB.out hb2); clear HB hb2; have HB := HB2; clear HB2)
        go_meet
        case rel => exact HB
    case rest =>
    have HB2 := hcut
    clear HB hcut HFi
    have HB := HB2
    clear HB2
    have hq := HRa.out
    clear HRa
    unfold llR at hq
    cases mo with
    | false =>
      clear hq
      go_wp2_with fail
      go_ret
      exact ⟨rfl, HB.out⟩
    | true =>
      rw [if_pos rfl] at hq
      replace hq := Option.bind_eq_some_iff.mp hq; obtain ⟨⟨z, zb⟩, hz, hq⟩ := hq
      replace hq := ll_if hq; obtain ⟨⟨q1, q2⟩, hq⟩ := hq
      simp only at q1 q2
      subst q1 q2
      have CL := Aside0.mk (fun (W : World) => impl_LoopOfRank.calls k _ m z true W hz)
      clear hz hq
      go_wp2_with (go_at_call 7; refine (CL.out _).mono ?_; clear CL; rintro e w2 ⟨rfl, hb2⟩; have HB2 := Aside0.mk (below_step HB.out hb2); clear HB hb2; have HB := HB2; clear HB2)
      go_ret
      exact ⟨by first | rfl | (simp; done), HB.out⟩
end Go.Proofs.YtcgoaipbfnhjhaaGreatDoor.Pr

/- Texts in order, as lists of bytes. -/
namespace Go.Proofs.YtcgoaipbfnhjhaaGreatDoor.M
open Go.RowKit Go.Proofs.YtcgoaipbfnhjhaaGreatDoorW.PrintWords
set_option linter.unusedVariables false
set_option linter.unusedSimpArgs false

theorem lt_bytes : ∀ (X Y : List UInt8), X.map (fun u => (u.toNat : Int)) < Y.map (fun u => (u.toNat : Int)) → X < Y
  | X, [], h => by simp at h
  | [], y :: Y, _ => by simp
  | x :: X, y :: Y, h => by
    rw [List.map_cons, List.map_cons, List.cons_lt_cons_iff] at h
    rw [List.cons_lt_cons_iff]
    rcases h with h | ⟨h1, h2⟩
    · exact .inl (UInt8.lt_iff_toNat_lt.2 (by omega))
    · exact .inr ⟨UInt8.toNat_inj.1 (by omega), lt_bytes X Y h2⟩
theorem less_of {s t : ByteArray} (h : bytesOf s < bytesOf t) : Op.bytesLess s.toList t.toList = true := by
  rw [Proofs.bytesLess_eq, Lib.toList_data, Lib.toList_data]
  exact decide_eq_true (lt_bytes _ _ h)
theorem not_less {s t : ByteArray} (h : bytesOf s < bytesOf t) : Op.bytesLess t.toList s.toList = false := by
  rw [Proofs.bytesLess_eq, Lib.toList_data, Lib.toList_data]
  exact decide_eq_false (List.lt_asymm (lt_bytes _ _ h))
end Go.Proofs.YtcgoaipbfnhjhaaGreatDoor.M

/- The cursor over bytes: each pick ends, within its bounds. -/
namespace Go.Proofs.YtcgoaipbfnhjhaaGreatDoor.M
open Go.RowKit Go.Proofs.YtcgoaipbfnhjhaaGreatDoorW.PrintWords Go.Proofs.YtcgoaipbfnhjhaaGreatDoor.Pr
set_option linter.unusedVariables false
set_option linter.unusedSimpArgs false

/-- Bytes. -/
def By (l : List Int) : Prop := ∀ x ∈ l, 0 ≤ x ∧ x ≤ 255
theorem by_wf {l : List Int} (h : ∀ x ∈ l, (Lit.int .u8 x).wf = true) : By l := by
  intro x hx
  have := h x hx
  simp [Lit.wf, IntKind.min, IntKind.max, IntKind.signed, IntKind.bits] at this
  omega
theorem and255 {x : Int} (h0 : 0 ≤ x) (h1 : x ≤ 18446744073709551615) : 0 ≤ Go.bits .and .u64 x 255 ∧ Go.bits .and .u64 x 255 ≤ 255 := by
  have h := bits_and_u64_nat x.toNat 255 (by omega) (by omega)
  rw [Int.toNat_of_nonneg h0] at h
  have h2 : x.toNat &&& 255 ≤ 255 := Nat.and_le_right
  rw [show (255 : Int) = ((255 : Nat) : Int) from rfl, h]
  omega
theorem wrap_u64 (x : Int) : 0 ≤ IntKind.u64.wrap x ∧ IntKind.u64.wrap x ≤ 18446744073709551615 := by
  simp only [IntKind.wrap, IntKind.signed, IntKind.bits]
  simp
  omega
/-- A place of the cursor. -/
def At (n : Int) (a : Int) : Prop := 0 ≤ a ∧ a ≤ n
theorem At.up {n m a : Int} (h : At n a) (hm : n ≤ m) : At m a := ⟨h.1, Int.le_trans h.2 hm⟩
theorem rd_by {l : List Int} (h : By l) {i : Int} (h0 : 0 ≤ i) (h1 : i < l.length) : 0 ≤ rd l i ∧ rd l i ≤ 255 := by
  unfold rd
  have hm : i.toNat < l.length := by omega
  have hg : l.getD i.toNat 0 = l[i.toNat] := by simp [List.getD_eq_getElem?_getD, List.getElem?_eq_getElem hm]
  first | (rw [hg]; exact h _ (List.getElem_mem hm)) | (simp only [rdOf]; rw [hg]; exact h _ (List.getElem_mem hm))
theorem next_ok {l : List Int} (hl : By l) {n a : Int} (s : Int) (ha : At n a) (hn : n ≤ 1000000000) : ∃ r a' s', spec_l1Cur_next.f l a s = some (r, a', s') ∧ 0 ≤ r ∧ r ≤ 255 ∧ At (n + 1) a' := by
  obtain ⟨h0, h1⟩ := ha
  have hw : wrap64 (a + 1) = a + 1 := w64 (by omega) (by omega)
  unfold spec_l1Cur_next.f
  rw [hw]
  by_cases h : a < (l.length : Int)
  · have hr := rd_by hl h0 h
    rw [if_pos h, if_pos h0, if_pos (by omega)]
    exact ⟨_, _, _, rfl, by rw [w64 (by omega) (by omega)]; exact hr.1, by rw [w64 (by omega) (by omega)]; exact hr.2, by omega, by omega⟩
  · rw [if_neg h]
    by_cases h2 : a + 1 ≤ (l.length : Int)
    · rw [if_pos h2]
      exact ⟨_, _, _, rfl, by omega, by omega, by omega, by omega⟩
    · rw [if_neg h2]
      have hq := wrap_u64 (IntKind.u64.wrap (IntKind.u64.wrap (s * 6364136223846793005) + 0) + 1442695040888963407)
      have hb := and255 (x := IntKind.u64.wrap (IntKind.u64.wrap (IntKind.u64.wrap (s * 6364136223846793005) + 0) + 1442695040888963407) / 1099511627776) (by omega) (by omega)
      exact ⟨_, _, _, rfl, by rw [w64 (by omega) (by omega)]; exact hb.1, by rw [w64 (by omega) (by omega)]; exact hb.2, by omega, by omega⟩
theorem tmod_in {x n : Int} (hx : 0 ≤ x) (hn : 0 < n) : 0 ≤ Int.tmod x n ∧ Int.tmod x n < n := by
  rw [Int.tmod_eq_emod_of_nonneg hx]
  exact ⟨Int.emod_nonneg _ (by omega), Int.emod_lt_of_pos _ hn⟩
theorem pick_ok {l : List Int} (hl : By l) {n a : Int} (s : Int) (ha : At n a) (hn : n ≤ 900000000) (m : Int) : ∃ r a' s', spec_l1Cur_pick.f l a s m = some (r, a', s') ∧ 0 ≤ r ∧ (1 < m → r < m) ∧ (m ≤ 1 → r = 0) ∧ At (n + 2) a' := by
  unfold spec_l1Cur_pick.f
  by_cases h : m ≤ 1
  · rw [if_pos h]
    exact ⟨_, _, _, rfl, by omega, by omega, fun _ => rfl, ha.up (by omega)⟩
  · rw [if_neg h]
    obtain ⟨r, a1, s1, e, hr0, hr1, ha1⟩ := next_ok hl s ha (by omega)
    rw [e]
    simp only [Option.bind_some]
    by_cases h2 : m > 200
    · rw [if_pos h2]
      obtain ⟨r2, a2, s2, e2, hq0, hq1, ha2⟩ := next_ok hl s1 ha1 (by omega)
      rw [e2]
      simp only [Option.bind_some]
      rw [if_neg (by omega), w64 (x := r * 256) (by omega) (by omega), w64 (by omega) (by omega)]
      have ht := tmod_in (x := r * 256 + r2) (n := m) (by omega) (by omega)
      exact ⟨_, _, _, rfl, ht.1, fun _ => ht.2, fun q => absurd q h, ha2.up (by omega)⟩
    · rw [if_neg h2, if_neg (by omega)]
      have ht := tmod_in (x := r) (n := m) (by omega) (by omega)
      exact ⟨_, _, _, rfl, ht.1, fun _ => ht.2, fun q => absurd q h, ha1.up (by omega)⟩
theorem one_ok {l : List Int} (hl : By l) {n a : Int} (s : Int) (ha : At n a) (hn : n ≤ 900000000) (m : Int) : ∃ r a' s', spec_l1Cur_one.f l a s m = some (r, a', s') ∧ At (n + 2) a' := by
  obtain ⟨r, a1, s1, e, _, _, _, h1⟩ := pick_ok hl s ha hn m
  unfold spec_l1Cur_one.f
  rw [e]
  exact ⟨_, _, _, rfl, h1⟩
theorem among_ok {l : List Int} (hl : By l) {n a : Int} (s : Int) (ha : At n a) (hn : n ≤ 900000000) (xs : List Int) (hx : xs ≠ []) : ∃ r a' s', spec_l1Cur_among.f l a s xs = some (r, a', s') ∧ r ∈ xs ∧ At (n + 2) a' := by
  obtain ⟨r, a1, s1, e, h0, h1, h2, h3⟩ := pick_ok hl s ha hn (xs.length : Int)
  have hp : 0 < xs.length := List.length_pos_iff.2 hx
  have hlt : r < (xs.length : Int) := by
    by_cases q : 1 < (xs.length : Int)
    · exact h1 q
    · rw [h2 (by omega)]; omega
  unfold spec_l1Cur_among.f
  rw [e]
  simp only [Option.bind_some]
  rw [if_pos h0, if_pos hlt]
  refine ⟨_, _, _, rfl, ?_, h3⟩
  have hm : r.toNat < xs.length := by omega
  have hg : xs.getD r.toNat 0 = xs[r.toNat] := by simp [List.getD_eq_getElem?_getD, List.getElem?_eq_getElem hm]
  unfold rd
  first | (rw [hg]; exact List.getElem_mem hm) | (simp only [rdOf]; rw [hg]; exact List.getElem_mem hm)
end Go.Proofs.YtcgoaipbfnhjhaaGreatDoor.M

/- In how many ways a loop goes on. Plain numbers, no program. -/
namespace Go.Proofs.YtcgoaipbfnhjhaaGreatDoor.M
set_option linter.unusedVariables false
set_option linter.unusedSimpArgs false

def facW : Nat → Nat
  | 0 => 1
  | o + 1 => (o + 1) * facW o
def wayR (f : Nat → Nat) : Nat → Nat
  | 0 => f 1
  | o + 1 => (o + 1) * wayR f o + f (o + 2)
/-- With so many letters still to come, and so many open. -/
def ways : Nat → Nat → Nat
  | 0 => facW
  | l + 1 => wayR (ways l)
theorem ways_00 : ways 0 0 = 1 := rfl
theorem ways_0s (o : Nat) : ways 0 (o + 1) = (o + 1) * ways 0 o := rfl
theorem ways_s0 (l : Nat) : ways (l + 1) 0 = ways l 1 := rfl
theorem ways_ss (l o : Nat) : ways (l + 1) (o + 1) = (o + 1) * ways (l + 1) o + ways l (o + 2) := rfl
theorem ways_small (l o : Nat) (h : o + l ≤ 8) : ways l o ≤ 2027025 := by
  have hd : (List.range 9).all (fun l => (List.range 9).all fun o => decide (8 < o + l) || decide (ways l o ≤ 2027025)) = true := by decide +kernel
  have h1 := List.all_eq_true.1 hd l (List.mem_range.2 (by omega))
  have h2 := List.all_eq_true.1 h1 o (List.mem_range.2 (by omega))
  rw [decide_eq_false (by omega), Bool.false_or] at h2
  exact of_decide_eq_true h2
end Go.Proofs.YtcgoaipbfnhjhaaGreatDoor.M

/- The program and the reference count the ways to go on alike. -/
namespace Go.Proofs.YtcgoaipbfnhjhaaGreatDoor.M
open Go.RowKit Go.Proofs.YtcgoaipbfnhjhaaGreatDoor.Pr Go.Proofs.YtcgoaipbfnhjhaaGreatDoorW.PrintWords
set_option linter.unusedVariables false
set_option linter.unusedSimpArgs false

theorem on_neg1 (o l : Int) (h : o < 0) : Ev (fun k => impl_countOn.f k o l) 0 := by
  refine Ev.step (fun k => by rw [impl_countOn.f]) ?_
  refine Ev.pos h (Ev.step (fun k => by rw [impl_countOn.j0]) ?_)
  exact Ev.pos rfl (Ev.val rfl)
theorem on_neg2 (o l : Int) (h0 : 0 ≤ o) (h : l < 0) : Ev (fun k => impl_countOn.f k o l) 0 := by
  refine Ev.step (fun k => by rw [impl_countOn.f]) ?_
  refine Ev.neg (by omega) (Ev.step (fun k => by rw [impl_countOn.j0]) ?_)
  exact Ev.pos (decide_eq_true h) (Ev.val rfl)
/-- The step of countOn. -/
theorem on_step (o l : Nat) (ho : o ≤ 100) (hl : l ≤ 100) (hne : ¬ (o = 0 ∧ l = 0)) (a b : Nat) (ha : a ≤ 2027025) (hb : b ≤ 2027025) (h1 : Ev (fun k => impl_countOn.f k ((o : Int) - 1) (l : Int)) (a : Int)) (h2 : Ev (fun k => impl_countOn.f k ((o : Int) + 1) ((l : Int) - 1)) (b : Int)) :
    Ev (fun k => impl_countOn.f k (o : Int) (l : Int)) ((o * a + b : Nat) : Int) := by
  have hm : o * a ≤ 100 * 2027025 := Nat.mul_le_mul ho ha
  have e1 : wrap64 ((o : Int) * (a : Int)) = ((o * a : Nat) : Int) := by rw [← Int.natCast_mul]; exact w64 (by omega) (by omega)
  have e2 : wrap64 (((o * a : Nat) : Int) + (b : Int)) = ((o * a + b : Nat) : Int) := by rw [w64 (by omega) (by omega)]; omega
  have hj : Ev (fun k => impl_countOn.j1 k (o : Int) (l : Int) false) ((o * a + b : Nat) : Int) := by
    refine Ev.step (fun k => by rw [impl_countOn.j1]) ?_
    rw [w64 (x := (o : Int) - 1) (by omega) (by omega), w64 (x := (o : Int) + 1) (by omega) (by omega), w64 (x := (l : Int) - 1) (by omega) (by omega)]
    exact Ev.neg (by simp) (Ev.bindk h1 (Ev.bindk h2 (Ev.val (by rw [e1, e2]))))
  refine Ev.step (fun k => by rw [impl_countOn.f]) ?_
  refine Ev.neg (by omega) (Ev.step (fun k => by rw [impl_countOn.j0]) ?_)
  refine Ev.neg (by simp) ?_
  by_cases h0 : (o : Int) = 0
  · refine Ev.pos h0 ?_
    rw [show ((l : Int) == 0) = false from beq_eq_false_iff_ne.2 (by omega)]
    exact hj
  · exact Ev.neg h0 hj
theorem countOn_ev : ∀ (l o : Nat), o + l ≤ 8 → Ev (fun k => impl_countOn.f k (o : Int) (l : Int)) (ways l o : Int)
  | 0, 0, _ => by
    refine Ev.step (fun k => by rw [impl_countOn.f]) ?_
    refine Ev.neg (by omega) (Ev.step (fun k => by rw [impl_countOn.j0]) ?_)
    refine Ev.neg (by simp) (Ev.pos rfl (Ev.step (fun k => by rw [impl_countOn.j1]) ?_))
    exact Ev.pos rfl (Ev.val rfl)
  | 0, o + 1, h => by
    have e := on_step (o + 1) 0 (by omega) (by omega) (by omega) (ways 0 o) 0 (ways_small 0 o (by omega)) (by omega) (by
      have := countOn_ev 0 o (by omega)
      rw [show (((o + 1 : Nat)) : Int) - 1 = (o : Int) by omega]
      exact this) (on_neg2 _ _ (by omega) (by omega))
    rw [ways_0s]
    exact e
  | l + 1, 0, h => by
    have e := on_step 0 (l + 1) (by omega) (by omega) (by omega) 0 (ways l 1) (by omega) (ways_small l 1 (by omega)) (on_neg1 _ _ (by omega)) (by
      have := countOn_ev l 1 (by omega)
      rw [show (((l + 1 : Nat)) : Int) - 1 = (l : Int) by omega]
      exact this)
    rw [ways_s0]
    rw [Nat.zero_mul, Nat.zero_add] at e
    exact e
  | l + 1, o + 1, h => by
    have e := on_step (o + 1) (l + 1) (by omega) (by omega) (by omega) (ways (l + 1) o) (ways l (o + 2)) (ways_small (l + 1) o (by omega)) (ways_small l (o + 2) (by omega)) (by
      have := countOn_ev (l + 1) o (by omega)
      rw [show (((o + 1 : Nat)) : Int) - 1 = (o : Int) by omega]
      exact this) (by
      have := countOn_ev l (o + 2) (by omega)
      rw [show (((l + 1 : Nat)) : Int) - 1 = (l : Int) by omega, show (((o + 1 : Nat)) : Int) + 1 = ((o + 2 : Nat) : Int) by omega]
      exact this)
    rw [ways_ss]
    exact e
theorem loWays_ev : ∀ (l o : Nat), o + l ≤ 8 → Ev (fun k => spec_loWays.f k (o : Int) (l : Int)) (ways l o : Int)
  | 0, 0, _ => by
    refine Ev.step (fun k => by rw [spec_loWays.f]) ?_
    refine Ev.pos rfl (Ev.step (fun k => by rw [spec_loWays.j0]) ?_)
    exact Ev.pos rfl (Ev.val rfl)
  | 0, o + 1, h => by
    have hw := ways_small 0 o (by omega)
    have hm : (o + 1) * ways 0 o ≤ 100 * 2027025 := Nat.mul_le_mul (by omega) hw
    refine Ev.step (fun k => by rw [spec_loWays.f]) ?_
    refine Ev.neg (by omega) (Ev.step (fun k => by rw [spec_loWays.j0]) ?_)
    rw [w64 (x := ((o + 1 : Nat) : Int) - 1) (by omega) (by omega), show (((o + 1 : Nat)) : Int) - 1 = (o : Int) by omega]
    refine Ev.neg (by simp) (Ev.pos (by omega) (Ev.bindk (loWays_ev 0 o (by omega)) (Ev.neg (by omega) (Ev.val ?_))))
    rw [ways_0s, ← Int.natCast_mul, w64 (x := (((o + 1) * ways 0 o : Nat) : Int)) (by omega) (by omega), w64 (by omega) (by omega)]
    omega
  | l + 1, 0, h => by
    have hw := ways_small l 1 (by omega)
    refine Ev.step (fun k => by rw [spec_loWays.f]) ?_
    refine Ev.pos rfl (Ev.step (fun k => by rw [spec_loWays.j0]) ?_)
    have e := loWays_ev l 1 (by omega)
    rw [w64 (x := ((0 : Nat) : Int) + 1) (by omega) (by omega), w64 (x := ((l + 1 : Nat) : Int) - 1) (by omega) (by omega), show (((l + 1 : Nat)) : Int) - 1 = (l : Int) by omega, show ((0 : Nat) : Int) + 1 = ((1 : Nat) : Int) by omega]
    refine Ev.neg (fun e => by have := beq_iff_eq.1 e; omega) (Ev.neg (by omega) (Ev.pos (by omega) (Ev.bindk e (Ev.val ?_))))
    rw [ways_s0, w64 (by omega) (by omega)]
    omega
  | l + 1, o + 1, h => by
    have hw := ways_small (l + 1) o (by omega)
    have hw2 := ways_small l (o + 2) (by omega)
    have hm : (o + 1) * ways (l + 1) o ≤ 100 * 2027025 := Nat.mul_le_mul (by omega) hw
    have e1 := loWays_ev (l + 1) o (by omega)
    have e2 := loWays_ev l (o + 2) (by omega)
    refine Ev.step (fun k => by rw [spec_loWays.f]) ?_
    refine Ev.neg (by omega) (Ev.step (fun k => by rw [spec_loWays.j0]) ?_)
    rw [w64 (x := ((o + 1 : Nat) : Int) - 1) (by omega) (by omega), show (((o + 1 : Nat)) : Int) - 1 = (o : Int) by omega, w64 (x := ((o + 1 : Nat) : Int) + 1) (by omega) (by omega), w64 (x := ((l + 1 : Nat) : Int) - 1) (by omega) (by omega), show (((l + 1 : Nat)) : Int) - 1 = (l : Int) by omega, show (((o + 1 : Nat)) : Int) + 1 = ((o + 2 : Nat) : Int) by omega]
    refine Ev.neg (by simp) (Ev.pos (by omega) (Ev.bindk e1 (Ev.pos (by omega) (Ev.bindk e2 (Ev.val ?_)))))
    rw [ways_ss, ← Int.natCast_mul, w64 (x := (((o + 1) * ways (l + 1) o : Nat) : Int)) (by omega) (by omega), w64 (x := 0 + (((o + 1) * ways (l + 1) o : Nat) : Int)) (by omega) (by omega), w64 (by omega) (by omega)]
    omega
end Go.Proofs.YtcgoaipbfnhjhaaGreatDoor.M

/- The rank of a loop, as a walk over its letters with those that have come once: what the program's walk tells. -/
namespace Go.Proofs.YtcgoaipbfnhjhaaGreatDoor.M
open Go.RowKit Go.Proofs.YtcgoaipbfnhjhaaGreatDoor.Pr Go.Proofs.YtcgoaipbfnhjhaaGreatDoorW.PrintWords
set_option linter.unusedVariables false
set_option linter.unusedSimpArgs false

/-- Letters of a beginning that have come once. -/
def onceL (p : List Int) (j : Nat) : List Int := (abcL j).filter (fun x => p.count x == 1)
structure Beg (p O : List Int) (j : Nat) : Prop where
  op : O = onceL p j
  len : O.length + p.length = 2 * j
  all : ∀ x, x ∈ p ↔ x ∈ abcL j
theorem abc_sorted (j : Nat) : (abcL j).Pairwise (· < ·) := by
  unfold abcL
  rw [List.pairwise_map]
  exact List.pairwise_lt_range.imp (fun h => by omega)
theorem once_sorted (p : List Int) (j : Nat) : (onceL p j).Pairwise (· < ·) := (abc_sorted j).filter _
theorem beg_nil : Beg [] [] 0 := ⟨rfl, rfl, fun x => by simp [abcL]⟩
theorem Beg.mem {p O : List Int} {j : Nat} (h : Beg p O j) (x : Int) : x ∈ O ↔ x ∈ abcL j ∧ p.count x = 1 := by
  rw [h.op, onceL, List.mem_filter, beq_iff_eq]
theorem Beg.nodup {p O : List Int} {j : Nat} (h : Beg p O j) : O.Nodup := by
  rw [h.op]
  exact (once_sorted p j).imp (fun h e => by omega)
theorem Beg.le {p O : List Int} {j : Nat} (h : Beg p O j) : O.length ≤ j := by
  have h1 := h.op
  have : (onceL p j).length ≤ (abcL j).length := List.length_filter_le _ _
  rw [← h1, abc_length] at this
  exact this
theorem Beg.back {p O : List Int} {j : Nat} (h : Beg p O j) {x : Int} (hx : x ∈ O) : x ∈ abcL j := ((h.mem x).1 hx).1
theorem Beg.again {p O : List Int} {j : Nat} (h : Beg p O j) {x : Int} (hx : x ∈ O) : Beg (p ++ [x]) (O.erase x) j := by
  have hm := (h.mem x).1 hx
  refine ⟨?_, ?_, fun y => ?_⟩
  · rw [h.nodup.erase_eq_filter, h.op, onceL, onceL, List.filter_filter]
    refine List.filter_congr fun y hy => ?_
    rw [List.count_append, List.count_singleton]
    by_cases e : y = x
    · subst e
      simp [hm.2]
    · have e2 : (x == y) = false := by simpa using fun h => e h.symm
      have e3 : (y != x) = true := by simpa using e
      rw [e2, e3]
      simp
  · have := List.length_erase_of_mem hx
    have := List.length_pos_of_mem hx
    have := h.len
    simp
    omega
  · rw [List.mem_append, h.all y, List.mem_singleton]
    exact ⟨fun h2 => h2.elim id (fun e => e ▸ hm.1), .inl⟩
theorem Beg.new {p O : List Int} {j : Nat} (h : Beg p O j) : Beg (p ++ [97 + (j : Int)]) (O ++ [97 + (j : Int)]) (j + 1) := by
  have hn : (97 + (j : Int)) ∉ p := fun h2 => by
    have := (mem_abc j _).1 ((h.all _).1 h2)
    omega
  refine ⟨?_, ?_, fun y => ?_⟩
  · rw [onceL, ← abc_succ, List.filter_append, h.op, onceL]
    congr 1
    · refine List.filter_congr fun y hy => ?_
      have := (mem_abc j y).1 hy
      rw [List.count_append, List.count_singleton, show (97 + (j : Int) == y) = false by simpa using fun e : 97 + (j : Int) = y => by omega]
      simp
    · rw [List.filter_cons, List.count_append, List.count_eq_zero.2 hn]
      simp
  · have := h.len
    simp
    omega
  · rw [List.mem_append, h.all y, List.mem_singleton, ← abc_succ, List.mem_append, List.mem_singleton]
theorem erase_le (O : List Int) (x : Int) : (O.erase x).length ≤ O.length := List.length_erase_le

/-- How many letters come ahead of one, in order. -/
def aheadL (O : List Int) (x : Int) : Nat := O.countP (fun y => decide (y < x))
/-- The rank of what is left of a loop, with the letters that are open and how many have come. -/
def rankG (m : Nat) : List Int → Nat → List Int → Nat
  | _, _, [] => 0
  | O, j, x :: r => aheadL O x * ways (m - j) (O.length - 1) + if x ∈ O then rankG m (O.erase x) j r else rankG m (O ++ [x]) (j + 1) r
theorem ahead_le (O : List Int) (x : Int) : aheadL O x ≤ O.length := List.countP_le_length

/-- What letters count that come ahead of one. -/
def sumZ (x : Int) : List Int → List Int → Int → Int
  | a :: ls, c :: cs, r => sumZ x ls cs (if a < x then wrap64 (r + c) else r)
  | _, _, r => r
theorem rd_get (l : List Int) (i : Nat) (h : i < l.length) : rd l (i : Int) = l[i] := by
  unfold rd
  simp [List.getD_eq_getElem?_getD, List.getElem?_eq_getElem h]
theorem sumF_eq (x : Int) (ls cs : List Int) (hl : ls.length = cs.length) : ∀ (d i : Nat) (r : Int), i + d = ls.length → sumF x (ls, cs) d i r = sumZ x (ls.drop i) (cs.drop i) r
  | 0, i, r, h => by
    rw [List.drop_of_length_le (by omega), sumF]
    rfl
  | d + 1, i, r, h => by
    have h1 : i < ls.length := by omega
    have h2 : i < cs.length := by omega
    rw [List.drop_eq_getElem_cons h1, List.drop_eq_getElem_cons h2, sumZ, sumF, ← sumF_eq x ls cs hl d (i + 1) _ (by omega)]
    dsimp only
    rw [rd_get ls i h1, rd_get cs i h2]
theorem sumZ_open (x : Int) (W : Nat) (hW : W ≤ 2027025) (e f : List Int) : ∀ (O : List Int) (r : Int), 0 ≤ r → r + 2027025 * (O.length : Int) ≤ 100000000000 → sumZ x (O ++ e) (O.map (fun _ => (W : Int)) ++ f) r = sumZ x e f (r + ((aheadL O x * W : Nat) : Int))
  | [], r, h0, h1 => by simp [aheadL]
  | a :: O, r, h0, h1 => by
    rw [List.cons_append, List.map_cons, List.cons_append, sumZ]
    rw [List.length_cons] at h1
    by_cases h : a < x
    · rw [if_pos h, w64 (by omega) (by omega), sumZ_open x W hW e f O (r + W) (by omega) (by omega)]
      congr 1
      unfold aheadL
      rw [List.countP_cons_of_pos (by simpa using h), Nat.add_mul, Nat.one_mul]
      omega
    · rw [if_neg h, sumZ_open x W hW e f O r h0 (by omega)]
      unfold aheadL
      rw [List.countP_cons_of_neg (by simpa using h)]

theorem count8 (b : ByteArray) (i : Nat) (hi : i < 8) : b.data.toList.count ((97 + i : Nat).toUInt8) = (bytesOf b).count (97 + (i : Int)) := by
  have := count_eq b (97 + (i : Int)) (by omega) (by omega)
  rwa [show (97 + (i : Int)).toNat = 97 + i by omega] at this
theorem hasB_eq (b : ByteArray) (i : Nat) (hi : i < 8) : hasB b i = decide ((97 + (i : Int)) ∈ bytesOf b) := by
  unfold hasB
  have := indexB_eq b (97 + (i : Int)) (by omega) (by omega)
  rw [show (97 + (i : Int)).toNat = 97 + i by omega] at this
  rw [this]
  unfold ixL
  by_cases h : (97 + (i : Int)) ∈ bytesOf b
  · rw [if_pos h, decide_eq_true h, decide_eq_true (by omega)]
  · rw [if_neg h, decide_eq_false h, decide_eq_false (by omega)]
theorem usedF_eq (b : ByteArray) (O : List Int) (j : Nat) (hb : Beg (bytesOf b) O j) : ∀ (d u : Nat), u ≤ j → j ≤ u + d → u + d ≤ 8 → usedF b d u = j
  | 0, u, h1, h2, h3 => by rw [usedF]; omega
  | d + 1, u, h1, h2, h3 => by
    rw [usedF, hasB_eq b u (by omega)]
    by_cases h : (97 + (u : Int)) ∈ bytesOf b
    · have h4 := (mem_abc j _).1 ((hb.all _).1 h)
      rw [decide_eq_true h, if_pos rfl]
      exact usedF_eq b O j hb d (u + 1) (by omega) (by omega) (by omega)
    · rw [decide_eq_false h, if_neg (by decide)]
      by_cases e : u = j
      · exact e
      · exact absurd ((hb.all _).2 ((mem_abc j _).2 (by omega))) h
/-- Letters that have come once, from i on. -/
def onceF (p : List Int) : Nat → Nat → List Int
  | 0, _ => []
  | d + 1, i => if p.count (97 + (i : Int)) = 1 then (97 + (i : Int)) :: onceF p d (i + 1) else onceF p d (i + 1)
theorem onceF_eq (p : List Int) : ∀ (d i : Nat), onceF p d i = ((List.range' i d).map fun (q : Nat) => (97 : Int) + (q : Int)).filter (fun x => p.count x == 1)
  | 0, i => rfl
  | d + 1, i => by
    rw [onceF, List.range'_succ, List.map_cons, List.filter_cons, onceF_eq p d (i + 1)]
    by_cases h : p.count (97 + (i : Int)) = 1
    · rw [if_pos h, if_pos (by simpa using h)]
    · rw [if_neg h, if_neg (by simpa using h)]
theorem onceF_all (p : List Int) (j : Nat) : onceF p j 0 = onceL p j := by
  rw [onceF_eq, onceL, abcL, List.range_eq_range']
theorem onwL_ev (b : ByteArray) (x y v : Int) : ∀ (d i : Nat) (ls cs : List Int), i + d ≤ 8 → (onceF (bytesOf b) d i ≠ [] → Ev (fun k => impl_countOn.f k x y) v) →
    Ev (fun k => onwL k b x y d i ls cs) (ls ++ onceF (bytesOf b) d i, cs ++ (onceF (bytesOf b) d i).map (fun _ => v))
  | 0, i, ls, cs, h, hv => by
    simp only [onwL, onceF]
    exact Ev.val (by simp)
  | d + 1, i, ls, cs, h, hv => by
    simp only [onwL]
    rw [count8 b i (by omega)]
    by_cases hc : (bytesOf b).count (97 + (i : Int)) = 1
    · rw [onceF, if_pos hc] at hv ⊢
      refine Ev.pos hc (Ev.bindk (hv (by simp)) ?_)
      have := onwL_ev b x y v d (i + 1) (ls ++ [97 + (i : Int)]) (cs ++ [v]) (by omega) (fun _ => hv (by simp))
      simpa [List.append_assoc] using this
    · rw [onceF, if_neg hc] at hv ⊢
      exact Ev.neg hc (onwL_ev b x y v d (i + 1) ls cs (by omega) hv)
theorem onwF_ev (m : Nat) (b : ByteArray) (O : List Int) (j : Nat) (hb : Beg (bytesOf b) O j) (hj : j ≤ m) (hm : m ≤ 8) :
    Ev (fun k => onwF k m b) (O ++ (if j < m then [97 + (j : Int)] else []), O.map (fun _ => ((ways (m - j) (O.length - 1) : Nat) : Int)) ++ (if j < m then [((ways (m - j - 1) (O.length + 1) : Nat) : Int)] else [])) := by
  have hl := bytesOf_length b
  have h1 := hb.len
  have h2 := hb.le
  have hu := usedF_eq b O j hb m 0 (by omega) (by omega) (by omega)
  have ho : onceF (bytesOf b) j 0 = O := by rw [onceF_all, hb.op]
  simp only [onwF]
  rw [hu, show 2 * (j : Int) - (b.size : Int) = (O.length : Int) by omega]
  refine Ev.bindk (onwL_ev b _ _ ((ways (m - j) (O.length - 1) : Nat) : Int) j 0 [] [] (by omega) (fun hne => ?_)) ?_
  · rw [ho] at hne
    have : 0 < O.length := List.length_pos_iff.2 hne
    have e := countOn_ev (m - j) (O.length - 1) (by omega)
    rwa [show ((O.length - 1 : Nat) : Int) = (O.length : Int) - 1 by omega, show ((m - j : Nat) : Int) = (m : Int) - (j : Int) by omega] at e
  · rw [ho]
    by_cases h : j < m
    · rw [if_pos h, if_pos h]
      have e := countOn_ev (m - j - 1) (O.length + 1) (by omega)
      rw [show ((O.length + 1 : Nat) : Int) = (O.length : Int) + 1 by omega, show ((m - j - 1 : Nat) : Int) = (m : Int) - (j : Int) - 1 by omega] at e
      exact Ev.pos h (Ev.bindk e (Ev.val (by simp)))
    · rw [if_neg h, if_neg h]
      exact Ev.neg h (Ev.val (by simp))
theorem sumZ_end (x : Int) (j m : Nat) (v r : Int) (hx : x ≤ 97 + (j : Int)) : sumZ x (if j < m then [97 + (j : Int)] else []) (if j < m then [v] else []) r = r := by
  by_cases h : j < m
  · rw [if_pos h, if_pos h, sumZ, if_neg (by omega)]
    rfl
  · rw [if_neg h, if_neg h]
    rfl
/-- A letter of a loop that has come has come once. -/
theorem Beg.opened {w : List Int} {m : Nat} (h : Loop w m) {i : Nat} (hi : i < w.length) {O : List Int} {j : Nat} (hb : Beg (w.take i) O j) (hx : w[i] ∈ abcL j) : w[i] ∈ O := by
  have hw : w.count w[i] = 2 := h.cnt (h.lo _ (List.getElem_mem hi)) (h.hi _ (List.getElem_mem hi))
  have hp : 0 < (w.take i).count w[i] := List.count_pos_iff.2 ((hb.all _).2 hx)
  have e : w.take i ++ w[i] :: w.drop (i + 1) = w := by rw [← List.drop_eq_getElem_cons hi, List.take_append_drop]
  generalize w[i] = x at *
  have hc : (w.take i ++ x :: w.drop (i + 1)).count x = (w.take i).count x + ((w.drop (i + 1)).count x + 1) := by
    rw [List.count_append, List.count_cons_self]
  rw [e] at hc
  exact (hb.mem _).2 ⟨hx, by omega⟩
/-- A step of the walk over a loop. -/
theorem Beg.next {w : List Int} {m : Nat} (h : Loop w m) {i : Nat} (hi : i < w.length) {O : List Int} {j : Nat} (hb : Beg (w.take i) O j) (hr : runL j (w.drop i) = some m) :
    (w[i] ∈ O ∧ w[i] < 97 + (j : Int) ∧ Beg (w.take (i + 1)) (O.erase w[i]) j ∧ runL j (w.drop (i + 1)) = some m)
    ∨ (w[i] ∉ O ∧ w[i] = 97 + (j : Int) ∧ j < m ∧ Beg (w.take (i + 1)) (O ++ [w[i]]) (j + 1) ∧ runL (j + 1) (w.drop (i + 1)) = some m) := by
  have e : w.take (i + 1) = w.take i ++ [w[i]] := by rw [List.take_succ_eq_append_getElem hi]
  rw [List.drop_eq_getElem_cons hi, runL] at hr
  by_cases h1 : 97 ≤ w[i] ∧ w[i] < 97 + (j : Int)
  · rw [if_pos h1] at hr
    have ho := hb.opened h hi ((mem_abc j _).2 h1)
    exact .inl ⟨ho, h1.2, by rw [e]; exact hb.again ho, hr⟩
  · rw [if_neg h1] at hr
    by_cases h2 : w[i] = 97 + (j : Int)
    · rw [if_pos h2] at hr
      have := (run_mono _ _ _ hr).1
      refine .inr ⟨fun h3 => h1 ((mem_abc j _).1 (hb.back h3)), h2, by omega, ?_, hr⟩
      rw [e, h2]
      exact hb.new
    · rw [if_neg h2] at hr
      cases hr
theorem rank_impl {w : ByteArray} {m : Nat} (h : M.Loop (bytesOf w) m) : ∀ (d i : Nat) (O : List Int) (j : Nat) (q : Int), i + d = w.size → Beg ((bytesOf w).take i) O j → j ≤ m → runL j ((bytesOf w).drop i) = some m → 0 ≤ q → q ≤ 33000000 * (i : Int) →
    Ev (fun k => rankF k w d i q) (q + ((rankG m O j ((bytesOf w).drop i) : Nat) : Int))
  | 0, i, O, j, q, hd, hb, hj, hr, h0, h1 => by
    have hl := bytesOf_length w
    rw [List.drop_of_length_le (by omega)]
    simp only [rankF, rankG]
    exact Ev.val (by simp)
  | d + 1, i, O, j, q, hd, hb, hj, hr, h0, h1 => by
    have hl := bytesOf_length w
    have hlen := h.len
    have hf := h.few
    have hi : i < (bytesOf w).length := by omega
    have hx := bytesOf_get w i hi
    have hol := hb.le
    have hstep := hb.next h hi hr
    rw [List.drop_eq_getElem_cons hi, rankG]
    generalize (bytesOf w)[i] = x at hx hstep ⊢
    have hbx : bytesOf (w.extract 0 i) = (bytesOf w).take i := by rw [bytesOf_extract, List.drop_zero]
    simp only [rankF]
    rw [show w.size / 2 = m by omega, hx]
    have ha := ahead_le O x
    have hW : ways (m - j) (O.length - 1) ≤ 2027025 := by
      by_cases e0 : O.length = 0
      · rw [e0]; exact ways_small _ _ (by omega)
      · exact ways_small _ _ (by omega)
    have hmul : aheadL O x * ways (m - j) (O.length - 1) ≤ 8 * 2027025 := Nat.mul_le_mul (by omega) hW
    have hsum := sumF_eq x (O ++ (if j < m then [97 + (j : Int)] else [])) (O.map (fun _ => ((ways (m - j) (O.length - 1) : Nat) : Int)) ++ (if j < m then [((ways (m - j - 1) (O.length + 1) : Nat) : Int)] else [])) (by split <;> simp) _ 0 q (by rw [Nat.zero_add])
    rw [List.drop_zero, List.drop_zero, sumZ_open x _ hW _ _ O q h0 (by omega)] at hsum
    have hxj : x ≤ 97 + (j : Int) := by
      rcases hstep with ⟨_, h2, _⟩ | ⟨_, h2, _⟩ <;> omega
    rw [sumZ_end x j m _ _ hxj] at hsum
    refine Ev.bindk (onwF_ev m (w.extract 0 i) O j (by rw [hbx]; exact hb) hj hf) (Ev.pos ⟨by split <;> simp, by split <;> simp <;> omega⟩ ?_)
    dsimp only at hsum ⊢
    rw [hsum]
    generalize aheadL O x * ways (m - j) (O.length - 1) = z at hmul ⊢
    rcases hstep with ⟨a1, a2, a3, a4⟩ | ⟨a1, a2, a3, a4, a5⟩
    · rw [if_pos a1]
      have ih := rank_impl h d (i + 1) _ j (q + (z : Int)) (by omega) a3 hj a4 (by omega) (by omega)
      rw [show q + (z : Int) + ((rankG m (O.erase x) j ((bytesOf w).drop (i + 1)) : Nat) : Int) = q + ((z + rankG m (O.erase x) j ((bytesOf w).drop (i + 1)) : Nat) : Int) by omega] at ih
      exact ih
    · rw [if_neg a1]
      have ih := rank_impl h d (i + 1) _ (j + 1) (q + (z : Int)) (by omega) a4 (by omega) a5 (by omega) (by omega)
      rw [show q + (z : Int) + ((rankG m (O ++ [x]) (j + 1) ((bytesOf w).drop (i + 1)) : Nat) : Int) = q + ((z + rankG m (O ++ [x]) (j + 1) ((bytesOf w).drop (i + 1)) : Nat) : Int) by omega] at ih
      exact ih
end Go.Proofs.YtcgoaipbfnhjhaaGreatDoor.M

/- The letters, one by one. -/
namespace Go.Proofs.YtcgoaipbfnhjhaaGreatDoor.M
open Go.RowKit Go.Proofs.YtcgoaipbfnhjhaaGreatDoorW.PrintWords
set_option linter.unusedVariables false
set_option linter.unusedSimpArgs false

abbrev abc16 : ByteArray := ⟨#[97, 98, 99, 100, 101, 102, 103, 104, 105, 106, 107, 108, 109, 110, 111, 112]⟩
theorem abc_one (a : Nat) (h : a < 16) : bytesOf (abc16.extract a (a + 1)) = [97 + (a : Int)] := by
  have hd : ∀ n : Fin 16, bytesOf (abc16.extract n.val (n.val + 1)) = [97 + (n.val : Int)] := by decide +kernel
  exact hd ⟨a, h⟩
theorem abc_size (a : Nat) (h : a < 16) : (abc16.extract a (a + 1)).size = 1 := by
  rw [← bytesOf_length, abc_one a h]; rfl

end Go.Proofs.YtcgoaipbfnhjhaaGreatDoor.M

/- Letters named anew: the program's way and the reference's. -/
namespace Go.Proofs.YtcgoaipbfnhjhaaGreatDoor.M
open Go.RowKit Go.Proofs.YtcgoaipbfnhjhaaGreatDoorW.PrintWords Go.Proofs.YtcgoaipbfnhjhaaGreatDoor.Pr
set_option linter.unusedVariables false
set_option linter.unusedSimpArgs false

theorem anew_byte : ∀ (w ns : List Int), ns.length + w.length ≤ 100 → ∀ x ∈ anew ns w, 0 ≤ x ∧ x < 256
  | [], _, _, x, hx => by simp [anew] at hx
  | y :: r, ns, h, x, hx => by
    unfold anew at hx
    simp only [List.length_cons] at h
    rcases List.mem_cons.1 hx with e | hx
    · have := List.idxOf_le_length (a := y) (l := ns)
      omega
    · refine anew_byte r _ ?_ x hx
      split
      · omega
      · simp; omega
/-- A text with its letters named anew. -/
def anewS (w : ByteArray) : ByteArray := strOfNums (anew [] (bytesOf w))
theorem bytesOf_anew (w : ByteArray) (h : w.size ≤ 100) : bytesOf (anewS w) = anew [] (bytesOf w) :=
  bytesOf_strOf _ (anew_byte _ _ (by rw [bytesOf_length]; simp; omega))

theorem named_ev (w : ByteArray) (hw : w.size ≤ 100) : Ev (fun k => impl_named.f k w) (anewS w) := by
  unfold impl_named.f
  have hlen := bytesOf_length w
  have e := Ev.scan0 (fun k i (acc : ByteArray × List Int) => impl_named.l0 k w acc.1 acc.2 (w.size : Int) i) (bytesOf w) (fun rest acc => strOfNums (acc.2 ++ anew (bytesOf acc.1) rest)) (fun i acc => acc.2.length = i ∧ acc.1.size ≤ i)
    (fun acc hp => by
      refine Ev.step (fun k => by rw [impl_named.l0]) ?_
      refine Ev.neg (by omega) (Ev.val ?_)
      simp [anew])
    (fun i hi acc hp => by
      obtain ⟨p1, p2⟩ := hp
      have hi2 : i < w.size := by omega
      have hx := bytesOf_get w i hi
      have hr := bytesOf_byte w _ (List.getElem_mem hi)
      have hone := bytesOf_one w i hi
      have hs1 : (w.extract i (i + 1)).size = 1 := by rw [← bytesOf_length, hone]; rfl
      have hal := bytesOf_length acc.1
      generalize (bytesOf w)[i] = x at hx hr hone
      have hix := indexB_eq acc.1 x hr.1 hr.2
      by_cases hm : x ∈ bytesOf acc.1
      · have hlt : (bytesOf acc.1).idxOf x < (bytesOf acc.1).length := List.idxOf_lt_length_iff.2 hm
        rw [ixL, if_pos hm] at hix
        refine .inl ⟨(acc.1, acc.2 ++ [97 + ((bytesOf acc.1).idxOf x : Int)]), ⟨by simp; omega, by dsimp only; omega⟩, ?_, fun r hr2 => ?_⟩
        · rw [anew, if_pos hm]
          simp
        · refine Ev.step (fun k => by rw [impl_named.l0]) ?_
          refine Ev.pos (by omega) (Ev.pos (by omega) (Ev.pos (by omega) ?_))
          rw [hx]
          refine Ev.bindc (a := ((bytesOf acc.1).idxOf x : Int)) (by unfold strings_IndexByte.f; rw [hix]) (Ev.neg (by omega) (Ev.pos (by omega) ?_))
          rw [w64 (x := (i : Int) + 1) (by omega) (by omega)]
          have e : (97 + ((bytesOf acc.1).idxOf x : Int)) % 256 = 97 + ((bytesOf acc.1).idxOf x : Int) := by omega
          simp only [e]
          exact hr2
      · rw [ixL, if_neg hm] at hix
        have hsz : (acc.1 ++ w.extract i (i + 1)).size = acc.1.size + 1 := by rw [ByteArray.size_append, hs1]
        refine .inl ⟨(acc.1 ++ w.extract i (i + 1), acc.2 ++ [97 + ((bytesOf acc.1).idxOf x : Int)]), ⟨by simp; omega, by dsimp only; omega⟩, ?_, fun r hr2 => ?_⟩
        · rw [anew, if_neg hm]
          dsimp only
          rw [bytesOf_append, hone]
          simp
        · refine Ev.step (fun k => by rw [impl_named.l0]) ?_
          refine Ev.pos (by omega) (Ev.pos (by omega) (Ev.pos (by omega) ?_))
          rw [hx]
          refine Ev.bindc (a := (-1 : Int)) (by unfold strings_IndexByte.f; rw [hix]) (Ev.pos (by omega) ?_)
          rw [w64 (x := (i : Int) + 1) (by omega) (by omega)]
          rw [show ((i : Int) + 1).toNat = i + 1 by omega, Int.toNat_natCast]
          refine Ev.pos (by omega) (Ev.pos (by omega) (Ev.pos (by omega) (Ev.pos (by omega) ?_)))
          have hid : (bytesOf acc.1).idxOf x = acc.1.size := by rw [idx_none _ _ hm, hal]
          have e : (97 + (acc.1.size : Int)) % 256 = 97 + ((bytesOf acc.1).idxOf x : Int) := by omega
          simp only [e]
          exact hr2)
    ((⟨#[]⟩ : ByteArray), []) ⟨rfl, by simp [ByteArray.size]⟩
  exact e

/-- The inner loop: the place of a letter among those that have come. -/
theorem anew_l1 (w names out : ByteArray) (i : Int) (x : Int) (hi0 : 0 ≤ i) (hi : i < (w.size : Int)) (hx : bt w i = x) (hn : names.size ≤ 1000) (hnd : (bytesOf names).Nodup) (r : ByteArray)
    (hr : Ev (fun k => spec_loAnew.l1 k w names out i (ixL (bytesOf names) x) (names.size : Int)) r) : Ev (fun k => spec_loAnew.l1 k w names out i (-1) 0) r := by
  have hlen := bytesOf_length names
  have e := Ev.cpsB (fun k j (at_ : Int) => spec_loAnew.l1 k w names out i at_ j) (fun k at_ => spec_loAnew.l1 k w names out i at_ ((bytesOf names).length : Int)) (bytesOf names)
    (fun rest at_ => if x ∈ rest then (((bytesOf names).length - rest.length : Nat) : Int) + (rest.idxOf x : Int) else at_) (fun _ _ => True)
    (fun at_ r _ hr => by simpa using hr)
    (fun j hj at_ _ => by
      have hgj := bytesOf_get names j hj
      have hsplit : bytesOf names = (bytesOf names).take j ++ (bytesOf names)[j] :: (bytesOf names).drop (j + 1) := by
        rw [← List.drop_eq_getElem_cons hj, List.take_append_drop]
      have hdl : ((bytesOf names).drop (j + 1)).length = (bytesOf names).length - (j + 1) := List.length_drop
      generalize hR : (bytesOf names).drop (j + 1) = rest at hsplit hdl ⊢
      generalize hy : (bytesOf names)[j] = y at hsplit hgj ⊢
      by_cases e : y = x
      · subst e
        have hnot : y ∉ rest := by
          rw [hsplit] at hnd
          have := (List.nodup_append.1 hnd).2.1
          exact (List.nodup_cons.1 this).1
        refine ⟨(j : Int), trivial, ?_, fun r hr2 => ?_⟩
        · rw [if_pos (List.mem_cons_self ..), if_neg hnot, List.idxOf_cons_self, List.length_cons, hdl]
          omega
        · refine Ev.step (fun k => by rw [spec_loAnew.l1]) ?_
          refine Ev.pos (by omega) (Ev.pos (by omega) (Ev.pos hi0 (Ev.pos hi ?_)))
          rw [w64 (x := (j : Int) + 1) (by omega) (by omega)]
          exact Ev.pos (by rw [hgj, hx]) hr2
      · refine ⟨at_, trivial, ?_, fun r hr2 => ?_⟩
        · by_cases hm : x ∈ rest
          · rw [if_pos hm, if_pos (List.mem_cons_of_mem _ hm), List.idxOf_cons, show (y == x) = false by simpa using e, cond_false, List.length_cons, hdl]
            omega
          · rw [if_neg hm, if_neg (by simp only [List.mem_cons, not_or]; exact ⟨fun h => e h.symm, hm⟩)]
        · refine Ev.step (fun k => by rw [spec_loAnew.l1]) ?_
          refine Ev.pos (by omega) (Ev.pos (by omega) (Ev.pos hi0 (Ev.pos hi ?_)))
          rw [w64 (x := (j : Int) + 1) (by omega) (by omega)]
          exact Ev.neg (by rw [hgj, hx]; exact e) hr2)
    (bytesOf names).length 0 (-1) r (by omega) trivial (by
      rw [List.drop_zero, Nat.sub_self]
      unfold ixL at hr
      rw [hlen]
      simpa using hr)
  simpa using e
theorem loAnew_ev (w : ByteArray) (hw : w.size ≤ 16) : Ev (fun k => spec_loAnew.f k w) (anewS w) := by
  unfold spec_loAnew.f
  have hlen := bytesOf_length w
  have e := Ev.scan0 (fun k i (acc : ByteArray × ByteArray) => spec_loAnew.l0 k w acc.1 acc.2 i) (bytesOf w) (fun rest acc => strOfNums (bytesOf acc.2 ++ anew (bytesOf acc.1) rest)) (fun i acc => acc.2.size = i ∧ acc.1.size ≤ i ∧ (bytesOf acc.1).Nodup)
    (fun acc hp => by
      refine Ev.step (fun k => by rw [spec_loAnew.l0]) ?_
      refine Ev.neg (by omega) (Ev.val ?_)
      rw [anew, List.append_nil, strOf_bytesOf])
    (fun i hi acc hp => by
      obtain ⟨p1, p2, p3⟩ := hp
      have hi2 : i < w.size := by omega
      have hx := bytesOf_get w i hi
      have hone := bytesOf_one w i hi
      have hs1 : (w.extract i (i + 1)).size = 1 := by rw [← bytesOf_length, hone]; rfl
      have hal := bytesOf_length acc.1
      generalize (bytesOf w)[i] = x at hx hone
      have hstep : ∀ r, Ev (fun k => spec_loAnew.l1 k w acc.1 acc.2 i (ixL (bytesOf acc.1) x) (acc.1.size : Int)) r → Ev (fun k => spec_loAnew.l0 k w acc.1 acc.2 i) r := fun r hr => by
        refine Ev.step (fun k => by rw [spec_loAnew.l0]) ?_
        exact Ev.pos (by omega) (anew_l1 w acc.1 acc.2 i x (by omega) (by omega) hx (by omega) p3 r hr)
      by_cases hm : x ∈ bytesOf acc.1
      · have hlt : (bytesOf acc.1).idxOf x < (bytesOf acc.1).length := List.idxOf_lt_length_iff.2 hm
        rw [ixL, if_pos hm] at hstep
        generalize ha : (bytesOf acc.1).idxOf x = a at hlt hstep
        have h16 : a < 16 := by omega
        have hsz : (acc.2 ++ abc16.extract a (a + 1)).size = acc.2.size + 1 := by rw [ByteArray.size_append, abc_size a h16]
        refine .inl ⟨(acc.1, acc.2 ++ abc16.extract a (a + 1)), ⟨by dsimp only; omega, by dsimp only; omega, p3⟩, ?_, fun r hr2 => hstep r ?_⟩
        · rw [anew, if_pos hm, ha]
          dsimp only
          rw [bytesOf_append, abc_one a h16]
          simp
        · refine Ev.step (fun k => by rw [spec_loAnew.l1]) ?_
          refine Ev.neg (by omega) (Ev.neg (by omega) (Ev.pos (by omega) ?_))
          rw [w64 (x := (a : Int) + 1) (by omega) (by omega), w64 (x := (i : Int) + 1) (by omega) (by omega), show ((a : Int) + 1).toNat = a + 1 by omega, Int.toNat_natCast]
          refine Ev.pos (by omega) (Ev.pos (by omega) (Ev.pos ?_ hr2))
          have h := abc_size a h16
          unfold abc16 at h
          omega
      · rw [ixL, if_neg hm] at hstep
        have h16 : acc.1.size < 16 := by omega
        have hsz : (acc.1 ++ w.extract i (i + 1)).size = acc.1.size + 1 := by rw [ByteArray.size_append, hs1]
        have hsz2 : (acc.2 ++ abc16.extract acc.1.size (acc.1.size + 1)).size = acc.2.size + 1 := by rw [ByteArray.size_append, abc_size _ h16]
        refine .inl ⟨(acc.1 ++ w.extract i (i + 1), acc.2 ++ abc16.extract acc.1.size (acc.1.size + 1)), ⟨by dsimp only; omega, by dsimp only; omega, ?_⟩, ?_, fun r hr2 => hstep r ?_⟩
        · dsimp only
          rw [bytesOf_append, hone]
          refine List.nodup_append.2 ⟨p3, by simp, fun a ha b hb => ?_⟩
          obtain rfl : b = x := by simpa using hb
          exact fun e => hm (e ▸ ha)
        · rw [anew, if_neg hm, idx_none _ _ hm, hal]
          dsimp only
          rw [bytesOf_append, bytesOf_append, hone, abc_one _ h16]
          simp
        · refine Ev.step (fun k => by rw [spec_loAnew.l1]) ?_
          refine Ev.neg (by omega) (Ev.pos (by omega) (Ev.pos (by omega) ?_))
          rw [w64 (x := (acc.1.size : Int) + 1) (by omega) (by omega), w64 (x := (i : Int) + 1) (by omega) (by omega), show ((acc.1.size : Int) + 1).toNat = acc.1.size + 1 by omega, show ((i : Int) + 1).toNat = i + 1 by omega, Int.toNat_natCast, Int.toNat_natCast]
          refine Ev.pos (by omega) (Ev.pos (by omega) (Ev.pos (by omega) (Ev.pos (by omega) (Ev.pos (by omega) (Ev.pos (by omega) (Ev.pos ?_ hr2))))))
          have h := abc_size _ h16
          unfold abc16 at h
          omega)
    ((⟨#[]⟩ : ByteArray), (⟨#[]⟩ : ByteArray)) ⟨rfl, by simp [ByteArray.size], by simp [bytesOf]⟩
  exact e
end Go.Proofs.YtcgoaipbfnhjhaaGreatDoor.M

/- When a trimmed text is empty. -/
namespace Go.Proofs.YtcgoaipbfnhjhaaGreatDoor.M
open Go.RowKit
set_option linter.unusedVariables false
set_option linter.unusedSimpArgs false

theorem dropWhile_nil {α : Type} (p : α → Bool) : ∀ l : List α, l.dropWhile p = [] ↔ ∀ x ∈ l, p x = true
  | [] => by simp
  | x :: r => by
    rw [List.dropWhile_cons]
    cases h : p x with
    | true => simp [dropWhile_nil p r, h]
    | false => simp [h]
theorem trim_nil (l cs : List UInt8) : Lib.trimS l cs = [] ↔ ∀ x ∈ l, cs.contains x = true := by
  unfold Lib.trimS Lib.trimLeftS Lib.trimRightS
  rw [dropWhile_nil]
  constructor
  · intro h
    have h2 : (l.reverse.dropWhile (cs.contains ·)) = [] ∨ (l.reverse.dropWhile (cs.contains ·)) ≠ [] := Classical.em _
    rcases h2 with h2 | h2
    · rw [dropWhile_nil] at h2
      intro x hx
      exact h2 x (List.mem_reverse.2 hx)
    · exfalso
      have h3 : cs.contains ((l.reverse.dropWhile (cs.contains ·)).head h2) = false := List.head_dropWhile_not (cs.contains ·) h2
      rw [h _ (List.mem_reverse.2 (List.head_mem h2))] at h3
      cases h3
  · intro h x hx
    rw [List.mem_reverse] at hx
    exact h x (List.mem_reverse.1 ((List.dropWhile_sublist _).mem hx))
end Go.Proofs.YtcgoaipbfnhjhaaGreatDoor.M

/- What a loop is: the program and the reference tell the same. -/
namespace Go.Proofs.YtcgoaipbfnhjhaaGreatDoor.M
open Go.RowKit Go.Proofs.YtcgoaipbfnhjhaaGreatDoorW.PrintWords Go.Proofs.YtcgoaipbfnhjhaaGreatDoor.Pr
set_option linter.unusedVariables false
set_option linter.unusedSimpArgs false

/-- A text that is a loop. -/
def goodS (w : ByteArray) : Bool := goodL (bytesOf w)
theorem anew_beq (w : ByteArray) (h : w.size ≤ 16) : ((anewS w).toList == w.toList) = (anew [] (bytesOf w) == bytesOf w) := by
  rw [toList_beq, bytesOf_anew w (by omega)]
theorem isLoop_ev (w : ByteArray) : Ev (fun k => impl_IsLoop.f k w) (goodS w) := by
  unfold impl_IsLoop.f
  by_cases h16 : w.size ≤ 16
  · refine Ev.pos h16 ?_
    have hcon : ∀ b : UInt8, ([97, 98, 99, 100, 101, 102, 103, 104] : List UInt8).contains b = true ↔ 97 ≤ (b.toNat : Int) ∧ (b.toNat : Int) ≤ 104 := by
      intro b
      simp only [List.contains_iff_mem, List.mem_cons, List.not_mem_nil, or_false]
      constructor
      · rintro (rfl | rfl | rfl | rfl | rfl | rfl | rfl | rfl) <;> decide
      · intro h
        have e : b = UInt8.ofNat b.toNat := by simp
        obtain h | h | h | h | h | h | h | h : b.toNat = 97 ∨ b.toNat = 98 ∨ b.toNat = 99 ∨ b.toNat = 100 ∨ b.toNat = 101 ∨ b.toNat = 102 ∨ b.toNat = 103 ∨ b.toNat = 104 := by omega
        all_goals (rw [h] at e; subst e; simp)
    have htr : Lib.trimS w.data.toList [97, 98, 99, 100, 101, 102, 103, 104] = [] ↔ ∀ x ∈ bytesOf w, 97 ≤ x ∧ x ≤ 104 := by
      rw [trim_nil]
      unfold bytesOf
      constructor
      · intro h x hx
        obtain ⟨b, hb, rfl⟩ := List.mem_map.1 hx
        exact (hcon b).1 (h b hb)
      · intro h b hb
        exact (hcon b).2 (h _ (List.mem_map.2 ⟨b, hb, rfl⟩))
    have hmiss : (!((bytesOf w).any (missB w))) = (bytesOf w).all (fun x => (bytesOf w).count x == 2) := by
      rw [List.not_any_eq_all_not]
      have key : ∀ x ∈ bytesOf w, (!(missB w x)) = ((bytesOf w).count x == 2) := fun x hx => by
        have := bytesOf_byte w x hx
        unfold missB
        rw [count_eq w x this.1 this.2, Bool.eq_iff_iff]
        simp
        omega
      rw [Bool.eq_iff_iff, List.all_eq_true, List.all_eq_true]
      exact ⟨fun h x hx => (key x hx) ▸ h x hx, fun h x hx => (key x hx).symm ▸ h x hx⟩
    by_cases ht : Lib.trimS w.data.toList [97, 98, 99, 100, 101, 102, 103, 104] = []
    · have hz := htr.1 ht
      refine Ev.pos ⟨ht, fun x hx => by have := hz x hx; omega⟩ (Ev.bindk (named_ev w (by omega)) ?_)
      have hb := bytesOf_length w
      by_cases e : anewS w = w
      · refine Ev.pos e (Ev.val ?_)
        have e2 : anew [] (bytesOf w) = bytesOf w := by rw [← bytesOf_anew w (by omega), e]
        rw [hmiss]
        unfold goodS goodL
        rw [e2]
        simp [hb, h16]
      · refine Ev.neg e (Ev.val ?_)
        have e2 : anew [] (bytesOf w) ≠ bytesOf w := fun h => e (bytesOf_inj (by rw [bytesOf_anew w (by omega), h]))
        unfold goodS goodL
        rw [show (anew [] (bytesOf w) == bytesOf w) = false by simpa using e2]
        simp
    · refine Ev.neg (fun h => ht h.1) (Ev.neg ht (Ev.val ?_))
      have hg : goodS w = false := by
        cases hg : goodS w with
        | false => rfl
        | true => exact absurd (htr.2 (good_letters hg)) ht
      exact hg.symm
  · refine Ev.neg h16 (Ev.val ?_)
    unfold goodS goodL
    rw [decide_eq_false (by rw [bytesOf_length]; exact h16)]
    rfl

theorem good_l1 (w : ByteArray) (i : Int) (x : Int) (hi0 : 0 ≤ i) (hi : i < (w.size : Int)) (hx : bt w i = x) (hw : w.size ≤ 1000) (r : Bool)
    (hr : Ev (fun k => spec_loGood.l1 k w i (((bytesOf w).count x : Nat) : Int) (w.size : Int)) r) : Ev (fun k => spec_loGood.l1 k w i 0 0) r := by
  have hlen := bytesOf_length w
  have hcl : (bytesOf w).count x ≤ (bytesOf w).length := List.count_le_length
  have e := Ev.cpsB (fun k j (t : Int) => spec_loGood.l1 k w i t j) (fun k t => spec_loGood.l1 k w i t ((bytesOf w).length : Int)) (bytesOf w)
    (fun rest t => t + ((rest.count x : Nat) : Int)) (fun j t => 0 ≤ t ∧ t ≤ j)
    (fun t r _ hr => by simpa using hr)
    (fun j hj t hp => by
      have hgj := bytesOf_get w j hj
      generalize (bytesOf w)[j] = y at hgj ⊢
      by_cases e : y = x
      · refine ⟨t + 1, by omega, ?_, fun r hr2 => ?_⟩
        · subst e
          rw [List.count_cons_self]
          omega
        · refine Ev.step (fun k => by rw [spec_loGood.l1]) ?_
          refine Ev.pos (by omega) (Ev.pos (by omega) (Ev.pos hi0 (Ev.pos hi ?_)))
          rw [w64 (x := (j : Int) + 1) (by omega) (by omega), w64 (x := t + 1) (by omega) (by omega)]
          exact Ev.pos (by rw [hgj, hx]; exact e) hr2
      · refine ⟨t, by omega, ?_, fun r hr2 => ?_⟩
        · rw [List.count_cons, if_neg (by simpa using e)]
          omega
        · refine Ev.step (fun k => by rw [spec_loGood.l1]) ?_
          refine Ev.pos (by omega) (Ev.pos (by omega) (Ev.pos hi0 (Ev.pos hi ?_)))
          rw [w64 (x := (j : Int) + 1) (by omega) (by omega)]
          exact Ev.neg (by rw [hgj, hx]; exact e) hr2)
    (bytesOf w).length 0 0 r (by omega) (by omega) (by
      rw [List.drop_zero, hlen]
      simpa using hr)
  simpa using e
theorem loGood_l0 (w : ByteArray) (h16 : w.size ≤ 16) : Ev (fun k => spec_loGood.l0 k w 0) ((bytesOf w).all (fun x => (bytesOf w).count x == 2) && (anew [] (bytesOf w) == bytesOf w)) := by
  have hlen := bytesOf_length w
  exact Ev.scan0 (fun k i (_ : Unit) => spec_loGood.l0 k w i) (bytesOf w) (fun rest _ => rest.all (fun x => (bytesOf w).count x == 2) && (anew [] (bytesOf w) == bytesOf w)) (fun _ _ => True)
    (fun _ _ => by
      refine Ev.step (fun k => by rw [spec_loGood.l0]) ?_
      refine Ev.neg (by omega) (Ev.bindk (loAnew_ev w h16) (Ev.val ?_))
      rw [anew_beq w h16]
      rfl)
    (fun i hi _ _ => by
      have hx := bytesOf_get w i hi
      generalize (bytesOf w)[i] = x at hx ⊢
      have hstep : ∀ r, Ev (fun k => spec_loGood.l1 k w i (((bytesOf w).count x : Nat) : Int) (w.size : Int)) r → Ev (fun k => spec_loGood.l0 k w i) r := fun r hr => by
        refine Ev.step (fun k => by rw [spec_loGood.l0]) ?_
        exact Ev.pos (by omega) (good_l1 w i x (by omega) (by omega) hx (by omega) r hr)
      rw [List.all_cons]
      by_cases hc : (bytesOf w).count x = 2
      · refine .inl ⟨(), trivial, by rw [hc]; rfl, fun r hr => hstep r ?_⟩
        refine Ev.step (fun k => by rw [spec_loGood.l1]) ?_
        refine Ev.neg (by omega) (Ev.pos (by omega) ?_)
        rw [w64 (x := (i : Int) + 1) (by omega) (by omega)]
        exact hr
      · refine .inr (hstep _ ?_)
        refine Ev.step (fun k => by rw [spec_loGood.l1]) ?_
        refine Ev.neg (by omega) (Ev.neg (by omega) (Ev.val ?_))
        rw [show ((bytesOf w).count x == 2) = false by simpa using hc]
        rfl)
    () trivial
theorem loGood_ev (w : ByteArray) : Ev (fun k => spec_loGood.f k w) (goodS w) := by
  unfold spec_loGood.f
  have hlen := bytesOf_length w
  by_cases h16 : w.size ≤ 16
  · refine Ev.neg (by omega) ?_
    refine Ev.step (fun k => by rw [spec_loGood.j0]) ?_
    by_cases he : w.size % 2 = 0
    · refine Ev.neg (by simp; omega) ?_
      have e := loGood_l0 w h16
      have e2 : goodS w = ((bytesOf w).all (fun x => (bytesOf w).count x == 2) && (anew [] (bytesOf w) == bytesOf w)) := by
        unfold goodS goodL
        rw [decide_eq_true (by omega), Bool.true_and, Bool.and_comm]
      rw [e2]
      exact e
    · refine Ev.pos (by simp; omega) (Ev.val ?_)
      cases hg : goodS w with
      | false => rfl
      | true => have := good_even hg; omega
  · refine Ev.pos (by omega) ?_
    refine Ev.step (fun k => by rw [spec_loGood.j0]) ?_
    refine Ev.pos rfl (Ev.val ?_)
    unfold goodS goodL
    rw [decide_eq_false (by rw [bytesOf_length]; exact h16)]
    rfl
theorem good_size {w : ByteArray} (h : goodS w = true) : w.size ≤ 16 := by
  have := bytesOf_length w
  unfold goodS goodL at h
  simp only [Bool.and_eq_true, decide_eq_true_eq] at h
  omega
end Go.Proofs.YtcgoaipbfnhjhaaGreatDoor.M

/- The rank of a loop: what the reference's walk tells. -/
namespace Go.Proofs.YtcgoaipbfnhjhaaGreatDoor.M
open Go.RowKit Go.Proofs.YtcgoaipbfnhjhaaGreatDoor.Pr Go.Proofs.YtcgoaipbfnhjhaaGreatDoorW.PrintWords
set_option linter.unusedVariables false
set_option linter.unusedSimpArgs false

theorem ahead_sorted (x : Int) : ∀ (O : List Int), O.Pairwise (· < ·) → x ∈ O → aheadL O x = O.idxOf x
  | a :: O, h, hx => by
    rw [List.pairwise_cons] at h
    rw [List.idxOf_cons]
    unfold aheadL
    by_cases e : a = x
    · subst e
      rw [List.countP_cons_of_neg (by simp), List.countP_eq_zero.2 (fun y hy => by have := h.1 y hy; simp; omega)]
      simp
    · have hx2 : x ∈ O := by
        rcases List.mem_cons.1 hx with e2 | e2
        · exact absurd e2.symm e
        · exact e2
      have := h.1 x hx2
      rw [List.countP_cons_of_pos (by simpa using this), show (a == x) = false by simpa using e]
      have ih := ahead_sorted x O h.2 hx2
      unfold aheadL at ih
      rw [ih]
      rfl
theorem ahead_all (x : Int) (O : List Int) (h : ∀ y ∈ O, y < x) : aheadL O x = O.length := by
  unfold aheadL
  exact List.countP_eq_length.2 (fun y hy => by simpa using h y hy)
theorem rank_l1 (w opn : ByteArray) (m i j : Nat) (O : List Int) (x : Int) (hO : bytesOf opn = O) (hnd : O.Nodup) (hi : i < (bytesOf w).length) (hx : (bytesOf w)[i] = x) (hw : w.size = 2 * m) (hm : m ≤ 8) (hj : j ≤ m) (hol : O.length ≤ j) (r : Int × Bool) :
    ∀ (d kk : Nat) (q : Int), kk + d = O.length → (∀ n (h : n < O.length), n < kk → O[n] ≠ x) → 0 ≤ q → q + 2027025 * (d : Int) ≤ 100000000000 →
      (if x ∈ O then Ev (fun k => spec_RankOfLoop.l0 k w (q + (((O.idxOf x - kk) * ways (m - j) (O.length - 1) : Nat) : Int)) (strOfNums (O.erase x)) (j : Int) ((i : Int) + 1)) r
        else Ev (fun k => spec_RankOfLoop.l0 k w (q + ((d * ways (m - j) (O.length - 1) : Nat) : Int)) (strOfNums (O ++ [x])) ((j : Int) + 1) ((i : Int) + 1)) r) →
      Ev (fun k => spec_RankOfLoop.l1 k w q opn (j : Int) (i : Int) false (kk : Int)) r
  | 0, kk, q, hd, hno, h0, h1, hr => by
    have hl := bytesOf_length w
    have hlo := bytesOf_length opn
    have hbo := bytesOf_byte opn
    have hx1 := bytesOf_one w i hi
    have hxb := bytesOf_byte w _ (List.getElem_mem hi)
    rw [hx] at hx1 hxb
    rw [hO] at hlo
    have hnx : x ∉ O := fun hxo => by
      obtain ⟨n, hn, e⟩ := List.getElem_of_mem hxo
      exact hno n hn (by omega) e
    rw [if_neg hnx] at hr
    have e1 : strOfNums (O ++ [x]) = opn ++ w.extract i (i + 1) := by
      refine bytesOf_inj ?_
      rw [bytesOf_append, hx1, hO, bytesOf_strOf _ (fun y hy => by
        rcases List.mem_append.1 hy with hy | hy
        · exact hbo y (hO ▸ hy)
        · obtain rfl : y = x := by simpa using hy
          exact hxb)]
    have hes : (w.extract i (i + 1)).size = 1 := by rw [← bytesOf_length, hx1]; rfl
    rw [e1] at hr
    refine Ev.step (fun k => by rw [spec_RankOfLoop.l1]) ?_
    refine Ev.neg (by omega) ?_
    refine Ev.step (fun k => by rw [spec_RankOfLoop.j2]) ?_
    refine Ev.neg (by simp) (Ev.neg (by simp) (Ev.pos (by omega) ?_))
    rw [w64 (x := (i : Int) + 1) (by omega) (by omega), w64 (x := (j : Int) + 1) (by omega) (by omega), show ((i : Int) + 1).toNat = i + 1 by omega, Int.toNat_natCast]
    refine Ev.pos (by omega) (Ev.pos (by omega) (Ev.pos (by omega) ?_))
    simpa using hr
  | d + 1, kk, q, hd, hno, h0, h1, hr => by
    have hl := bytesOf_length w
    have hlo := bytesOf_length opn
    have hbo := bytesOf_byte opn
    have hkl : kk < O.length := by omega
    have hgk : bt opn (kk : Int) = O[kk] := by
      subst hO
      exact bytesOf_get opn kk hkl
    have hgi : bt w (i : Int) = x := by rw [← hx]; exact bytesOf_get w i hi
    rw [hO] at hlo
    have hW : ways (m - j) (O.length - 1) ≤ 2027025 := ways_small _ _ (by omega)
    refine Ev.step (fun k => by rw [spec_RankOfLoop.l1]) ?_
    refine Ev.pos (by omega) ?_
    refine Ev.step (fun k => by rw [spec_RankOfLoop.j2]) ?_
    refine Ev.pos (by simp) (Ev.pos (by omega) (Ev.pos (by omega) (Ev.pos (by omega) (Ev.pos (by omega) ?_))))
    rw [hgk, hgi, w64 (x := (kk : Int) + 1) (by omega) (by omega)]
    by_cases e : O[kk] = x
    · have hxo : x ∈ O := e ▸ List.getElem_mem hkl
      have hix : O.idxOf x = kk := by
        rw [← e]
        exact hnd.idxOf_getElem kk hkl
      rw [if_pos hxo, hix, Nat.sub_self, Nat.zero_mul] at hr
      refine Ev.pos e (Ev.pos (by omega) (Ev.pos (by omega) (Ev.pos (by omega) ?_)))
      rw [show ((kk : Int) + 1).toNat = kk + 1 by omega, Int.toNat_natCast]
      have e1 : strOfNums (O.erase x) = opn.extract 0 kk ++ opn.extract (kk + 1) opn.size := by
        refine bytesOf_inj ?_
        rw [bytesOf_append, bytesOf_extract, bytesOf_extract, hO, bytesOf_strOf _ (fun y hy => hbo y (hO ▸ List.mem_of_mem_erase hy)), List.drop_zero, ← hlo, List.take_length, List.erase_eq_eraseIdx_of_idxOf hix, List.eraseIdx_eq_take_drop_succ]
      rw [e1] at hr
      refine Ev.pos (by simp only [ByteArray.size_extract]; omega) ?_
      refine Ev.step (fun k => by rw [spec_RankOfLoop.l1]) ?_
      have hgo : Ev (fun k => spec_RankOfLoop.j2 k w q (opn.extract 0 kk ++ opn.extract (kk + 1) opn.size) (j : Int) (i : Int) true ((kk : Int) + 1) false) r := by
        refine Ev.step (fun k => by rw [spec_RankOfLoop.j2]) ?_
        refine Ev.neg (by simp) (Ev.pos rfl ?_)
        rw [w64 (x := (i : Int) + 1) (by omega) (by omega)]
        simpa using hr
      by_cases hs : (kk : Int) + 1 < ((opn.extract 0 kk ++ opn.extract (kk + 1) opn.size).size : Int)
      · exact Ev.pos hs hgo
      · exact Ev.neg hs hgo
    · have eW := loWays_ev (m - j) (O.length - 1) (by omega)
      refine Ev.neg e ?_
      rw [w64 (x := (opn.size : Int) - 1) (by omega) (by omega), w64 (x := (w.size : Int) / 2) (by omega) (by omega), w64 (x := (w.size : Int) / 2 - (j : Int)) (by omega) (by omega), show (opn.size : Int) - 1 = ((O.length - 1 : Nat) : Int) by omega, show (w.size : Int) / 2 - (j : Int) = ((m - j : Nat) : Int) by omega]
      refine Ev.bindk eW ?_
      rw [w64 (by omega) (by omega)]
      have ih := rank_l1 w opn m i j O x hO hnd hi hx hw hm hj hol r d (kk + 1) (q + (ways (m - j) (O.length - 1) : Int)) (by omega) (fun n hn hlt => by
        by_cases en : n = kk
        · subst en; exact e
        · exact hno n hn (by omega)) (by omega) (by omega) (by
        by_cases hxo : x ∈ O
        · rw [if_pos hxo] at hr ⊢
          have hge : kk < O.idxOf x := by
            have hlt := List.idxOf_lt_length_iff.2 hxo
            have hgx := List.getElem_idxOf hlt
            by_cases hc : kk < O.idxOf x
            · exact hc
            · by_cases he : O.idxOf x = kk
              · exact absurd (by simpa [he] using hgx) e
              · exact absurd hgx (hno _ hlt (by omega))
          have e3 : (O.idxOf x - kk) * ways (m - j) (O.length - 1) = (O.idxOf x - (kk + 1)) * ways (m - j) (O.length - 1) + ways (m - j) (O.length - 1) := by
            rw [show O.idxOf x - kk = (O.idxOf x - (kk + 1)) + 1 by omega, Nat.add_mul, Nat.one_mul]
          rw [e3] at hr
          rw [show q + ((ways (m - j) (O.length - 1) : Nat) : Int) + (((O.idxOf x - (kk + 1)) * ways (m - j) (O.length - 1) : Nat) : Int) = q + (((O.idxOf x - (kk + 1)) * ways (m - j) (O.length - 1) + ways (m - j) (O.length - 1) : Nat) : Int) by omega]
          exact hr
        · rw [if_neg hxo] at hr ⊢
          rw [Nat.add_mul, Nat.one_mul] at hr
          rw [show q + ((ways (m - j) (O.length - 1) : Nat) : Int) + ((d * ways (m - j) (O.length - 1) : Nat) : Int) = q + ((d * ways (m - j) (O.length - 1) + ways (m - j) (O.length - 1) : Nat) : Int) by omega]
          exact hr)
      rw [show (((kk + 1 : Nat)) : Int) = (kk : Int) + 1 by omega] at ih
      exact ih
theorem rank_spec {w : ByteArray} {m : Nat} (h : M.Loop (bytesOf w) m) : ∀ (d i : Nat) (O : List Int) (j : Nat) (q : Int), i + d = w.size → Beg ((bytesOf w).take i) O j → j ≤ m → runL j ((bytesOf w).drop i) = some m → 0 ≤ q → q ≤ 33000000 * (i : Int) →
    Ev (fun k => spec_RankOfLoop.l0 k w q (strOfNums O) (j : Int) (i : Int)) (q + ((rankG m O j ((bytesOf w).drop i) : Nat) : Int), true)
  | 0, i, O, j, q, hd, hb, hj, hr, h0, h1 => by
    have hl := bytesOf_length w
    rw [List.drop_of_length_le (by omega)]
    refine Ev.step (fun k => by rw [spec_RankOfLoop.l0]) ?_
    refine Ev.neg (by omega) (Ev.val ?_)
    simp [rankG]
  | d + 1, i, O, j, q, hd, hb, hj, hr, h0, h1 => by
    have hl := bytesOf_length w
    have hlen := h.len
    have hf := h.few
    have hi : i < (bytesOf w).length := by omega
    have hol := hb.le
    have hby : ∀ y ∈ O, 0 ≤ y ∧ y < 256 := fun y hy => by
      have := (mem_abc j y).1 (hb.back hy)
      omega
    have hstep := hb.next h hi hr
    have hsorted : O.Pairwise (· < ·) := by rw [hb.op]; exact once_sorted _ _
    have hW : ways (m - j) (O.length - 1) ≤ 2027025 := ways_small _ _ (by omega)
    have hmul : ∀ z : Nat, z ≤ 8 → z * ways (m - j) (O.length - 1) ≤ 8 * 2027025 := fun z hz => Nat.mul_le_mul hz hW
    rw [List.drop_eq_getElem_cons hi, rankG]
    obtain ⟨x, hx⟩ : ∃ x, (bytesOf w)[i] = x := ⟨_, rfl⟩
    rw [hx] at hstep ⊢
    refine Ev.step (fun k => by rw [spec_RankOfLoop.l0]) ?_
    refine Ev.pos (by omega) ?_
    have key := rank_l1 w (strOfNums O) m i j O x (bytesOf_strOf O hby) hb.nodup hi hx (by omega) hf hj hol
    rcases hstep with ⟨a1, a2, a3, a4⟩ | ⟨a1, a2, a3, a4, a5⟩
    · rw [if_pos a1, ahead_sorted x O hsorted a1]
      have hlt := List.idxOf_lt_length_iff.2 a1
      refine key _ O.length 0 q (by omega) (fun n _ hn => by omega) h0 (by omega) ?_
      rw [if_pos a1, Nat.sub_zero]
      have hz := hmul (O.idxOf x) (by omega)
      generalize O.idxOf x * ways (m - j) (O.length - 1) = z at hz ⊢
      have ih := rank_spec h d (i + 1) _ j (q + (z : Int)) (by omega) a3 hj a4 (by omega) (by omega)
      rw [show q + (z : Int) + ((rankG m (O.erase x) j ((bytesOf w).drop (i + 1)) : Nat) : Int) = q + ((z + rankG m (O.erase x) j ((bytesOf w).drop (i + 1)) : Nat) : Int) by omega, show (((i + 1 : Nat)) : Int) = (i : Int) + 1 by omega] at ih
      exact ih
    · rw [if_neg a1, ahead_all x O (fun y hy => by have := (mem_abc j y).1 (hb.back hy); omega)]
      refine key _ O.length 0 q (by omega) (fun n _ hn => by omega) h0 (by omega) ?_
      rw [if_neg a1]
      have hz := hmul O.length (by omega)
      generalize O.length * ways (m - j) (O.length - 1) = z at hz ⊢
      have ih := rank_spec h d (i + 1) _ (j + 1) (q + (z : Int)) (by omega) a4 (by omega) a5 (by omega) (by omega)
      rw [show q + (z : Int) + ((rankG m (O ++ [x]) (j + 1) ((bytesOf w).drop (i + 1)) : Nat) : Int) = q + ((z + rankG m (O ++ [x]) (j + 1) ((bytesOf w).drop (i + 1)) : Nat) : Int) by omega, show (((i + 1 : Nat)) : Int) = (i : Int) + 1 by omega, show (((j + 1 : Nat)) : Int) = (j : Int) + 1 by omega] at ih
      exact ih
end Go.Proofs.YtcgoaipbfnhjhaaGreatDoor.M

/- The loop with a rank, and that it is the one: plain lists, no program. -/
namespace Go.Proofs.YtcgoaipbfnhjhaaGreatDoor.M
set_option linter.unusedVariables false
set_option linter.unusedSimpArgs false

/-- What is left of the loop with a rank: d letters, with those that are open and how many have come. -/
def unrG (m : Nat) : Nat → List Int → Nat → Nat → List Int
  | 0, _, _, _ => []
  | d + 1, O, j, r =>
    if h : r / ways (m - j) (O.length - 1) < O.length then O[r / ways (m - j) (O.length - 1)] :: unrG m d (O.eraseIdx (r / ways (m - j) (O.length - 1))) j (r % ways (m - j) (O.length - 1))
    else (97 + (j : Int)) :: unrG m d (O ++ [97 + (j : Int)]) (j + 1) (r - O.length * ways (m - j) (O.length - 1))
theorem ways_pos : ∀ (l o : Nat), 0 < ways l o
  | 0, 0 => by rw [ways_00]; omega
  | 0, o + 1 => by
    rw [ways_0s]
    exact Nat.mul_pos (by omega) (ways_pos 0 o)
  | l + 1, 0 => by rw [ways_s0]; exact ways_pos l 1
  | l + 1, o + 1 => by
    rw [ways_ss]
    have := ways_pos l (o + 2)
    omega
theorem ways_end (o : Nat) : ways 0 (o + 1) = (o + 1) * ways 0 (o + 1 - 1) := ways_0s o
theorem ways_go (l o : Nat) : ways (l + 1) o = o * ways (l + 1) (o - 1) + ways l (o + 1) := by
  cases o with
  | zero => rw [ways_s0, Nat.zero_mul, Nat.zero_add]
  | succ o => exact ways_ss l o
/-- A state of the walk: open letters in order, all among those that have come. -/
structure StG (m : Nat) (O : List Int) (j : Nat) : Prop where
  ord : O.Pairwise (· < ·)
  sub : ∀ x ∈ O, x ∈ abcL j
  le : j ≤ m
/-- What is left of a loop. -/
structure RestG (m : Nat) (O : List Int) (j : Nat) (w : List Int) : Prop where
  run : runL j w = some m
  cnt : ∀ x, w.count x = if x ∈ O then 1 else if 97 + (j : Int) ≤ x ∧ x < 97 + (m : Int) then 2 else 0
theorem StG.nodup {m : Nat} {O : List Int} {j : Nat} (h : StG m O j) : O.Nodup := h.ord.imp (fun h e => by omega)
theorem StG.lt {m : Nat} {O : List Int} {j : Nat} (h : StG m O j) : ∀ y ∈ O, y < 97 + (j : Int) := fun y hy => ((mem_abc j y).1 (h.sub y hy)).2
theorem StG.erase {m : Nat} {O : List Int} {j : Nat} (h : StG m O j) (x : Int) : StG m (O.erase x) j := ⟨h.ord.sublist List.erase_sublist, fun y hy => h.sub y (List.mem_of_mem_erase hy), h.le⟩
theorem StG.new {m : Nat} {O : List Int} {j : Nat} (h : StG m O j) (hj : j < m) : StG m (O ++ [97 + (j : Int)]) (j + 1) := by
  refine ⟨?_, fun y hy => ?_, hj⟩
  · rw [List.pairwise_append]
    exact ⟨h.ord, by simp, fun a ha b hb => by
      obtain rfl : b = 97 + (j : Int) := by simpa using hb
      exact h.lt a ha⟩
  · rcases List.mem_append.1 hy with hy | hy
    · have := (mem_abc j y).1 (h.sub y hy)
      exact (mem_abc (j + 1) y).2 (by omega)
    · obtain rfl : y = 97 + (j : Int) := by simpa using hy
      exact (mem_abc (j + 1) _).2 (by omega)
theorem eraseIdx_getElem {O : List Int} (hn : O.Nodup) (i : Nat) (hi : i < O.length) : O.eraseIdx i = O.erase O[i] := by
  rw [List.erase_eq_eraseIdx_of_idxOf (hn.idxOf_getElem i hi)]
theorem runL_in {j : Nat} {x : Int} {r : List Int} (h : x ∈ abcL j) : runL j (x :: r) = runL j r := by
  have := (mem_abc j x).1 h
  rw [runL, if_pos this]
theorem runL_new (j : Nat) (r : List Int) : runL j ((97 + (j : Int)) :: r) = runL (j + 1) r := by
  rw [runL, if_neg (by omega), if_pos rfl]
/-- The loop with a rank has that rank. -/
theorem unr_ok (m : Nat) : ∀ (d : Nat) (O : List Int) (j r : Nat), StG m O j → O.length + 2 * (m - j) = d → r < ways (m - j) O.length →
    RestG m O j (unrG m d O j r) ∧ (unrG m d O j r).length = d ∧ rankG m O j (unrG m d O j r) = r
  | 0, O, j, r, hs, hd, hr => by
    have h0 : O = [] := List.length_eq_zero_iff.1 (by omega)
    subst h0
    have hle := hs.le
    have hj : j = m := by omega
    subst hj
    rw [Nat.sub_self, List.length_nil, ways_00] at hr
    refine ⟨⟨rfl, fun x => ?_⟩, rfl, ?_⟩
    · rw [if_neg (by simp), if_neg (by omega)]
      rfl
    · simp only [unrG, rankG]
      omega
  | d + 1, O, j, r, hs, hd, hr => by
    have hwp := ways_pos (m - j) (O.length - 1)
    by_cases h : r / ways (m - j) (O.length - 1) < O.length
    · rw [unrG, dif_pos h]
      obtain ⟨i, hi⟩ : ∃ i, i = r / ways (m - j) (O.length - 1) := ⟨_, rfl⟩
      rw [← hi] at h
      simp only [← hi]
      have hxm : O[i] ∈ O := List.getElem_mem h
      have hxa := hs.sub _ hxm
      have hle := hs.le
      rw [eraseIdx_getElem hs.nodup i h]
      have hix : O.idxOf O[i] = i := hs.nodup.idxOf_getElem i h
      have hel : (O.erase O[i]).length = O.length - 1 := List.length_erase_of_mem hxm
      have ih := unr_ok m d (O.erase O[i]) j (r % ways (m - j) (O.length - 1)) (hs.erase _) (by omega) (by rw [hel]; exact Nat.mod_lt _ hwp)
      refine ⟨⟨by rw [runL_in hxa]; exact ih.1.run, fun y => ?_⟩, by rw [List.length_cons, ih.2.1], ?_⟩
      · rw [List.count_cons, ih.1.cnt y]
        by_cases e : O[i] = y
        · subst e
          have hn : O[i] ∉ O.erase O[i] := fun h2 => by
            rw [hs.nodup.mem_erase_iff] at h2
            exact h2.1 rfl
          have hlt := hs.lt _ hxm
          rw [if_neg hn, if_neg (by omega), if_pos hxm]
          simp
        · rw [show (O[i] == y) = false by simpa using e]
          have hiff : y ∈ O.erase O[i] ↔ y ∈ O := List.mem_erase_of_ne (fun e2 => e e2.symm)
          simp only [hiff]
          simp
      · rw [rankG, if_pos hxm, ahead_sorted _ O hs.ord hxm, hix, ih.2.2, hi, Nat.mul_comm]
        exact Nat.div_add_mod _ _
    · rw [unrG, dif_neg h]
      have hge : O.length ≤ r / ways (m - j) (O.length - 1) := by omega
      have hmul : O.length * ways (m - j) (O.length - 1) ≤ r := (Nat.le_div_iff_mul_le hwp).1 hge
      have hle := hs.le
      have hlt : j < m := by
        by_cases e : j < m
        · exact e
        · have e2 : m - j = 0 := by omega
          rw [e2] at hr hmul
          obtain ⟨o, ho⟩ : ∃ o, O.length = o + 1 := ⟨O.length - 1, by omega⟩
          rw [ho, ways_end] at hr
          rw [ho] at hmul
          omega
      obtain ⟨l, hl⟩ : ∃ l, m - j = l + 1 := ⟨m - j - 1, by omega⟩
      have hl2 : m - (j + 1) = l := by omega
      have hgo := ways_go l O.length
      rw [hl] at hr hmul ⊢
      have ih := unr_ok m d (O ++ [97 + (j : Int)]) (j + 1) (r - O.length * ways (l + 1) (O.length - 1)) (hs.new hlt) (by simp; omega) (by
        rw [hl2, List.length_append, List.length_singleton]
        omega)
      have hnx : (97 + (j : Int)) ∉ O := fun h2 => by
        have := hs.lt _ h2
        omega
      refine ⟨⟨by rw [runL_new]; exact ih.1.run, fun y => ?_⟩, by rw [List.length_cons, ih.2.1], ?_⟩
      · rw [List.count_cons, ih.1.cnt y]
        by_cases e : y = 97 + (j : Int)
        · subst e
          rw [if_pos (show (97 + (j : Int)) ∈ O ++ [97 + (j : Int)] by simp), if_neg hnx, if_pos (show 97 + (j : Int) ≤ 97 + (j : Int) ∧ 97 + (j : Int) < 97 + (m : Int) from ⟨by omega, by omega⟩)]
          simp
        · have e2 : ((97 + (j : Int)) == y) = false := by simpa using fun h => e h.symm
          have hiff : y ∈ O ++ [97 + (j : Int)] ↔ y ∈ O := by simp [e]
          rw [e2]
          simp only [hiff]
          by_cases ho : y ∈ O
          · rw [if_pos ho, if_pos ho]; rfl
          · rw [if_neg ho, if_neg ho]
            by_cases h3 : 97 + (j : Int) ≤ y ∧ y < 97 + (m : Int)
            · rw [if_pos h3, if_pos ⟨by omega, h3.2⟩]; rfl
            · rw [if_neg h3, if_neg (fun h4 => h3 ⟨by omega, h4.2⟩)]; rfl
      · rw [rankG, if_neg hnx, ahead_all _ O hs.lt, hl, ih.2.2]
        omega
/-- A loop is the one with its rank. -/
theorem rank_ok (m : Nat) : ∀ (w : List Int) (d : Nat) (O : List Int) (j : Nat), StG m O j → O.length + 2 * (m - j) = d → w.length = d → RestG m O j w →
    unrG m d O j (rankG m O j w) = w ∧ rankG m O j w < ways (m - j) O.length
  | [], d, O, j, hs, hd, hw, hr => by
    obtain rfl : d = 0 := by simpa using hw.symm
    have h0 : O = [] := List.length_eq_zero_iff.1 (by omega)
    subst h0
    exact ⟨rfl, by rw [rankG]; exact ways_pos _ _⟩
  | x :: r, d, O, j, hs, hd, hw, hr => by
    obtain ⟨d, rfl⟩ : ∃ e, d = e + 1 := ⟨d - 1, by simp at hw; omega⟩
    have hwp := ways_pos (m - j) (O.length - 1)
    have hle := hs.le
    have hcx := hr.cnt x
    rw [List.count_cons_self] at hcx
    by_cases hx : x ∈ O
    · have hxa := hs.sub x hx
      have hil := List.idxOf_lt_length_of_mem hx
      have hel : (O.erase x).length = O.length - 1 := List.length_erase_of_mem hx
      have hlt := hs.lt x hx
      have ih := rank_ok m r d (O.erase x) j (hs.erase x) (by omega) (by simpa using hw) ⟨by rw [← runL_in hxa]; exact hr.run, fun y => by
        have hcy := hr.cnt y
        rw [List.count_cons] at hcy
        by_cases e : x = y
        · subst e
          rw [if_pos hx] at hcx
          have hn : x ∉ O.erase x := fun h2 => by
            rw [hs.nodup.mem_erase_iff] at h2
            exact h2.1 rfl
          rw [if_neg hn, if_neg (by omega)]
          omega
        · rw [show (x == y) = false by simpa using e] at hcy
          have hiff : y ∈ O.erase x ↔ y ∈ O := List.mem_erase_of_ne (fun e2 => e e2.symm)
          simp only [hiff]
          simpa using hcy⟩
      rw [hel] at ih
      rw [rankG, if_pos hx, ahead_sorted x O hs.ord hx]
      obtain ⟨z, hz⟩ : ∃ z, z = rankG m (O.erase x) j r := ⟨_, rfl⟩
      rw [← hz] at ih ⊢
      have hdv : (O.idxOf x * ways (m - j) (O.length - 1) + z) / ways (m - j) (O.length - 1) = O.idxOf x := by
        rw [Nat.mul_comm, Nat.mul_add_div hwp, Nat.div_eq_of_lt ih.2, Nat.add_zero]
      have hmd : (O.idxOf x * ways (m - j) (O.length - 1) + z) % ways (m - j) (O.length - 1) = z := by
        rw [Nat.mul_comm, Nat.mul_add_mod, Nat.mod_eq_of_lt ih.2]
      refine ⟨?_, ?_⟩
      · rw [unrG, dif_pos (by rw [hdv]; exact hil), hmd]
        simp only [hdv]
        rw [List.getElem_idxOf hil, eraseIdx_getElem hs.nodup _ hil, List.getElem_idxOf hil, ih.1]
      · have h1 : (O.idxOf x + 1) * ways (m - j) (O.length - 1) ≤ O.length * ways (m - j) (O.length - 1) := Nat.mul_le_mul_right _ hil
        rw [Nat.add_mul, Nat.one_mul] at h1
        have h2 : O.length * ways (m - j) (O.length - 1) ≤ ways (m - j) O.length := by
          cases hm : m - j with
          | zero =>
            obtain ⟨o, ho⟩ : ∃ o, O.length = o + 1 := ⟨O.length - 1, by omega⟩
            rw [ho, ways_end]
            exact Nat.le_refl _
          | succ l => rw [ways_go l O.length]; omega
        omega
    · rw [if_neg hx] at hcx
      have hx3 : 97 + (j : Int) ≤ x ∧ x < 97 + (m : Int) := by
        by_cases h3 : 97 + (j : Int) ≤ x ∧ x < 97 + (m : Int)
        · exact h3
        · rw [if_neg h3] at hcx; omega
      have hrun := hr.run
      rw [runL, if_neg (by omega)] at hrun
      have hxe : x = 97 + (j : Int) := by
        by_cases e : x = 97 + (j : Int)
        · exact e
        · rw [if_neg e] at hrun; cases hrun
      rw [if_pos hxe] at hrun
      subst hxe
      have hlt : j < m := by omega
      obtain ⟨l, hl⟩ : ∃ l, m - j = l + 1 := ⟨m - j - 1, by omega⟩
      have hl2 : m - (j + 1) = l := by omega
      have hgo := ways_go l O.length
      have ih := rank_ok m r d (O ++ [97 + (j : Int)]) (j + 1) (hs.new hlt) (by simp; omega) (by simpa using hw) ⟨hrun, fun y => by
        have hcy := hr.cnt y
        rw [List.count_cons] at hcy
        by_cases e : y = 97 + (j : Int)
        · subst e
          rw [if_pos hx3] at hcx
          rw [if_pos (by simp)]
          omega
        · have e2 : ((97 + (j : Int)) == y) = false := by simpa using fun h => e h.symm
          have hiff : y ∈ O ++ [97 + (j : Int)] ↔ y ∈ O := by simp [e]
          rw [e2] at hcy
          simp only [hiff]
          by_cases ho : y ∈ O
          · rw [if_pos ho] at hcy ⊢; simpa using hcy
          · rw [if_neg ho] at hcy ⊢
            by_cases h3 : 97 + (j : Int) ≤ y ∧ y < 97 + (m : Int)
            · rw [if_pos h3] at hcy
              rw [if_pos ⟨by omega, h3.2⟩]
              simpa using hcy
            · rw [if_neg h3] at hcy
              rw [if_neg (fun h4 => h3 ⟨by omega, h4.2⟩)]
              simpa using hcy⟩
      rw [hl2, List.length_append, List.length_singleton] at ih
      rw [rankG, if_neg hx, ahead_all _ O hs.lt]
      obtain ⟨z, hz⟩ : ∃ z, z = rankG m (O ++ [97 + (j : Int)]) (j + 1) r := ⟨_, rfl⟩
      rw [← hz] at ih ⊢
      rw [hl]
      rw [hl] at hwp
      have hge : ¬ (O.length * ways (l + 1) (O.length - 1) + z) / ways (l + 1) (O.length - 1) < O.length := by
        have := (Nat.le_div_iff_mul_le hwp).2 (Nat.le_add_right (O.length * ways (l + 1) (O.length - 1)) z)
        omega
      refine ⟨?_, by omega⟩
      rw [unrG]
      simp only [hl]
      rw [dif_neg hge, Nat.add_sub_cancel_left, ih.1]
theorem rest_loop {w : List Int} {m : Nat} (h : Loop w m) : RestG m [] 0 w := by
  refine ⟨h.run, fun x => ?_⟩
  rw [if_neg (by simp)]
  by_cases hx : 97 + ((0 : Nat) : Int) ≤ x ∧ x < 97 + (m : Int)
  · rw [if_pos hx]
    exact h.cnt (by omega) hx.2
  · rw [if_neg hx]
    refine List.count_eq_zero.2 (fun hm => hx ?_)
    have := h.lo x hm
    have := h.hi x hm
    omega
theorem loop_rest {w : List Int} {m : Nat} (hm : m ≤ 8) (hl : w.length = 2 * m) (h : RestG m [] 0 w) : Loop w m := by
  have hc := fun x => h.cnt x
  simp only [List.not_mem_nil, if_false] at hc
  have hin : ∀ x ∈ w, 97 ≤ x ∧ x < 97 + (m : Int) := fun x hx => by
    have h1 := hc x
    have h2 : 0 < w.count x := List.count_pos_iff.2 hx
    by_cases h3 : 97 + ((0 : Nat) : Int) ≤ x ∧ x < 97 + (m : Int)
    · exact ⟨by omega, h3.2⟩
    · rw [if_neg h3] at h1; omega
  exact ⟨hl, hm, h.run, fun x hx => (hin x hx).1, fun x hx => (hin x hx).2, fun i hi => by rw [hc, if_pos ⟨by omega, by omega⟩]⟩
theorem st_nil (m : Nat) : StG m [] 0 := ⟨by simp, by simp, by omega⟩
/-- The loop with a rank. -/
def loopN (m r : Nat) : List Int := unrG m (2 * m) [] 0 r
theorem loopN_loop {m r : Nat} (hm : m ≤ 8) (hr : r < ways m 0) : Loop (loopN m r) m ∧ rankG m [] 0 (loopN m r) = r := by
  have h := unr_ok m (2 * m) [] 0 r (st_nil m) (by simp) (by simpa using hr)
  exact ⟨loop_rest hm h.2.1 h.1, h.2.2⟩
theorem loopN_rank {w : List Int} {m : Nat} (h : Loop w m) : loopN m (rankG m [] 0 w) = w ∧ rankG m [] 0 w < ways m 0 := by
  have e := rank_ok m w (2 * m) [] 0 (st_nil m) (by simp) h.len (rest_loop h)
  exact ⟨e.1, by simpa using e.2⟩
/-- Loops come in order. -/
theorem unr_lt (m : Nat) : ∀ (d : Nat) (O : List Int) (j r s : Nat), StG m O j → O.length + 2 * (m - j) = d → r < s → s < ways (m - j) O.length → unrG m d O j r < unrG m d O j s
  | 0, O, j, r, s, hs, hd, hrs, hr => by
    have h0 : O = [] := List.length_eq_zero_iff.1 (by omega)
    subst h0
    have hle := hs.le
    rw [show m - j = 0 by omega, List.length_nil, ways_00] at hr
    omega
  | d + 1, O, j, r, s, hs, hd, hrs, hr => by
    have hwp := ways_pos (m - j) (O.length - 1)
    have hle := hs.le
    have hdm : r / ways (m - j) (O.length - 1) ≤ s / ways (m - j) (O.length - 1) := Nat.div_le_div_right (by omega)
    rw [unrG, unrG]
    by_cases h : s / ways (m - j) (O.length - 1) < O.length
    · rw [dif_pos (Nat.lt_of_le_of_lt hdm h), dif_pos h]
      by_cases e : r / ways (m - j) (O.length - 1) = s / ways (m - j) (O.length - 1)
      · have hr1 := Nat.div_add_mod r (ways (m - j) (O.length - 1))
        have hs1 := Nat.div_add_mod s (ways (m - j) (O.length - 1))
        rw [e] at hr1
        simp only [e]
        rw [eraseIdx_getElem hs.nodup _ h]
        have hel : (O.erase O[s / ways (m - j) (O.length - 1)]).length = O.length - 1 := List.length_erase_of_mem (List.getElem_mem h)
        have hO : 0 < O.length := Nat.lt_of_le_of_lt (Nat.zero_le _) h
        have hmm : r % ways (m - j) (O.length - 1) < s % ways (m - j) (O.length - 1) := by
          generalize ways (m - j) (O.length - 1) * (s / ways (m - j) (O.length - 1)) = z at hr1 hs1
          omega
        refine List.cons_lt_cons_iff.2 (.inr ⟨rfl, unr_lt m d _ j _ _ (hs.erase _) (by omega) hmm (by rw [hel]; exact Nat.mod_lt _ hwp)⟩)
      · exact List.cons_lt_cons_iff.2 (.inl (List.pairwise_iff_getElem.1 hs.ord _ _ (Nat.lt_of_le_of_lt hdm h) h (Nat.lt_of_le_of_ne hdm e)))
    · by_cases h1 : r / ways (m - j) (O.length - 1) < O.length
      · rw [dif_pos h1, dif_neg h]
        exact List.cons_lt_cons_iff.2 (.inl (hs.lt _ (List.getElem_mem h1)))
      · rw [dif_neg h1, dif_neg h]
        have hmul : O.length * ways (m - j) (O.length - 1) ≤ r := (Nat.le_div_iff_mul_le hwp).1 (by omega)
        have hlt : j < m := by
          by_cases e : j < m
          · exact e
          · have e2 : m - j = 0 := by omega
            rw [e2] at hr hmul
            obtain ⟨o, ho⟩ : ∃ o, O.length = o + 1 := ⟨O.length - 1, by omega⟩
            rw [ho, ways_end] at hr
            rw [ho] at hmul
            omega
        obtain ⟨l, hl⟩ : ∃ l, m - j = l + 1 := ⟨m - j - 1, by omega⟩
        have hl2 : m - (j + 1) = l := by omega
        have hgo := ways_go l O.length
        rw [hl] at hr hmul ⊢
        refine List.cons_lt_cons_iff.2 (.inr ⟨rfl, unr_lt m d _ (j + 1) _ _ (hs.new hlt) (by simp; omega) (by omega) ?_⟩)
        rw [hl2, List.length_append, List.length_singleton]
        omega
theorem loopN_lt {m r s : Nat} (hrs : r < s) (hs : s < ways m 0) : loopN m r < loopN m s := unr_lt m (2 * m) [] 0 r s (st_nil m) (by simp) hrs (by simpa using hs)
end Go.Proofs.YtcgoaipbfnhjhaaGreatDoor.M

/- A text of one byte. -/
namespace Go.Proofs.YtcgoaipbfnhjhaaGreatDoor.M
open Go.RowKit Go.Proofs.YtcgoaipbfnhjhaaGreatDoorW.PrintWords
set_option linter.unusedVariables false
set_option linter.unusedSimpArgs false

theorem head_byte (s : ByteArray) (x : Int) (h : bytesOf s = [x]) : s.data.toList.length = 1 ∧ s.data.toList.headD 0 = x.toNat.toUInt8 := by
  unfold bytesOf at h
  match hl : s.data.toList, h with
  | [b], h =>
    simp at h
    subst h
    simp
end Go.Proofs.YtcgoaipbfnhjhaaGreatDoor.M

/- The two places of a letter in a text: the program's way and the reference's. -/
namespace Go.Proofs.YtcgoaipbfnhjhaaGreatDoor.M
open Go.RowKit Go.Proofs.YtcgoaipbfnhjhaaGreatDoorW.PrintWords Go.Proofs.YtcgoaipbfnhjhaaGreatDoor.Pr
set_option linter.unusedVariables false
set_option linter.unusedSimpArgs false

/-- The first and the last place of a letter, from place i on. -/
def plcL (x : Int) : List Int → Int → Int × Int → Int × Int
  | [], _, a => a
  | y :: r, i, a => plcL x r (i + 1) (if y = x then (if a.1 < 0 then i else a.1, i) else a)
theorem plc_skip (x : Int) : ∀ (l s : List Int) (i : Int) (a : Int × Int), x ∉ l → plcL x (l ++ s) i a = plcL x s (i + l.length) a
  | [], s, i, a, _ => by simp
  | y :: l, s, i, a, h => by
    simp only [List.mem_cons, not_or] at h
    rw [List.cons_append, plcL, if_neg (fun e => h.1 e.symm), plc_skip x l s (i + 1) a h.2, List.length_cons]
    congr 1
    omega
theorem plc_parts {x : Int} {p q r : List Int} (h1 : x ∉ p) (h2 : x ∉ q) (h3 : x ∉ r) : plcL x (p ++ x :: (q ++ x :: r)) 0 (-1, -1) = ((p.length : Int), (p.length : Int) + 1 + (q.length : Int)) := by
  have e := plc_skip x r [] ((p.length : Int) + 1 + (q.length : Int) + 1) ((p.length : Int), (p.length : Int) + 1 + (q.length : Int)) h3
  rw [List.append_nil] at e
  rw [plc_skip x p _ 0 _ h1, show (0 : Int) + (p.length : Int) = p.length by omega, plcL, if_pos rfl, if_pos (show ((-1, -1) : Int × Int).1 < 0 by decide), plc_skip x q _ _ _ h2, plcL, if_pos rfl, if_neg (show ¬ (((p.length : Int), (p.length : Int)) : Int × Int).1 < 0 by dsimp only; omega), e]
  rfl
theorem loPlaces_ev (w : ByteArray) (c : Int) (hw : w.size ≤ 1000000) : Ev (fun k => spec_loPlaces.f k w c) (plcL c (bytesOf w) 0 (-1, -1)) := by
  unfold spec_loPlaces.f
  have hlen := bytesOf_length w
  have e := Ev.scan0 (fun k i (acc : Int × Int) => spec_loPlaces.l0 k w c acc.1 acc.2 i) (bytesOf w) (fun rest acc => plcL c rest (((bytesOf w).length : Int) - (rest.length : Int)) acc) (fun _ _ => True)
    (fun acc _ => by
      refine Ev.step (fun k => by rw [spec_loPlaces.l0]) ?_
      exact Ev.neg (by omega) (Ev.val rfl))
    (fun i hi acc _ => by
      have hx := bytesOf_get w i hi
      have hdl : ((bytesOf w).drop (i + 1)).length = (bytesOf w).length - (i + 1) := List.length_drop
      generalize (bytesOf w)[i] = y at hx ⊢
      refine .inl ⟨if y = c then (if acc.1 < 0 then (i : Int) else acc.1, (i : Int)) else acc, trivial, ?_, fun r hr => ?_⟩
      · rw [plcL, List.length_cons, hdl]
        rw [show ((bytesOf w).length : Int) - (((bytesOf w).length - (i + 1) + 1 : Nat) : Int) = (i : Int) by omega]
        rw [show ((bytesOf w).length : Int) - (((bytesOf w).length - (i + 1) : Nat) : Int) = (i : Int) + 1 by omega]
      · refine Ev.step (fun k => by rw [spec_loPlaces.l0]) ?_
        refine Ev.pos (by omega) (Ev.pos (by omega) ?_)
        rw [hx, w64 (x := (i : Int) + 1) (by omega) (by omega)]
        by_cases e : y = c
        · rw [if_pos e] at hr
          refine Ev.pos e ?_
          by_cases h0 : acc.1 < 0
          · rw [if_pos h0] at hr; exact Ev.pos h0 hr
          · rw [if_neg h0] at hr; exact Ev.neg h0 hr
        · rw [if_neg e] at hr; exact Ev.neg e hr)
    (-1, -1) trivial
  rw [show ((bytesOf w).length : Int) - ((bytesOf w).length : Int) = 0 by omega] at e
  exact e
theorem byte_at (s : ByteArray) (j : Nat) (h : j < (bytesOf s).length) : ((s.data[j]!).toNat : Int) = (bytesOf s)[j] := by
  have hl := bytesOf_length s
  have h2 : j < s.data.size := by show j < s.size; omega
  have e : (bytesOf s)[j]? = (s.data.toList[j]?).map fun b => (b.toNat : Int) := by
    unfold bytesOf
    rw [List.getElem?_map]
  rw [List.getElem?_eq_getElem h, Array.getElem?_toList, Array.getElem?_eq_getElem h2] at e
  rw [getElem!_pos s.data j h2]
  exact (Option.some.inj e).symm
theorem last_parts {s : ByteArray} {x : Int} {p q r : List Int} (h : bytesOf s = p ++ x :: (q ++ x :: r)) (h3 : x ∉ r) : Lib.lastIndexByte s x = (p.length : Int) + 1 + (q.length : Int) := by
  have hl := bytesOf_length s
  have hn : (bytesOf s).length = p.length + 1 + q.length + 1 + r.length := by rw [h]; simp; omega
  have hq : ∀ i, p.length + 1 + q.length ≤ i → (bytesOf s)[i]? = (x :: r)[i - (p.length + 1 + q.length)]? := fun i hi => by
    rw [h, List.getElem?_append_right (by omega)]
    obtain ⟨d, rfl⟩ : ∃ d, i = p.length + 1 + q.length + d := ⟨i - (p.length + 1 + q.length), by omega⟩
    rw [show p.length + 1 + q.length + d - p.length = (q.length + d) + 1 by omega, List.getElem?_cons_succ, List.getElem?_append_right (by omega)]
    congr 1
    omega
  have hat : (bytesOf s)[p.length + 1 + q.length]'(by omega) = x := by
    have e := hq (p.length + 1 + q.length) (Nat.le_refl _)
    rw [Nat.sub_self, List.getElem?_cons_zero] at e
    exact (List.getElem?_eq_some_iff.1 e).2
  unfold Lib.lastIndexByte
  rcases Lib.lastIdx_spec s x s.size with ⟨_, h2⟩ | ⟨i, h1, h2, h4, h5⟩
  · exfalso
    exact h2 (p.length + 1 + q.length) (by omega) (by rw [byte_at s _ (by omega)]; exact hat)
  · have hge : ¬ i < p.length + 1 + q.length := fun hlt => h5 (p.length + 1 + q.length) hlt (by omega) (by rw [byte_at s _ (by omega)]; exact hat)
    have hle : ¬ p.length + 1 + q.length < i := fun hlt => by
      rw [byte_at s i (by omega)] at h4
      have e := hq i (by omega)
      obtain ⟨d, hd⟩ : ∃ d, i - (p.length + 1 + q.length) = d + 1 := ⟨i - (p.length + 1 + q.length) - 1, by omega⟩
      rw [hd, List.getElem?_cons_succ, List.getElem?_eq_getElem (by omega), h4] at e
      exact h3 (List.mem_of_getElem? e.symm)
    omega
end Go.Proofs.YtcgoaipbfnhjhaaGreatDoor.M

/- Interlaced letters: the program and the reference tell the same. -/
namespace Go.Proofs.YtcgoaipbfnhjhaaGreatDoor.M
open Go.RowKit Go.Proofs.YtcgoaipbfnhjhaaGreatDoorW.PrintWords Go.Proofs.YtcgoaipbfnhjhaaGreatDoor.Pr
set_option linter.unusedVariables false
set_option linter.unusedSimpArgs false

theorem encode_byte {c : Int} (h0 : 0 ≤ c) (h1 : c < 128) : bytesOf (Utf8.encode (wrap32 c)) = [c] := by
  rw [show wrap32 c = c by unfold wrap32; omega, encode_small h0 h1]
  unfold bytesOf
  simp
  omega
theorem lac_parts {w : ByteArray} {m : Nat} (h : M.Loop (bytesOf w) m) {a : Int} (h1 : 97 ≤ a) (h2 : a < 97 + (m : Int)) :
    ∃ p q r, bytesOf w = p ++ a :: (q ++ a :: r) ∧ a ∉ p ∧ a ∉ q ∧ a ∉ r ∧ w.size = p.length + 1 + q.length + 1 + r.length ∧ w.size ≤ 16 := by
  obtain ⟨p, q, r, e, n1, n2, n3⟩ := two_parts a _ (h.cnt h1 h2)
  have hl := bytesOf_length w
  have hlen := h.len
  have hf := h.few
  have hz : w.size ≤ 16 := by omega
  rw [e] at hl
  simp only [List.length_append, List.length_cons] at hl
  exact ⟨p, q, r, e, n1, n2, n3, by omega, hz⟩
theorem interlaced_eq {w : ByteArray} {m : Nat} (h : M.Loop (bytesOf w) m) {a b : Int} (h1 : 97 ≤ a) (h2 : a < 97 + (m : Int)) (h3 : 97 ≤ b) (h4 : b < 97 + (m : Int)) :
    impl_interlaced.f w a b = some (lacedL (bytesOf w) a b) := by
  obtain ⟨p, q, r, e, n1, n2, n3, hs, hz⟩ := lac_parts h h1 h2
  have hf := h.few
  unfold impl_interlaced.f strings_IndexByte.f strings_LastIndexByte.f
  rw [indexB_eq w a (by omega) (by omega), last_parts e n3, if_pos (by omega)]
  have hix : ixL (bytesOf w) a = p.length := by
    unfold ixL
    rw [e, if_pos (by simp), idx_parts n1]
  rw [hix, Option.bind_some, Option.bind_some, w64 (x := (p.length : Int) + 1) (by omega) (by omega), if_pos (by omega), if_pos (by omega), if_pos (by omega)]
  have hex : bytesOf (w.extract ((p.length : Int) + 1).toNat ((p.length : Int) + 1 + (q.length : Int)).toNat) = q := by
    rw [bytesOf_extract, e, show ((p.length : Int) + 1).toNat = (p ++ [a]).length by (simp <;> omega), show ((p.length : Int) + 1 + (q.length : Int)).toNat = (p ++ [a] ++ q).length by (simp <;> omega)]
    rw [show p ++ a :: (q ++ a :: r) = (p ++ [a] ++ q) ++ (a :: r) by simp, List.take_left, List.drop_append_of_le_length (by simp)]
    simp
  have hb := head_byte _ _ (encode_byte (c := b) (by omega) (by omega))
  unfold strings_Count.f
  rw [if_pos hb.1, hb.2, count_eq _ b (by omega) (by omega), hex, Option.bind_some]
  congr 1
  unfold lacedL
  rw [e, mid_parts n1 n2, Bool.eq_iff_iff]
  simp
  omega
theorem loLaced_ev {w : ByteArray} {m : Nat} (h : M.Loop (bytesOf w) m) {a b : Int} (h1 : 97 ≤ a) (h2 : a < 97 + (m : Int)) :
    Ev (fun k => spec_loLaced.f k w a b) (lacedL (bytesOf w) a b) := by
  obtain ⟨p, q, r, e, n1, n2, n3, hs, hz⟩ := lac_parts h h1 h2
  unfold spec_loLaced.f
  refine Ev.bindk (loPlaces_ev w a (by omega)) ?_
  rw [e, plc_parts n1 n2 n3]
  dsimp only
  rw [w64 (x := (p.length : Int) + 1) (by omega) (by omega)]
  have hl := bytesOf_length w
  have hq : ∀ j (hj : j < q.length), bt w ((p.length : Int) + 1 + (j : Int)) = q[j] := fun j hj => by
    have hlt : p.length + 1 + j < (bytesOf w).length := by omega
    have e1 := bytesOf_get w (p.length + 1 + j) hlt
    rw [show (((p.length + 1 + j : Nat)) : Int) = (p.length : Int) + 1 + (j : Int) by omega] at e1
    rw [e1]
    have e2 : (bytesOf w)[p.length + 1 + j]? = q[j]? := by
      rw [e, List.getElem?_append_right (by omega), show p.length + 1 + j - p.length = j + 1 by omega, List.getElem?_cons_succ, List.getElem?_append_left hj]
    rw [List.getElem?_eq_getElem hlt, List.getElem?_eq_getElem hj] at e2
    exact Option.some.inj e2
  have ev := Ev.scan0 (fun k i (t : Int) => spec_loLaced.l0 k w a b ((p.length : Int) + 1 + (q.length : Int)) t ((p.length : Int) + 1 + i)) q
    (fun rest t => if a = b then false else (t + ((rest.count b : Nat) : Int) == 1)) (fun i t => 0 ≤ t ∧ t ≤ i)
    (fun t ht => by
      refine Ev.step (fun k => by rw [spec_loLaced.l0]) ?_
      refine Ev.neg (by omega) ?_
      by_cases hab : a = b
      · refine Ev.pos hab (Ev.val ?_)
        rw [if_pos hab]
      · refine Ev.neg hab (Ev.val ?_)
        rw [if_neg hab, List.count_nil, Int.natCast_zero, Int.add_zero])
    (fun i hi t ht => by
      have hx := hq i hi
      generalize q[i] = y at hx ⊢
      by_cases hy : y = b
      · refine .inl ⟨t + 1, by omega, ?_, fun r' hr => ?_⟩
        · subst hy
          rw [List.count_cons_self]
          rw [show t + (((q.drop (i + 1)).count y + 1 : Nat) : Int) = t + 1 + (((q.drop (i + 1)).count y : Nat) : Int) by omega]
        · refine Ev.step (fun k => by rw [spec_loLaced.l0]) ?_
          refine Ev.pos (by omega) (Ev.pos (by omega) (Ev.pos (by omega) (Ev.pos (by rw [hx]; exact hy) ?_)))
          rw [w64 (x := t + 1) (by omega) (by omega), w64 (x := (p.length : Int) + 1 + (i : Int) + 1) (by omega) (by omega)]
          rw [show (p.length : Int) + 1 + (i : Int) + 1 = (p.length : Int) + 1 + ((i : Int) + 1) by omega]
          exact hr
      · refine .inl ⟨t, by omega, ?_, fun r' hr => ?_⟩
        · rw [List.count_cons, show (y == b) = false by simpa using hy]
          simp only [Bool.false_eq_true, if_false, Nat.add_zero]
        · refine Ev.step (fun k => by rw [spec_loLaced.l0]) ?_
          refine Ev.pos (by omega) (Ev.pos (by omega) (Ev.pos (by omega) (Ev.neg (by rw [hx]; exact hy) ?_)))
          rw [w64 (x := (p.length : Int) + 1 + (i : Int) + 1) (by omega) (by omega)]
          rw [show (p.length : Int) + 1 + (i : Int) + 1 = (p.length : Int) + 1 + ((i : Int) + 1) by omega]
          exact hr)
    0 ⟨by omega, by omega⟩
  have e3 : (if a = b then false else ((0 : Int) + ((q.count b : Nat) : Int) == 1)) = lacedL (p ++ a :: (q ++ a :: r)) a b := by
    unfold lacedL
    rw [mid_parts n1 n2]
    by_cases hab : a = b
    · rw [if_pos hab]
      subst hab
      rw [List.count_eq_zero.2 n2]
      rfl
    · rw [if_neg hab, Bool.eq_iff_iff]
      simp
      omega
  rw [e3] at ev
  rw [Int.add_zero] at ev
  exact ev

theorem lettP_byte (p : Int → Bool) : ∀ (d : Nat) (x : Int), 0 ≤ x → x + d ≤ 256 → ∀ y ∈ lettP p x d, 0 ≤ y ∧ y < 256
  | 0, _, _, _, y, hy => by simp [lettP] at hy
  | d + 1, x, h0, h1, y, hy => by
    unfold lettP at hy
    split at hy
    · rcases List.mem_cons.1 hy with e | hy
      · omega
      · exact lettP_byte p d (x + 1) (by omega) (by omega) y hy
    · exact lettP_byte p d (x + 1) (by omega) (by omega) y hy
theorem with_eq {w : ByteArray} {m : Nat} (h : M.Loop (bytesOf w) m) {a : Int} (h1 : 97 ≤ a) (h2 : a < 97 + (m : Int)) {c : Int} (h3 : 97 ≤ c) (h4 : c < 97 + (m : Int)) : withB w a c = lacedL (bytesOf w) a c := by
  unfold withB
  rw [interlaced_eq h h1 h2 h3 h4]
  by_cases e : c = a
  · subst e
    rw [laced_self (h.cnt h1 h2)]
    simp
  · rw [show (c != a) = true by simpa using e]
    rfl
theorem interlacedWith_eq {w : ByteArray} {m : Nat} (h : M.Loop (bytesOf w) m) {a : Int} (h1 : 97 ≤ a) (h2 : a < 97 + (m : Int)) : okWith w a = true ∧ impl_interlacedWith.f w a = some (strOfNums (withL (bytesOf w) m a)) := by
  have hl := bytesOf_length w
  have hlen := h.len
  have hf := h.few
  have hm : w.size / 2 = m := by omega
  have hok : okWith w a = true := by
    unfold okWith
    rw [Bool.and_eq_true, decide_eq_true_eq, List.all_eq_true, hm]
    refine ⟨by omega, fun c hc => ?_⟩
    have := (mem_abc m c).1 hc
    rw [interlaced_eq h h1 h2 this.1 this.2]
    rfl
  refine ⟨hok, ?_⟩
  unfold impl_interlacedWith.f
  rw [if_pos hok, hm]
  unfold withL
  rw [lettP_congr (withB w a) _ m 97 (fun y h3 h4 => with_eq h h1 h2 h3 h4)]
theorem loWith_l0 {w : ByteArray} {m : Nat} (h : M.Loop (bytesOf w) m) {a : Int} (h1 : 97 ≤ a) (h2 : a < 97 + (m : Int)) : ∀ (d i : Nat) (out : ByteArray), i + d = m → out.size ≤ i →
    Ev (fun k => spec_loWith.l0 k w a out (i : Int)) (strOfNums (bytesOf out ++ lettP (fun c => lacedL (bytesOf w) a c) (97 + (i : Int)) d))
  | 0, i, out, hd, hs => by
    have hl := bytesOf_length w
    have hlen := h.len
    have hf := h.few
    refine Ev.step (fun k => by rw [spec_loWith.l0]) ?_
    rw [w64 (x := (w.size : Int) / 2) (by omega) (by omega)]
    refine Ev.neg (by omega) (Ev.val ?_)
    rw [lettP, List.append_nil, strOf_bytesOf]
  | d + 1, i, out, hd, hs => by
    have hl := bytesOf_length w
    have hlen := h.len
    have hf := h.few
    have e97 : (wrap64 (97 + (i : Int))) % 256 = 97 + (i : Int) := by rw [w64 (by omega) (by omega)]; omega
    have h16 : i < 16 := by omega
    have hsz := abc_size i h16
    refine Ev.step (fun k => by rw [spec_loWith.l0]) ?_
    rw [w64 (x := (w.size : Int) / 2) (by omega) (by omega), e97]
    refine Ev.pos (by omega) (Ev.bindk (loLaced_ev h h1 h2) ?_)
    rw [w64 (x := (i : Int) + 1) (by omega) (by omega), show ((i : Int) + 1).toNat = i + 1 by omega, Int.toNat_natCast, lettP]
    by_cases hy : lacedL (bytesOf w) a (97 + (i : Int)) = true
    · rw [if_pos hy]
      refine Ev.pos hy (Ev.pos (by omega) (Ev.pos (by omega) (Ev.pos (by omega) (Ev.pos ?_ ?_))))
      · unfold abc16 at hsz
        omega
      · have e := loWith_l0 h h1 h2 d (i + 1) (out ++ abc16.extract i (i + 1)) (by omega) (by rw [ByteArray.size_append, hsz]; omega)
        rw [bytesOf_append, abc_one i h16, List.append_assoc] at e
        rw [show (97 : Int) + ((i + 1 : Nat) : Int) = 97 + (i : Int) + 1 by omega, show (((i + 1 : Nat)) : Int) = (i : Int) + 1 by omega] at e
        exact e
    · rw [if_neg hy]
      refine Ev.neg hy ?_
      have e := loWith_l0 h h1 h2 d (i + 1) out (by omega) (by omega)
      rw [show (97 : Int) + ((i + 1 : Nat) : Int) = 97 + (i : Int) + 1 by omega, show (((i + 1 : Nat)) : Int) = (i : Int) + 1 by omega] at e
      exact e
theorem loWith_ev {w : ByteArray} {m : Nat} (h : M.Loop (bytesOf w) m) {a : Int} (h1 : 97 ≤ a) (h2 : a < 97 + (m : Int)) : Ev (fun k => spec_loWith.f k w a) (strOfNums (withL (bytesOf w) m a)) := by
  unfold spec_loWith.f withL
  exact loWith_l0 h h1 h2 m 0 ⟨#[]⟩ (by omega) (by simp [ByteArray.size])
end Go.Proofs.YtcgoaipbfnhjhaaGreatDoor.M

/- The loop with a rank: the program and the reference tell the same. -/
namespace Go.Proofs.YtcgoaipbfnhjhaaGreatDoor.M
open Go.RowKit Go.Proofs.YtcgoaipbfnhjhaaGreatDoor.Pr Go.Proofs.YtcgoaipbfnhjhaaGreatDoorW.PrintWords Go.Proofs.YtcgoaipbfnhjhaaGreatDoorW.PrintLast
set_option linter.unusedVariables false
set_option linter.unusedSimpArgs false

/-- A state of the walk that builds a loop. -/
structure LoS (m : Nat) (out : ByteArray) (O : List Int) (j r d : Nat) : Prop where
  beg : Beg (bytesOf out) O j
  st : StG m O j
  left : O.length + 2 * (m - j) = d
  rk : r < ways (m - j) O.length
section
variable {m : Nat} {out : ByteArray} {O : List Int} {j r d : Nat}
theorem LoS.size (h : LoS m out O j r d) : out.size + d = 2 * m := by
  have h1 := h.beg.len
  have h2 := h.st.le
  have h3 := h.left
  have h4 := h.beg.le
  rw [bytesOf_length] at h1
  omega
theorem LoS.again (h : LoS m out O j r (d + 1)) {out' : ByteArray} {i : Nat} (hi : i < O.length) (e : bytesOf out' = bytesOf out ++ [O[i]]) {r' : Nat} (hr : r' < ways (m - j) (O.length - 1)) : LoS m out' (O.eraseIdx i) j r' d := by
  have hm : O[i] ∈ O := List.getElem_mem hi
  have hel : (O.erase O[i]).length = O.length - 1 := List.length_erase_of_mem hm
  have hl := h.left
  rw [eraseIdx_getElem h.st.nodup i hi]
  exact ⟨by rw [e]; exact h.beg.again hm, h.st.erase _, by omega, by rw [hel]; exact hr⟩
theorem LoS.grow (h : LoS m out O j r (d + 1)) (hge : O.length ≤ r / ways (m - j) (O.length - 1)) : j < m ∧ O.length * ways (m - j) (O.length - 1) ≤ r ∧ r - O.length * ways (m - j) (O.length - 1) < ways (m - j - 1) (O.length + 1) := by
  have hwp := ways_pos (m - j) (O.length - 1)
  have hmul : O.length * ways (m - j) (O.length - 1) ≤ r := (Nat.le_div_iff_mul_le hwp).1 hge
  have hr := h.rk
  have hd := h.left
  have hlt : j < m := by
    by_cases e : j < m
    · exact e
    · have e2 : m - j = 0 := by omega
      rw [e2] at hr hmul
      obtain ⟨o, ho⟩ : ∃ o, O.length = o + 1 := ⟨O.length - 1, by omega⟩
      rw [ho, ways_end] at hr
      rw [ho] at hmul
      omega
  obtain ⟨l, hl⟩ : ∃ l, m - j = l + 1 := ⟨m - j - 1, by omega⟩
  have hgo := ways_go l O.length
  rw [hl] at hr hmul ⊢
  exact ⟨hlt, hmul, by rw [Nat.add_sub_cancel]; omega⟩
theorem LoS.new (h : LoS m out O j r (d + 1)) (hge : O.length ≤ r / ways (m - j) (O.length - 1)) {out' : ByteArray} (e : bytesOf out' = bytesOf out ++ [97 + (j : Int)]) : LoS m out' (O ++ [97 + (j : Int)]) (j + 1) (r - O.length * ways (m - j) (O.length - 1)) d := by
  obtain ⟨h1, h2, h3⟩ := h.grow hge
  have hl := h.left
  exact ⟨by rw [e]; exact h.beg.new, h.st.new h1, by simp; omega, by rw [List.length_append, List.length_singleton, show m - (j + 1) = m - j - 1 by omega]; exact h3⟩
end
theorem rd_app1 {l e : List Int} {i : Nat} (hi : i < l.length) : rd (l ++ e) (i : Int) = l[i] := by
  rw [rd_get (l ++ e) i (by simp; omega), List.getElem_append_left hi]
theorem rd_app2 (l : List Int) (v : Int) : rd (l ++ [v]) (l.length : Int) = v := by
  rw [rd_get (l ++ [v]) l.length (by simp)]
  simp
theorem div_cut {r W i : Nat} (hW : 0 < W) (h1 : i * W ≤ r) (h2 : r < (i + 1) * W) : r / W = i ∧ r % W = r - i * W := by
  have e : r / W = i := by
    have a := (Nat.le_div_iff_mul_le hW).2 h1
    have b := (Nat.div_lt_iff_lt_mul hW).2 h2
    omega
  have h := Nat.div_add_mod r W
  rw [e, Nat.mul_comm] at h
  exact ⟨e, by omega⟩
/-- The program's search among the letters with which a beginning goes on. -/
theorem onw_l1 {m : Nat} {out : ByteArray} {O : List Int} {j r d : Nat} (h : LoS m out O j r (d + 1)) (hm : m ≤ 8) (res : ByteArray)
    (hres : if hh : r / ways (m - j) (O.length - 1) < O.length then ∀ out', bytesOf out' = bytesOf out ++ [O[r / ways (m - j) (O.length - 1)]] → Ev (fun k => impl_loopOfRank.l0 k (m : Int) ((r % ways (m - j) (O.length - 1) : Nat) : Int) out') res
      else ∀ out', bytesOf out' = bytesOf out ++ [97 + (j : Int)] → Ev (fun k => impl_loopOfRank.l0 k (m : Int) ((r - O.length * ways (m - j) (O.length - 1) : Nat) : Int) out') res) :
    ∀ (e i : Nat), i + e = O.length → i * ways (m - j) (O.length - 1) ≤ r →
      Ev (fun k => impl_loopOfRank.l1 k (m : Int) ((r - i * ways (m - j) (O.length - 1) : Nat) : Int) out (O ++ (if j < m then [97 + (j : Int)] else [])) (O.map (fun _ => ((ways (m - j) (O.length - 1) : Nat) : Int)) ++ (if j < m then [((ways (m - j - 1) (O.length + 1) : Nat) : Int)] else [])) (i : Int)) res := by
  have hwp := ways_pos (m - j) (O.length - 1)
  have hsz := h.size
  have hol := h.beg.le
  have hjm := h.st.le
  have hW : ways (m - j) (O.length - 1) ≤ 2027025 := ways_small _ _ (by omega)
  have hr9 : r < 100000000 := by
    have := h.rk
    have h2 : ways (m - j) O.length ≤ 2027025 := ways_small _ _ (by omega)
    omega
  have go : ∀ (c : Int), 97 ≤ c → c < 97 + 8 → ∀ (R : Int) (Q : Prop), bytesOf (out ++ Utf8.encode (wrap32 c)) = bytesOf out ++ [c] ∧ out.size + (Utf8.encode (wrap32 c)).size ≤ 9223372036854775807 := fun c h1 h2 R Q => by
    have e := encode_byte (c := c) (by omega) (by omega)
    have e2 := bytesOf_length (Utf8.encode (wrap32 c))
    rw [e] at e2
    simp at e2
    exact ⟨by rw [bytesOf_append, e], by omega⟩
  intro e
  induction e with
  | zero =>
    intro i hi hmul
    obtain rfl : i = O.length := by omega
    have hge : O.length ≤ r / ways (m - j) (O.length - 1) := (Nat.le_div_iff_mul_le hwp).2 hmul
    obtain ⟨h1, h2, h3⟩ := h.grow hge
    rw [dif_neg (by omega)] at hres
    rw [if_pos h1, if_pos h1]
    obtain ⟨g1, g2⟩ := go (97 + (j : Int)) (by omega) (by omega) 0 True
    have hrd := rd_app2 (O.map (fun _ => ((ways (m - j) (O.length - 1) : Nat) : Int))) ((ways (m - j - 1) (O.length + 1) : Nat) : Int)
    rw [List.length_map] at hrd
    refine Ev.step (fun k => by rw [impl_loopOfRank.l1]) ?_
    rw [hrd, rd_app2 O (97 + (j : Int))]
    refine Ev.pos (by omega) (Ev.pos (by simp <;> omega) (Ev.neg (by omega) (Ev.pos (by simp <;> omega) (Ev.pos g2 (hres _ g1)))))
  | succ e ih =>
    intro i hi hmul
    have hil : i < O.length := by omega
    have hrd := rd_app1 (l := O.map (fun _ => ((ways (m - j) (O.length - 1) : Nat) : Int))) (e := if j < m then [((ways (m - j - 1) (O.length + 1) : Nat) : Int)] else []) (i := i) (by simpa using hil)
    rw [List.getElem_map] at hrd
    refine Ev.step (fun k => by rw [impl_loopOfRank.l1]) ?_
    rw [hrd, rd_app1 (l := O) hil]
    refine Ev.pos (by omega) (Ev.pos (by simp; omega) ?_)
    by_cases hc : (i + 1) * ways (m - j) (O.length - 1) ≤ r
    · have e1 : (i + 1) * ways (m - j) (O.length - 1) = i * ways (m - j) (O.length - 1) + ways (m - j) (O.length - 1) := by rw [Nat.add_mul, Nat.one_mul]
      have ih2 := ih (i + 1) (by omega) hc
      rw [e1] at ih2 hc
      generalize i * ways (m - j) (O.length - 1) = z at *
      refine Ev.pos (by omega) ?_
      rw [w64 (x := ((r - z : Nat) : Int) - ((ways (m - j) (O.length - 1) : Nat) : Int)) (by omega) (by omega), w64 (x := (i : Int) + 1) (by omega) (by omega), show ((r - z : Nat) : Int) - ((ways (m - j) (O.length - 1) : Nat) : Int) = ((r - (z + ways (m - j) (O.length - 1)) : Nat) : Int) by omega]
      exact ih2
    · obtain ⟨c1, c2⟩ := div_cut hwp hmul (by omega)
      rw [dif_pos (by rw [c1]; exact hil), c2] at hres
      simp only [c1] at hres
      have hx := (mem_abc j _).1 (h.st.sub _ (List.getElem_mem hil))
      obtain ⟨g1, g2⟩ := go O[i] (by omega) (by omega) 0 True
      have e1 : (i + 1) * ways (m - j) (O.length - 1) = i * ways (m - j) (O.length - 1) + ways (m - j) (O.length - 1) := by rw [Nat.add_mul, Nat.one_mul]
      rw [e1] at hc
      refine Ev.neg ?_ (Ev.pos (by simp; omega) (Ev.pos g2 (hres _ g1)))
      generalize i * ways (m - j) (O.length - 1) = z at *
      omega
theorem loopOfRank_l0 {m : Nat} (hm : m ≤ 8) : ∀ (d : Nat) (out : ByteArray) (O : List Int) (j r : Nat), LoS m out O j r d → Ev (fun k => impl_loopOfRank.l0 k (m : Int) (r : Int) out) (strOfNums (bytesOf out ++ unrG m d O j r))
  | 0, out, O, j, r, h => by
    have hsz := h.size
    refine Ev.step (fun k => by rw [impl_loopOfRank.l0]) ?_
    rw [w64 (x := 2 * (m : Int)) (by omega) (by omega), unrG, List.append_nil, strOf_bytesOf]
    exact Ev.neg (by omega) (Ev.val rfl)
  | d + 1, out, O, j, r, h => by
    have hsz := h.size
    have hwp := ways_pos (m - j) (O.length - 1)
    have honw : Ev (fun k => impl_onward.f k (m : Int) out) (O ++ (if j < m then [97 + (j : Int)] else []), O.map (fun _ => ((ways (m - j) (O.length - 1) : Nat) : Int)) ++ (if j < m then [((ways (m - j - 1) (O.length + 1) : Nat) : Int)] else [])) := by
      unfold impl_onward.f
      refine Ev.pos ⟨by omega, by omega, by omega⟩ ?_
      rw [Int.toNat_natCast]
      exact onwF_ev m out O j h.beg h.st.le hm
    refine Ev.step (fun k => by rw [impl_loopOfRank.l0]) ?_
    rw [w64 (x := 2 * (m : Int)) (by omega) (by omega)]
    refine Ev.pos (by omega) (Ev.bindk honw ?_)
    have key := onw_l1 h hm (strOfNums (bytesOf out ++ unrG m (d + 1) O j r)) (by
      by_cases hh : r / ways (m - j) (O.length - 1) < O.length
      · rw [dif_pos hh]
        intro out' e
        have ih := loopOfRank_l0 hm d out' _ j _ (h.again hh e (Nat.mod_lt r hwp))
        rw [e, List.append_assoc] at ih
        rw [unrG, dif_pos hh]
        exact ih
      · rw [dif_neg hh]
        intro out' e
        have ih := loopOfRank_l0 hm d out' _ (j + 1) _ (h.new (by omega) e)
        rw [e, List.append_assoc] at ih
        rw [unrG, dif_neg hh]
        exact ih) O.length 0 (by omega) (by omega)
    rw [Nat.zero_mul, Nat.sub_zero] at key
    exact key
theorem los_nil {m r : Nat} (hr : r < ways m 0) : LoS m ⟨#[]⟩ [] 0 r (2 * m) := ⟨beg_nil, st_nil m, by simp, by simpa using hr⟩
/-- The loop with a rank, as a text. -/
def loopS (m r : Nat) : ByteArray := strOfNums (loopN m r)
theorem loopOfRank_ev {m r : Nat} (hm : m ≤ 8) (hr : r < ways m 0) : Ev (fun k => impl_loopOfRank.f k (m : Int) (r : Int)) (loopS m r) := by
  unfold impl_loopOfRank.f
  exact loopOfRank_l0 hm (2 * m) ⟨#[]⟩ [] 0 r (los_nil hr)
/-- The reference's search. -/
theorem ran_l1 {m : Nat} {out opn : ByteArray} {O : List Int} {j r d : Nat} (hO : bytesOf opn = O) (h : LoS m out O j r (d + 1)) (hm : m ≤ 8) (res : ByteArray)
    (hres : if hh : r / ways (m - j) (O.length - 1) < O.length then ∀ out' opn', bytesOf out' = bytesOf out ++ [O[r / ways (m - j) (O.length - 1)]] → bytesOf opn' = O.eraseIdx (r / ways (m - j) (O.length - 1)) → Ev (fun k => spec_loRanked.l0 k (m : Int) ((r % ways (m - j) (O.length - 1) : Nat) : Int) out' opn' (j : Int)) res
      else ∀ out' opn', bytesOf out' = bytesOf out ++ [97 + (j : Int)] → bytesOf opn' = O ++ [97 + (j : Int)] → Ev (fun k => spec_loRanked.l0 k (m : Int) ((r - O.length * ways (m - j) (O.length - 1) : Nat) : Int) out' opn' ((j : Int) + 1)) res) :
    ∀ (e i : Nat), i + e = O.length → i * ways (m - j) (O.length - 1) ≤ r →
      Ev (fun k => spec_loRanked.l1 k (m : Int) ((r - i * ways (m - j) (O.length - 1) : Nat) : Int) out opn (j : Int) false (i : Int)) res := by
  have hwp := ways_pos (m - j) (O.length - 1)
  have hsz := h.size
  have hol := h.beg.le
  have hjm := h.st.le
  have hlo := bytesOf_length opn
  have hW : ways (m - j) (O.length - 1) ≤ 2027025 := ways_small _ _ (by omega)
  have hr9 : r < 100000000 := by
    have := h.rk
    have h2 : ways (m - j) O.length ≤ 2027025 := ways_small _ _ (by omega)
    omega
  rw [hO] at hlo
  intro e
  induction e with
  | zero =>
    intro i hi hmul
    obtain rfl : i = O.length := by omega
    have hge : O.length ≤ r / ways (m - j) (O.length - 1) := (Nat.le_div_iff_mul_le hwp).2 hmul
    obtain ⟨h1, h2, h3⟩ := h.grow hge
    rw [dif_neg (by omega)] at hres
    have hone : bytesOf ((⟨#[97, 98, 99, 100, 101, 102, 103, 104, 105, 106, 107, 108, 109, 110, 111, 112]⟩ : ByteArray).extract j (j + 1)) = [97 + (j : Int)] := abc_one j (by omega)
    have hsz1 : ((⟨#[97, 98, 99, 100, 101, 102, 103, 104, 105, 106, 107, 108, 109, 110, 111, 112]⟩ : ByteArray).extract j (j + 1)).size = 1 := abc_size j (by omega)
    refine Ev.step (fun k => by rw [spec_loRanked.l1]) (Ev.neg (by omega) ?_)
    refine Ev.step (fun k => by rw [spec_loRanked.j2]) (Ev.neg (by decide) (Ev.neg (by decide) ?_))
    rw [w64 (x := (j : Int) + 1) (by omega) (by omega), show ((j : Int) + 1).toNat = j + 1 by omega, Int.toNat_natCast]
    refine Ev.pos (by omega) (Ev.pos (by omega) (Ev.pos (by omega) (Ev.pos (by omega) (Ev.pos (by omega) ?_))))
    exact hres _ _ (by rw [bytesOf_append, hone]) (by rw [bytesOf_append, hone, hO])
  | succ e ih =>
    intro i hi hmul
    have hil : i < O.length := by omega
    have eW := loWays_ev (m - j) (O.length - 1) (by omega)
    refine Ev.step (fun k => by rw [spec_loRanked.l1]) (Ev.pos (by omega) ?_)
    refine Ev.step (fun k => by rw [spec_loRanked.j2]) (Ev.pos (by decide) ?_)
    rw [w64 (x := (opn.size : Int) - 1) (by omega) (by omega), w64 (x := (m : Int) - (j : Int)) (by omega) (by omega), w64 (x := (i : Int) + 1) (by omega) (by omega), show (opn.size : Int) - 1 = ((O.length - 1 : Nat) : Int) by omega, show (m : Int) - (j : Int) = ((m - j : Nat) : Int) by omega]
    refine Ev.bindk eW ?_
    by_cases hc : (i + 1) * ways (m - j) (O.length - 1) ≤ r
    · have e1 : (i + 1) * ways (m - j) (O.length - 1) = i * ways (m - j) (O.length - 1) + ways (m - j) (O.length - 1) := by rw [Nat.add_mul, Nat.one_mul]
      have ih2 := ih (i + 1) (by omega) hc
      rw [e1] at ih2 hc
      generalize i * ways (m - j) (O.length - 1) = z at *
      refine Ev.neg (by omega) ?_
      rw [w64 (x := ((r - z : Nat) : Int) - ((ways (m - j) (O.length - 1) : Nat) : Int)) (by omega) (by omega), show ((r - z : Nat) : Int) - ((ways (m - j) (O.length - 1) : Nat) : Int) = ((r - (z + ways (m - j) (O.length - 1)) : Nat) : Int) by omega]
      exact ih2
    · obtain ⟨c1, c2⟩ := div_cut hwp hmul (by omega)
      rw [dif_pos (by rw [c1]; exact hil), c2] at hres
      simp only [c1] at hres
      have e1 : (i + 1) * ways (m - j) (O.length - 1) = i * ways (m - j) (O.length - 1) + ways (m - j) (O.length - 1) := by rw [Nat.add_mul, Nat.one_mul]
      rw [e1] at hc
      have hone : bytesOf (opn.extract i (i + 1)) = [O[i]] := by
        subst hO
        exact bytesOf_one opn i hil
      have hs1 : (opn.extract i (i + 1)).size = 1 := by rw [← bytesOf_length, hone]; rfl
      have hrest : bytesOf (opn.extract 0 i ++ opn.extract (i + 1) opn.size) = O.eraseIdx i := by
        rw [bytesOf_append, bytesOf_extract, bytesOf_extract, hO, List.drop_zero, ← hlo, List.take_length, List.eraseIdx_eq_take_drop_succ]
      rw [show ((i : Int) + 1).toNat = i + 1 by omega, Int.toNat_natCast]
      refine Ev.pos (by generalize i * ways (m - j) (O.length - 1) = z at *; omega) (Ev.pos (by omega) (Ev.pos (by omega) (Ev.pos (by omega) (Ev.pos (by omega) (Ev.pos (by omega) (Ev.pos (by omega) (Ev.pos (by simp only [ByteArray.size_extract]; omega) ?_)))))))
      have hgo : Ev (fun k => spec_loRanked.j2 k (m : Int) ((r - i * ways (m - j) (O.length - 1) : Nat) : Int) (out ++ opn.extract i (i + 1)) (opn.extract 0 i ++ opn.extract (i + 1) opn.size) (j : Int) true ((i : Int) + 1) false) res := by
        refine Ev.step (fun k => by rw [spec_loRanked.j2]) (Ev.neg (by decide) (Ev.pos rfl ?_))
        exact hres _ _ (by rw [bytesOf_append, hone]) hrest
      refine Ev.step (fun k => by rw [spec_loRanked.l1]) ?_
      by_cases hs : (i : Int) + 1 < ((opn.extract 0 i ++ opn.extract (i + 1) opn.size).size : Int)
      · exact Ev.pos hs hgo
      · exact Ev.neg hs hgo
theorem loRanked_l0 {m : Nat} (hm : m ≤ 8) : ∀ (d : Nat) (out opn : ByteArray) (O : List Int) (j r : Nat), bytesOf opn = O → LoS m out O j r d → Ev (fun k => spec_loRanked.l0 k (m : Int) (r : Int) out opn (j : Int)) (strOfNums (bytesOf out ++ unrG m d O j r))
  | 0, out, opn, O, j, r, hO, h => by
    have hsz := h.size
    refine Ev.step (fun k => by rw [spec_loRanked.l0]) ?_
    rw [w64 (x := 2 * (m : Int)) (by omega) (by omega), unrG, List.append_nil, strOf_bytesOf]
    exact Ev.neg (by omega) (Ev.val rfl)
  | d + 1, out, opn, O, j, r, hO, h => by
    have hsz := h.size
    have hwp := ways_pos (m - j) (O.length - 1)
    refine Ev.step (fun k => by rw [spec_loRanked.l0]) ?_
    rw [w64 (x := 2 * (m : Int)) (by omega) (by omega)]
    refine Ev.pos (by omega) ?_
    have key := ran_l1 hO h hm (strOfNums (bytesOf out ++ unrG m (d + 1) O j r)) (by
      by_cases hh : r / ways (m - j) (O.length - 1) < O.length
      · rw [dif_pos hh]
        intro out' opn' e e2
        have ih := loRanked_l0 hm d out' opn' _ j _ e2 (h.again hh e (Nat.mod_lt r hwp))
        rw [e, List.append_assoc] at ih
        rw [unrG, dif_pos hh]
        exact ih
      · rw [dif_neg hh]
        intro out' opn' e e2
        have ih := loRanked_l0 hm d out' opn' _ (j + 1) _ e2 (h.new (by omega) e)
        rw [e, List.append_assoc] at ih
        rw [unrG, dif_neg hh]
        exact ih) O.length 0 (by omega) (by omega)
    rw [Nat.zero_mul, Nat.sub_zero] at key
    exact key
theorem loRanked_ev {m r : Nat} (hm : m ≤ 8) (hr : r < ways m 0) : Ev (fun k => spec_loRanked.f k (m : Int) (r : Int)) (loopS m r) := by
  unfold spec_loRanked.f
  exact loRanked_l0 hm (2 * m) ⟨#[]⟩ ⟨#[]⟩ [] 0 r rfl (los_nil hr)
theorem ways_count : ∀ m : Fin 9, spec_loCount.f 20 (m.val : Int) = some ((ways m.val 0 : Nat) : Int) := by decide +kernel
theorem loCount_ev {m : Nat} (hm : m ≤ 8) : Ev (fun k => spec_loCount.f k (m : Int)) ((ways m 0 : Nat) : Int) := by
  have h := ways_count ⟨m, by omega⟩
  exact Ev.of (fun k => spec_loCount.mono _ k) h
/-- What LoopOfRank tells. -/
def lorR (n r : Int) : ByteArray × Bool := if 0 ≤ n ∧ n ≤ 8 ∧ 0 ≤ r ∧ r < ((ways n.toNat 0 : Nat) : Int) then (loopS n.toNat r.toNat, true) else (⟨#[]⟩, false)
end Go.Proofs.YtcgoaipbfnhjhaaGreatDoor.M

/- A loop told back. -/
namespace Go.Proofs.YtcgoaipbfnhjhaaGreatDoor.M
open Go.RowKit Go.Proofs.YtcgoaipbfnhjhaaGreatDoorW.PrintWords Go.Proofs.YtcgoaipbfnhjhaaGreatDoor.Pr
set_option linter.unusedVariables false
set_option linter.unusedSimpArgs false

/-- A text told back. -/
def backS (w : ByteArray) : ByteArray := strOfNums (bytesOf w).reverse
theorem bytesOf_back (w : ByteArray) : bytesOf (backS w) = (bytesOf w).reverse :=
  bytesOf_strOf _ (fun x hx => bytesOf_byte w x (List.mem_reverse.1 hx))
theorem back_size (w : ByteArray) : (backS w).size = w.size := by
  rw [← bytesOf_length, bytesOf_back, List.length_reverse, bytesOf_length]
theorem backward_eq (w : ByteArray) (h : w.size ≤ 1000000) : impl_backward.f w = some (backS w) := by
  unfold impl_backward.f
  rw [if_pos h]
  rfl
theorem loBack_l0 (w : ByteArray) (hw : w.size ≤ 16) : ∀ (d : Nat) (out : ByteArray), d ≤ w.size → bytesOf out = ((bytesOf w).drop d).reverse → Ev (fun k => spec_loBack.l0 k w out ((d : Int) - 1)) (anewS (backS w))
  | 0, out, _, ho => by
    refine Ev.step (fun k => by rw [spec_loBack.l0]) ?_
    have e : out = backS w := bytesOf_inj (by rw [ho, bytesOf_back, List.drop_zero])
    subst e
    have hs := back_size w
    exact Ev.neg (by omega) (Ev.bindk (loAnew_ev _ (by omega)) (Ev.val rfl))
  | d + 1, out, hd, ho => by
    have hlen := bytesOf_length w
    have hd2 : d < (bytesOf w).length := by omega
    have hone := bytesOf_one w d hd2
    have hs1 : (w.extract d (d + 1)).size = 1 := by rw [← bytesOf_length, hone]; rfl
    have hol := bytesOf_length out
    rw [ho] at hol
    simp at hol
    refine Ev.step (fun k => by rw [spec_loBack.l0]) ?_
    have e1 : ((d + 1 : Nat) : Int) - 1 = d := by omega
    simp only [e1]
    rw [w64 (x := (d : Int) + 1) (by omega) (by omega), w64 (x := (d : Int) - 1) (by omega) (by omega), show ((d : Int) + 1).toNat = d + 1 by omega, Int.toNat_natCast]
    refine Ev.pos (by omega) (Ev.pos (by omega) (Ev.pos (by omega) (Ev.pos (by omega) (Ev.pos (by omega) ?_))))
    refine loBack_l0 w hw d _ (by omega) ?_
    rw [bytesOf_append, hone, ho, List.drop_eq_getElem_cons hd2, List.reverse_cons]
theorem loBack_ev (w : ByteArray) (hw : w.size ≤ 16) : Ev (fun k => spec_loBack.f k w) (anewS (backS w)) := by
  unfold spec_loBack.f
  have hlen := bytesOf_length w
  have e := loBack_l0 w hw w.size ⟨#[]⟩ (Nat.le_refl _) (by rw [← hlen, List.drop_length]; rfl)
  rw [w64 (by omega) (by omega)]
  exact e
end Go.Proofs.YtcgoaipbfnhjhaaGreatDoor.M

/- The first of a loop's names: the reference's walk and the program's agree. -/
namespace Go.Proofs.YtcgoaipbfnhjhaaGreatDoor.M
open Go.RowKit Go.Proofs.YtcgoaipbfnhjhaaGreatDoor.Pr Go.Proofs.YtcgoaipbfnhjhaaGreatDoorW.PrintWords Go.Proofs.YtcgoaipbfnhjhaaGreatDoorW.PrintLast
set_option linter.unusedVariables false
set_option linter.unusedSimpArgs false

theorem newN_pre : ∀ (w ns : List Int), ∃ t, newN ns w = ns ++ t
  | [], ns => ⟨[], by simp [newN]⟩
  | x :: r, ns => by
    unfold newN
    obtain ⟨t, ht⟩ := newN_pre r (if x ∈ ns then ns else ns ++ [x])
    by_cases h : x ∈ ns
    · rw [if_pos h] at ht ⊢
      exact ⟨t, ht⟩
    · rw [if_neg h] at ht ⊢
      exact ⟨x :: t, by rw [ht, List.append_assoc]; rfl⟩
theorem newN_mem : ∀ (w ns : List Int), ∀ x ∈ w, x ∈ newN ns w
  | [], _, x, hx => by simp at hx
  | y :: r, ns, x, hx => by
    unfold newN
    rcases List.mem_cons.1 hx with e | hx
    · subst e
      obtain ⟨t, ht⟩ := newN_pre r (if x ∈ ns then ns else ns ++ [x])
      rw [ht]
      refine List.mem_append_left _ ?_
      by_cases h : x ∈ ns
      · rw [if_pos h]; exact h
      · rw [if_neg h]; simp
    · exact newN_mem r _ x hx
theorem anew_as_map : ∀ (w ns : List Int), anew ns w = w.map fun x => 97 + ((newN ns w).idxOf x : Int)
  | [], _ => rfl
  | x :: r, ns => by
    rw [anew, List.map_cons, newN]
    obtain ⟨t, ht⟩ := newN_pre r (if x ∈ ns then ns else ns ++ [x])
    have hx : (newN (if x ∈ ns then ns else ns ++ [x]) r).idxOf x = ns.idxOf x := by
      rw [ht]
      by_cases h : x ∈ ns
      · rw [if_pos h, List.idxOf_append, if_pos h]
      · rw [if_neg h, List.idxOf_append, if_pos (by simp), List.idxOf_eq_length h, List.idxOf_append, if_neg h]
        simp
    rw [hx, anew_as_map r]
theorem anew_anew (w v : List Int) (h : ∀ x ∈ v, x ∈ w) : anew [] (v.map fun x => 97 + ((newN [] w).idxOf x : Int)) = anew [] v := by
  have e := anew_map (fun x => 97 + ((newN [] w).idxOf x : Int)) v [] (fun x hx y hy hxy => by
    have hx' := newN_mem w [] x (h x (by simpa using hx))
    have hy' := newN_mem w [] y (h y (by simpa using hy))
    have e1 : (newN [] w).idxOf x = (newN [] w).idxOf y := by
      have : (97 : Int) + ((newN [] w).idxOf x : Int) = 97 + ((newN [] w).idxOf y : Int) := hxy
      omega
    have h1 : (newN [] w)[(newN [] w).idxOf x]? = some x := by
      rw [List.getElem?_eq_getElem (List.idxOf_lt_length_of_mem hx'), List.getElem_idxOf]
    have h2 : (newN [] w)[(newN [] w).idxOf y]? = some y := by
      rw [List.getElem?_eq_getElem (List.idxOf_lt_length_of_mem hy'), List.getElem_idxOf]
    rw [e1, h2] at h1
    exact (Option.some.inj h1).symm)
  simpa using e
/-- A text turned by i. -/
def rotS (s : ByteArray) (i : Nat) : ByteArray := s.extract i s.size ++ s.extract 0 i
theorem bytesOf_rot (s : ByteArray) (i : Nat) : bytesOf (rotS s i) = (bytesOf s).drop i ++ (bytesOf s).take i := by
  unfold rotS
  rw [bytesOf_append, bytesOf_extract, bytesOf_extract, List.drop_zero, ← bytesOf_length, List.take_length]
theorem rot_size (s : ByteArray) (i : Nat) (h : i ≤ s.size) : (rotS s i).size = s.size := by
  unfold rotS
  rw [ByteArray.size_append, ByteArray.size_extract, ByteArray.size_extract]
  omega
theorem anewS_size (s : ByteArray) (h : s.size ≤ 100) : (anewS s).size = s.size := by
  rw [← bytesOf_length, bytesOf_anew s h, anew_length, bytesOf_length]
theorem anew_rot (s : ByteArray) (i : Nat) (h : s.size ≤ 100) (hi : i ≤ s.size) : anewS (rotS (anewS s) i) = anewS (rotS s i) := by
  refine bytesOf_inj ?_
  rw [bytesOf_anew _ (by rw [rot_size _ _ (by rw [anewS_size s h]; exact hi), anewS_size s h]; exact h), bytesOf_anew _ (by rw [rot_size _ _ hi]; exact h), bytesOf_rot, bytesOf_rot, bytesOf_anew s h, anew_as_map (bytesOf s), ← List.map_drop, ← List.map_take, ← List.map_append]
  refine anew_anew _ _ (fun x hx => ?_)
  rcases List.mem_append.1 hx with e | e
  · exact List.mem_of_mem_drop e
  · exact List.mem_of_mem_take e
/-- The lesser of what has been told and a new text. -/
def stpS (best o : ByteArray) : ByteArray := if Op.bytesLess o.toList best.toList = true then o else best
theorem stp_min (best o : ByteArray) : Lib.minS best o = stpS best o := by
  unfold Lib.minS stpS
  rw [Proofs.bytesLess_eq, Lib.toList_data, Lib.toList_data]
  by_cases h : o.data.toList < best.data.toList
  · rw [if_pos (decide_eq_true h)]
    refine if_neg ?_
    intro h1
    rcases h1 with h1 | h1
    · exact absurd h1 (List.lt_asymm h)
    · rw [h1] at h
      exact absurd h (List.lt_irrefl _)
  · rw [if_neg (show ¬ decide (o.data.toList < best.data.toList) = true from fun e => h (of_decide_eq_true e))]
    refine if_pos ?_
    by_cases h1 : best.data.toList < o.data.toList
    · exact Or.inl h1
    · exact Or.inr (List.le_antisymm h h1)
/-- What has been told after the turns of a text. -/
def turnsL (s : ByteArray) : Nat → Nat → ByteArray → ByteArray
  | 0, _, best => best
  | d + 1, i, best => turnsL s d (i + 1) (stpS best (anewS (rotS s i)))
theorem turns_anew (s : ByteArray) (h : s.size ≤ 100) : ∀ (d i : Nat) (best : ByteArray), i + d ≤ s.size → turnsL (anewS s) d i best = turnsL s d i best
  | 0, _, _, _ => rfl
  | d + 1, i, best, hi => by
    unfold turnsL
    rw [anew_rot s i h (by omega)]
    exact turns_anew s h d (i + 1) _ (by omega)
/-- The first of a loop's names. -/
def firstS (w : ByteArray) : ByteArray := turnsL (backS w) w.size 0 (turnsL w w.size 0 w)
theorem turnsF_ev (s : ByteArray) (h : s.size ≤ 16) : ∀ (d i : Nat) (best : ByteArray), i + d ≤ s.size → Ev (fun k => turnsF k s d i best) (turnsL s d i best)
  | 0, _, _, _ => Ev.val rfl
  | d + 1, i, best, hi => by
    simp only [turnsF]
    unfold turnsL
    exact Ev.bindk (loAnew_ev (rotS s i) (by rw [rot_size s i (by omega)]; exact h)) (turnsF_ev s h d (i + 1) _ (by omega))
theorem ascii_of (s : ByteArray) (h : s.size ≤ 1000) (hb : ∀ x ∈ bytesOf s, x < 128) : asciiB s = true := by
  unfold asciiB
  simp only [Bool.and_eq_true, decide_eq_true_eq, List.all_eq_true]
  exact ⟨h, hb⟩
theorem loFirst_ev (w : ByteArray) (hg : goodS w = true) : Ev (fun k => spec_loFirst.f k w) (firstS w) := by
  have h16 := good_size hg
  have hbz := back_size w
  have hbs : (anewS (backS w)).size = w.size := by rw [anewS_size _ (by omega), hbz]
  unfold spec_loFirst.f
  refine Ev.bindk (loBack_ev w h16) (Ev.pos ⟨ascii_of w (by omega) (fun x hx => ?_), ascii_of _ (by omega) (fun x hx => ?_)⟩ ?_)
  · have := good_letters (show goodL (bytesOf w) = true from hg) x hx
    omega
  · rw [bytesOf_anew _ (by omega), anew_as_map] at hx
    obtain ⟨y, hy, rfl⟩ := List.mem_map.1 hx
    have h1 := List.idxOf_le_length (a := y) (l := newN [] (bytesOf (backS w)))
    have h2 := newN_length (bytesOf (backS w)) []
    have h3 := bytesOf_length (backS w)
    simp at h2
    omega
  · refine Ev.bindk (turnsF_ev w h16 w.size 0 w (by omega)) ?_
    rw [hbs]
    have e := turnsF_ev (anewS (backS w)) (by omega) w.size 0 (turnsL w w.size 0 w) (by omega)
    rw [turns_anew (backS w) (by omega) w.size 0 _ (by omega)] at e
    exact e
theorem firstLoop_l1 (w y : ByteArray) (hw : w.size ≤ 16) (hy : y.size = w.size) (xs : List ByteArray) (a b : Int) : ∀ (d i : Nat) (best r : ByteArray), i + d = w.size → Ev (fun k => impl_firstLoop.l0 k w (turnsL y d i best) xs a (wrap64 (b + 1))) r → Ev (fun k => impl_firstLoop.l1 k w best y xs a b (w.size : Int) (i : Int)) r
  | 0, i, best, r, hi, h => by
    refine Ev.step (fun k => by rw [impl_firstLoop.l1]) ?_
    exact Ev.neg (by omega) h
  | d + 1, i, best, r, hi, h => by
    refine Ev.step (fun k => by rw [impl_firstLoop.l1]) ?_
    have hz : (y.extract (i : Int).toNat y.size).size + (y.extract 0 (i : Int).toNat).size ≤ 9223372036854775807 := by
      rw [ByteArray.size_extract, ByteArray.size_extract]
      omega
    rw [Int.toNat_natCast] at hz
    simp only [Int.toNat_natCast]
    refine Ev.pos (by omega) (Ev.pos (by omega) (Ev.pos (by omega) (Ev.pos hz (Ev.bindk (named_ev (rotS y i) (by rw [rot_size y i (by omega)]; omega)) ?_))))
    rw [w64 (x := (i : Int) + 1) (by omega) (by omega), stp_min]
    exact firstLoop_l1 w y hw hy xs a b d (i + 1) _ r (by omega) h
theorem firstLoop_ev (w : ByteArray) (h16 : w.size ≤ 16) : Ev (fun k => impl_firstLoop.f k w) (firstS w) := by
  unfold impl_firstLoop.f
  have hbz := back_size w
  refine Ev.bindc (backward_eq w (by omega)) ?_
  show Ev (fun k => impl_firstLoop.l0 k w w [w, backS w] 2 0) _
  refine Ev.step (fun k => by rw [impl_firstLoop.l0]) ?_
  refine Ev.pos (show _ < (2 : Int) by omega) (Ev.pos (by omega) (Ev.pos (show _ < (2 : Int) by omega) ?_))
  refine firstLoop_l1 w w h16 rfl _ _ 0 w.size 0 w _ (by omega) ?_
  rw [w64 (by omega) (by omega)]
  show Ev (fun k => impl_firstLoop.l0 k w (turnsL w w.size 0 w) [w, backS w] 2 1) _
  refine Ev.step (fun k => by rw [impl_firstLoop.l0]) ?_
  refine Ev.pos (show _ < (2 : Int) by omega) (Ev.pos (by omega) (Ev.pos (show _ < (2 : Int) by omega) ?_))
  refine firstLoop_l1 w (backS w) h16 hbz _ _ 1 w.size 0 _ _ (by omega) ?_
  rw [w64 (by omega) (by omega)]
  show Ev (fun k => impl_firstLoop.l0 k w (turnsL (backS w) w.size 0 (turnsL w w.size 0 w)) [w, backS w] 2 2) _
  refine Ev.step (fun k => by rw [impl_firstLoop.l0]) ?_
  exact Ev.neg (by decide) (Ev.val rfl)
end Go.Proofs.YtcgoaipbfnhjhaaGreatDoor.M

/- Loops that the cursor draws: each drawing ends, with a short text. -/
namespace Go.Proofs.YtcgoaipbfnhjhaaGreatDoor.M
open Go.RowKit Go.Proofs.YtcgoaipbfnhjhaaGreatDoorW.PrintWords Go.Proofs.YtcgoaipbfnhjhaaGreatDoor.Pr
set_option linter.unusedVariables false
set_option linter.unusedSimpArgs false

theorem of_ok {l : List Int} (hl : By l) {n a : Int} (s : Int) (ha : At n a) (hn : n ≤ 900000000) (xs : List ByteArray) (hx : xs ≠ []) : ∃ r a' s', spec_l1Cur_of.f l a s xs = some (r, a', s') ∧ r ∈ xs ∧ At (n + 2) a' := by
  obtain ⟨r, a1, s1, e, h0, h1, h2, h3⟩ := pick_ok hl s ha hn (xs.length : Int)
  have hp : 0 < xs.length := List.length_pos_iff.2 hx
  have hlt : r < (xs.length : Int) := by
    by_cases q : 1 < (xs.length : Int)
    · exact h1 q
    · rw [h2 (by omega)]; omega
  unfold spec_l1Cur_of.f
  rw [e]
  simp only [Option.bind_some]
  rw [if_pos h0, if_pos hlt]
  refine ⟨_, _, _, rfl, ?_, h3⟩
  have hm : r.toNat < xs.length := by omega
  have hg : xs.getD r.toNat ByteArray.empty = xs[r.toNat] := by simp [List.getD_eq_getElem?_getD, List.getElem?_eq_getElem hm]
  unfold rdOf
  rw [hg]
  exact List.getElem_mem hm
theorem ways5 : ∀ n : Fin 6, ways n.val 0 ≤ 1000 := by decide +kernel
theorem sureLoop_ok {l : List Int} (hl : By l) {n a : Int} (s : Int) (ha : At n a) (hn : n ≤ 800000000) : ∃ w a' s', Ev (fun k => spec_l1Cur_sureLoop.f k l a s 5) (w, a', s') ∧ w.size ≤ 18 ∧ At (n + 4) a' := by
  obtain ⟨r, a1, s1, e, h0, h1, _, h3⟩ := pick_ok hl s ha (by omega) 6
  have hr := h1 (by omega)
  obtain ⟨m, rfl⟩ : ∃ m : Nat, r = (m : Int) := ⟨r.toNat, by omega⟩
  have hw := ways5 ⟨m, by omega⟩
  dsimp only at hw
  have hwp := ways_pos m 0
  obtain ⟨q, a2, s2, e2, g0, g1, g2, g3⟩ := pick_ok hl s1 h3 (by omega) ((ways m 0 : Nat) : Int)
  have hq : q < ((ways m 0 : Nat) : Int) := by
    by_cases h : 1 < ((ways m 0 : Nat) : Int)
    · exact g1 h
    · have := g2 (by omega); omega
  obtain ⟨t, rfl⟩ : ∃ t : Nat, q = (t : Int) := ⟨q.toNat, by omega⟩
  have hlp := (loopN_loop (m := m) (r := t) (by omega) (by omega)).1
  refine ⟨loopS m t, a2, s2, ?_, ?_, g3.up (by omega)⟩
  · unfold spec_l1Cur_sureLoop.f
    rw [w64 (x := (5 : Int) + 1) (by omega) (by omega)]
    refine Ev.bindc e (Ev.bindk (loCount_ev (by omega)) (Ev.bindc (a := ((ways m 0 : Nat) : Int)) ?_ (Ev.bindc e2 (Ev.bindk (loRanked_ev (by omega) (by omega)) (Ev.val rfl)))))
    unfold spec_l1Least.f
    rw [if_neg (by omega)]
  · rw [← bytesOf_length, show bytesOf (loopS m t) = loopN m t from bytesOf_strOf _ (fun x hx => by
      have := hlp.lo x hx
      have := hlp.hi x hx
      omega), hlp.len]
    omega
theorem loop_ok {l : List Int} (hl : By l) {n a : Int} (s : Int) (ha : At n a) (hn : n ≤ 700000000) : ∃ w a' s', Ev (fun k => spec_l1Cur_loop.f k l a s) (w, a', s') ∧ w.size ≤ 18 ∧ At (n + 8) a' := by
  obtain ⟨r, a1, s1, e, h0, h1, _, h3⟩ := pick_ok hl s ha (by omega) 14
  have some1 : ∀ (b : Bool), ∃ w a' s', Ev (fun k => spec_l1Cur_loop.j0 k b l a1 s1) (w, a', s') ∧ w.size ≤ 18 ∧ At (n + 8) a' := fun b => by
    cases b with
    | true =>
      obtain ⟨w, a2, s2, e2, hm, g⟩ := of_ok hl s1 h3 (by omega) ([(⟨#[97, 98, 99, 97, 98, 99]⟩ : ByteArray), (⟨#[97, 98, 99, 97, 100, 99, 98, 100]⟩ : ByteArray), (⟨#[97, 98, 99, 100, 101, 98, 97, 102, 101, 100, 99, 102]⟩ : ByteArray), (⟨#[97, 98, 97, 99, 100, 99, 98, 100]⟩ : ByteArray), (⟨#[97, 98, 99, 100, 97, 98, 99, 100]⟩ : ByteArray), (⟨#[97, 98, 97, 98]⟩ : ByteArray)] : List ByteArray) (by simp)
      refine ⟨w, a2, s2, ?_, ?_, g.up (by omega)⟩
      · refine Ev.step (fun k => by rw [spec_l1Cur_loop.j0]) ?_
        exact Ev.pos rfl (Ev.bindc e2 (Ev.val rfl))
      · simp only [List.mem_cons, List.not_mem_nil, or_false] at hm
        rcases hm with rfl | rfl | rfl | rfl | rfl | rfl <;> decide
    | false =>
      obtain ⟨w, a2, s2, e2, hm, g⟩ := sureLoop_ok hl s1 h3 (by omega)
      refine ⟨w, a2, s2, ?_, hm, g.up (by omega)⟩
      refine Ev.step (fun k => by rw [spec_l1Cur_loop.j0]) ?_
      exact Ev.neg (by decide) (Ev.bindk e2 (Ev.val rfl))
  unfold spec_l1Cur_loop.f
  by_cases hr : r = 0
  · obtain ⟨w, a2, s2, e2, hm, g⟩ := of_ok hl s1 h3 (by omega) ([(⟨#[97]⟩ : ByteArray), (⟨#[97, 97, 98]⟩ : ByteArray), (⟨#[98, 97]⟩ : ByteArray), (⟨#[98, 98]⟩ : ByteArray), (⟨#[97, 98, 99]⟩ : ByteArray), (⟨#[97, 97, 97, 97]⟩ : ByteArray), (⟨#[97, 98, 98, 97, 32]⟩ : ByteArray), (⟨#[120, 120]⟩ : ByteArray), (⟨#[97, 97, 98, 98, 99, 99, 100, 100, 101, 101, 102, 102, 103, 103, 104, 104, 105, 105]⟩ : ByteArray)] : List ByteArray) (by simp)
    refine ⟨w, a2, s2, Ev.bindc e (Ev.pos hr (Ev.bindc e2 (Ev.val rfl))), ?_, g.up (by omega)⟩
    simp only [List.mem_cons, List.not_mem_nil, or_false] at hm
    rcases hm with rfl | rfl | rfl | rfl | rfl | rfl | rfl | rfl | rfl <;> decide
  · by_cases hr1 : r = 1
    · obtain ⟨w, a2, s2, h⟩ := some1 (r == 1)
      exact ⟨w, a2, s2, Ev.bindc e (Ev.neg hr (Ev.pos hr1 h.1)), h.2⟩
    · obtain ⟨w, a2, s2, h⟩ := some1 (r == 2)
      exact ⟨w, a2, s2, Ev.bindc e (Ev.neg hr (Ev.neg hr1 h.1)), h.2⟩
theorem drawJoin_ok {l : List Int} (hl : By l) : ∃ v w, Ev (fun k => spec_DrawJoinLoops.f k l) (v, w) ∧ v.size ≤ 18 ∧ w.size ≤ 18 := by
  obtain ⟨v, a1, s1, e1, h1, g1⟩ := loop_ok hl 0 (n := 0) (a := 0) ⟨by omega, by omega⟩ (by omega)
  obtain ⟨w, a2, s2, e2, h2, g2⟩ := loop_ok hl s1 g1 (by omega)
  unfold spec_DrawJoinLoops.f
  exact ⟨v, w, Ev.bindk e1 (Ev.bindk e2 (Ev.val rfl)), h1, h2⟩
theorem drawRank_ok {l : List Int} (hl : By l) : ∃ v, Ev (fun k => spec_DrawRankOfLoop.f k l) v ∧ v.size ≤ 18 := by
  obtain ⟨v, a1, s1, e1, h1, g1⟩ := loop_ok hl 0 (n := 0) (a := 0) ⟨by omega, by omega⟩ (by omega)
  unfold spec_DrawRankOfLoop.f spec_DrawIsLoop.f
  exact ⟨v, Ev.bindk (Ev.bindk e1 (Ev.val rfl)) (Ev.val rfl), h1⟩
theorem drawSame_ok {l : List Int} (hl : By l) : ∃ v w, Ev (fun k => spec_DrawSameLoops.f k l) (v, w) ∧ v.size ≤ 18 ∧ w.size ≤ 18 := by
  obtain ⟨v, a1, s1, e1, h1, g1⟩ := loop_ok hl 0 (n := 0) (a := 0) ⟨by omega, by omega⟩ (by omega)
  have plain : ∀ {n a : Int} (s : Int), At n a → n ≤ 1000 → ∃ w, Ev (fun k => spec_DrawSameLoops.j0 k v false l a s) (v, w) ∧ w.size ≤ 18 := fun {n a} s ha hn => by
    obtain ⟨w, a2, s2, e2, h2, g2⟩ := loop_ok hl s ha (by omega)
    refine ⟨w, ?_, h2⟩
    refine Ev.step (fun k => by rw [spec_DrawSameLoops.j0]) ?_
    exact Ev.neg (by decide) (Ev.bindk e2 (Ev.val rfl))
  unfold spec_DrawSameLoops.f
  by_cases hg : goodS v = true
  · by_cases hs : (v.size : Int) > 0
    · obtain ⟨b, a2, s2, e2, g2⟩ := one_ok hl s1 g1 (by omega) 3
      have h16 := good_size hg
      cases b with
      | true =>
        obtain ⟨w, e3, h3⟩ := plain s2 g2 (by omega)
        exact ⟨v, w, Ev.bindk e1 (Ev.bindk (loGood_ev v) (Ev.pos hg (Ev.pos hs (Ev.bindc e2 e3)))), h1, h3⟩
      | false =>
        obtain ⟨q, a3, s3, e3, q0, q1, q2, g3⟩ := pick_ok hl s2 g2 (by omega) (v.size : Int)
        have hq : q < (v.size : Int) := by
          by_cases h : 1 < (v.size : Int)
          · exact q1 h
          · have := q2 (by omega); omega
        obtain ⟨i, rfl⟩ : ∃ i : Nat, q = (i : Int) := ⟨q.toNat, by omega⟩
        have hrs : (v.extract i v.size ++ v.extract 0 i).size = v.size := rot_size v i (by omega)
        have hz := anewS_size (rotS v i) (by rw [rot_size v i (by omega)]; omega)
        rw [rot_size v i (by omega)] at hz
        refine ⟨v, anewS (backS (anewS (rotS v i))), Ev.bindk e1 (Ev.bindk (loGood_ev v) (Ev.pos hg (Ev.pos hs (Ev.bindc e2 ?_)))), h1, ?_⟩
        · refine Ev.step (fun k => by rw [spec_DrawSameLoops.j0]) ?_
          refine Ev.pos rfl (Ev.bindc e3 ?_)
          dsimp only
          rw [Int.toNat_natCast]
          refine Ev.pos (by omega) (Ev.pos (by omega) (Ev.pos (by rw [← ByteArray.size_append, hrs]; omega) ?_))
          exact Ev.bindk (loAnew_ev _ (by rw [hrs]; omega)) (Ev.bindk (loBack_ev _ (by show (anewS (rotS v i)).size ≤ 16; omega)) (Ev.val rfl))
        · rw [anewS_size _ (by rw [back_size]; omega), back_size]
          omega
    · obtain ⟨w, e3, h3⟩ := plain s1 g1 (by omega)
      exact ⟨v, w, Ev.bindk e1 (Ev.bindk (loGood_ev v) (Ev.pos hg (Ev.neg hs e3))), h1, h3⟩
  · obtain ⟨w, e3, h3⟩ := plain s1 g1 (by omega)
    exact ⟨v, w, Ev.bindk e1 (Ev.bindk (loGood_ev v) (Ev.neg hg e3)), h1, h3⟩
end Go.Proofs.YtcgoaipbfnhjhaaGreatDoor.M

/- Whether a loop is even: the program and the reference tell the same. -/
namespace Go.Proofs.YtcgoaipbfnhjhaaGreatDoor.M
open Go.RowKit Go.Proofs.YtcgoaipbfnhjhaaGreatDoorW.PrintWords Go.Proofs.YtcgoaipbfnhjhaaGreatDoorW.PrintLast Go.Proofs.YtcgoaipbfnhjhaaGreatDoor.Pr
set_option linter.unusedVariables false
set_option linter.unusedSimpArgs false

def oddL (w : List Int) (m : Nat) (c : Int) : Bool := (((withL w m c).length : Int) % 2 == 1)
def evR (w : List Int) (m : Nat) : Nat → Int → Bool
  | 0, _ => true
  | d + 1, x => !(oddL w m x) && evR w m d (x + 1)
theorem ev_lett (w : List Int) (m : Nat) : ∀ (d : Nat) (x : Int), (lettP (oddL w m) x d).isEmpty = evR w m d x
  | 0, _ => rfl
  | d + 1, x => by
    unfold lettP evR
    cases h : oddL w m x with
    | true => simp
    | false => simp [ev_lett w m d (x + 1)]
theorem strOf_len (xs : List Int) : (strOfNums xs).size = xs.length := by
  unfold strOfNums
  simp [ByteArray.size]
theorem isEven_eq {w : ByteArray} {m : Nat} (h : M.Loop (bytesOf w) m) : impl_isEvenLoop.f w = some (evR (bytesOf w) m m 97) := by
  have hl := bytesOf_length w
  have hlen := h.len
  have hf := h.few
  have hm : w.size / 2 = m := by omega
  unfold impl_isEvenLoop.f
  rw [hm, if_pos (by
    rw [Bool.and_eq_true, decide_eq_true_eq, List.all_eq_true]
    refine ⟨by omega, fun c hc => ?_⟩
    have := (mem_abc m c).1 hc
    exact (interlacedWith_eq h this.1 this.2).1)]
  congr 1
  rw [lettP_congr (oddB w) (oddL (bytesOf w) m) m 97 (fun y h1 h2 => by
    unfold oddB oddL
    rw [hm, strOf_len]
    unfold withL
    rw [lettP_congr (withB w y) _ m 97 (fun z h3 h4 => with_eq h h1 h2 h3 h4)])]
  rw [← ev_lett, ByteArray.toList_eq]
  unfold strOfNums
  cases lettP (oddL (bytesOf w) m) 97 m <;> rfl
theorem loEven_l0 {w : ByteArray} {m : Nat} (h : M.Loop (bytesOf w) m) : ∀ (d i : Nat), i + d = m → Ev (fun k => spec_loEven.l0 k w (i : Int)) (evR (bytesOf w) m d (97 + (i : Int)))
  | 0, i, hd => by
    have hl := bytesOf_length w
    have hlen := h.len
    have hf := h.few
    refine Ev.step (fun k => by rw [spec_loEven.l0]) ?_
    rw [w64 (x := (w.size : Int) / 2) (by omega) (by omega)]
    exact Ev.neg (by omega) (Ev.val rfl)
  | d + 1, i, hd => by
    have hl := bytesOf_length w
    have hlen := h.len
    have hf := h.few
    have e97 : (wrap64 (97 + (i : Int))) % 256 = 97 + (i : Int) := by rw [w64 (by omega) (by omega)]; omega
    refine Ev.step (fun k => by rw [spec_loEven.l0]) ?_
    rw [w64 (x := (w.size : Int) / 2) (by omega) (by omega), e97]
    refine Ev.pos (by omega) (Ev.bindk (loWith_ev h (by omega) (by omega)) ?_)
    rw [strOf_len, w64 (x := (i : Int) + 1) (by omega) (by omega), evR]
    have ih := loEven_l0 h d (i + 1) (by omega)
    rw [show (97 : Int) + ((i + 1 : Nat) : Int) = 97 + (i : Int) + 1 by omega, show (((i + 1 : Nat)) : Int) = (i : Int) + 1 by omega] at ih
    by_cases ho : ((withL (bytesOf w) m (97 + (i : Int))).length : Int) % 2 = 0
    · refine Ev.pos ho ?_
      have e : oddL (bytesOf w) m (97 + (i : Int)) = false := by
        unfold oddL
        rw [ho]
        rfl
      rw [e]
      exact ih
    · refine Ev.neg ho (Ev.val ?_)
      have e : oddL (bytesOf w) m (97 + (i : Int)) = true := by
        unfold oddL
        rw [show ((withL (bytesOf w) m (97 + (i : Int))).length : Int) % 2 = 1 by omega]
        rfl
      rw [e]
      rfl
theorem loEven_ev {w : ByteArray} {m : Nat} (h : M.Loop (bytesOf w) m) : Ev (fun k => spec_loEven.f k w) (evR (bytesOf w) m m 97) := by
  unfold spec_loEven.f
  exact loEven_l0 h m 0 (by omega)
end Go.Proofs.YtcgoaipbfnhjhaaGreatDoor.M

/- All ways to put letters into two halves, as the bits of a number. Plain lists, no program. -/
namespace Go.Proofs.YtcgoaipbfnhjhaaGreatDoor.M
set_option linter.unusedVariables false
set_option linter.unusedSimpArgs false

def bitH (v a : Nat) : Nat := v / 2 ^ a % 2
/-- The number whose bits are the letters of the second half. -/
def numH (s : Nat → Int) : Nat → Nat
  | 0 => 0
  | n + 1 => numH s n + if s n = -1 then 2 ^ n else 0
theorem numH_lt (s : Nat → Int) : ∀ n, numH s n < 2 ^ n
  | 0 => by simp [numH]
  | n + 1 => by
    have := numH_lt s n
    rw [numH, Nat.pow_succ]
    split <;> omega
theorem numH_bit (s : Nat → Int) : ∀ n j, j < n → bitH (numH s n) j = if s j = -1 then 1 else 0
  | 0, j, h => by omega
  | n + 1, j, h => by
    have hlt := numH_lt s n
    unfold bitH
    rw [numH]
    by_cases e : j = n
    · subst e
      split
      · rw [Nat.add_div_right _ (Nat.two_pow_pos j), Nat.div_eq_of_lt hlt]
      · rw [Nat.add_zero, Nat.div_eq_of_lt hlt]
    · have ih := numH_bit s n j (by omega)
      unfold bitH at ih
      split
      · have e2 : 2 ^ n = 2 ^ j * (2 * 2 ^ (n - j - 1)) := by
          rw [← Nat.mul_assoc, Nat.mul_comm (2 ^ j) 2, ← Nat.pow_succ', ← Nat.pow_add]
          congr 1
          omega
        rw [e2, Nat.add_mul_div_left _ _ (Nat.two_pow_pos j), Nat.add_mul_mod_self_left]
        exact ih
      · rw [Nat.add_zero]; exact ih
theorem bits_iff {n : Nat} {E P : Nat → Nat → Bool} (symE : ∀ a b, a < n → b < n → E a b = E b a) (symP : ∀ a b, a < n → b < n → P a b = P b a) :
    (∃ v, v < 2 ^ n ∧ ∀ a b, a < n → b < a → E a b = true → ((bitH v a ≠ bitH v b) ↔ P a b = true)) ↔ ∃ s, ValidH n E P s := by
  have b01 : ∀ v a, bitH v a = 0 ∨ bitH v a = 1 := fun v a => by unfold bitH; omega
  constructor
  · rintro ⟨v, hv, h⟩
    have main : ∀ a b, a < n → b < a → E a b = true → (if bitH v b = 1 then (-1 : Int) else 1) = (if bitH v a = 1 then (-1 : Int) else 1) * sgH P a b := fun a b ha hb he => by
      have h := h a b ha hb he
      unfold sgH
      rcases b01 v a with e1 | e1 <;> rcases b01 v b with e2 | e2 <;> rw [e1, e2] at h ⊢ <;> cases hp : P a b <;> simp [hp] at h ⊢
    refine ⟨fun j => if bitH v j = 1 then -1 else 1, fun j => by dsimp only; split <;> simp, fun a b ha hb hab he => ?_⟩
    by_cases hlt : b < a
    · exact main a b ha hlt he
    · have e := main b a hb (by omega) (by rw [← symE a b ha hb]; exact he)
      dsimp only at e ⊢
      rw [e, Int.mul_assoc, show sgH P b a = sgH P a b by unfold sgH; rw [symP a b ha hb]]
      rcases sg_pm P a b with h | h <;> rw [h] <;> simp
  · rintro ⟨s, h1, h2⟩
    refine ⟨numH s n, numH_lt s n, fun a b ha hb he => ?_⟩
    rw [numH_bit s n a ha, numH_bit s n b (by omega)]
    have e := h2 a b ha (by omega) (by omega) he
    unfold sgH at e
    rcases h1 a with e1 | e1 <;> rcases h1 b with e2 | e2 <;> rw [e1, e2] at e ⊢ <;> cases hp : P a b <;> simp [hp] at e ⊢
end Go.Proofs.YtcgoaipbfnhjhaaGreatDoor.M

/- Whether a loop can be drawn: the program and the reference tell the same. -/
namespace Go.Proofs.YtcgoaipbfnhjhaaGreatDoor.M
open Go.RowKit Go.Proofs.YtcgoaipbfnhjhaaGreatDoorW.PrintWords Go.Proofs.YtcgoaipbfnhjhaaGreatDoorW.PrintLast Go.Proofs.YtcgoaipbfnhjhaaGreatDoor.Pr
set_option linter.unusedVariables false
set_option linter.unusedSimpArgs false

/-- How many letters are interlaced with both of two. -/
def bothN (w : List Int) (m : Nat) (a b : Int) : Nat := (lettP (fun c => lacedL w a c && lacedL w b c) 97 m).length
theorem bothN_comm (w : List Int) (m : Nat) (a b : Int) : bothN w m a b = bothN w m b a := by
  unfold bothN
  rw [lettP_congr _ (fun c => lacedL w b c && lacedL w a c) m 97 (fun y _ _ => Bool.and_comm _ _)]
theorem bothN_le (w : List Int) (m : Nat) (a b : Int) : bothN w m a b ≤ m := lettP_length _ m 97
theorem common_eq {w : ByteArray} {m : Nat} (h : M.Loop (bytesOf w) m) {a b : Int} (h1 : 97 ≤ a) (h2 : a < 97 + (m : Int)) (h3 : 97 ≤ b) (h4 : b < 97 + (m : Int)) : impl_common.f w a b = some ((bothN (bytesOf w) m a b : Nat) : Int) := by
  have hl := bytesOf_length w
  have hlen := h.len
  have hm : w.size / 2 = m := by omega
  unfold impl_common.f
  rw [if_pos ⟨(interlacedWith_eq h h1 h2).1, (interlacedWith_eq h h3 h4).1⟩, hm]
  unfold bothN
  rw [lettP_congr (commB w a b) (fun c => lacedL (bytesOf w) a c && lacedL (bytesOf w) b c) m 97 (fun y h5 h6 => by
    unfold commB
    rw [interlaced_eq h h1 h2 h5 h6, interlaced_eq h h3 h4 h5 h6]
    by_cases e : y = a
    · subst e
      rw [laced_self (h.cnt h5 h6)]
      simp
    · by_cases e2 : y = b
      · subst e2
        rw [laced_self (h.cnt h5 h6)]
        simp
      · rw [show (y != a) = true by simpa using e, show (y != b) = true by simpa using e2]
        rfl)]
theorem tmod2 (n : Nat) : Int.tmod (n : Int) 2 = ((n % 2 : Nat) : Int) := by
  rw [Int.tmod_eq_emod_of_nonneg (by omega)]
  omega
section
variable {w : ByteArray} {m : Nat} (h : M.Loop (bytesOf w) m)
include h
theorem hvE_eq {i j : Nat} (hi : i < m) (hj : j < m) : hvE w i j = lacedL (bytesOf w) (97 + (i : Int)) (97 + (j : Int)) := by
  unfold hvE
  rw [interlaced_eq h (by omega) (by omega) (by omega) (by omega)]
  rfl
theorem hvP_eq {i j : Nat} (hi : i < m) (hj : j < m) : hvP w i j = (bothN (bytesOf w) m (97 + (i : Int)) (97 + (j : Int)) % 2 == 0) := by
  unfold hvP
  rw [common_eq h (by omega) (by omega) (by omega) (by omega), Option.getD_some, tmod2, Bool.eq_iff_iff, beq_iff_eq, beq_iff_eq]
  omega
theorem symE {i j : Nat} (hi : i < m) (hj : j < m) : hvE w i j = hvE w j i := by
  rw [hvE_eq h hi hj, hvE_eq h hj hi, laced_comm (h.cnt (by omega) (by omega)) (h.cnt (by omega) (by omega))]
theorem symP {i j : Nat} (hi : i < m) (hj : j < m) : hvP w i j = hvP w j i := by
  rw [hvP_eq h hi hj, hvP_eq h hj hi, bothN_comm]
theorem bad_eq {i j : Nat} (hi : i < m) (hj : j < m) : pairBad w i j = (decide (i < j) && !(hvE w i j) && !(hvP w i j)) := by
  unfold pairBad
  rw [hvP_eq h hi hj, common_eq h (by omega) (by omega) (by omega) (by omega), Option.getD_some, tmod2]
  congr 1
  rw [Bool.eq_iff_iff, beq_iff_eq, Bool.not_eq_true', beq_eq_false_iff_ne]
  omega
theorem laced_ij {i j : Nat} (hi : i < m) (hj : j < m) : Ev (fun k => spec_loLaced.f k w ((wrap64 (97 + (i : Int))) % 256) ((wrap64 (97 + (j : Int))) % 256)) (hvE w i j) := by
  have hf := h.few
  rw [w64 (x := 97 + (i : Int)) (by omega) (by omega), w64 (x := 97 + (j : Int)) (by omega) (by omega), show (97 + (i : Int)) % 256 = 97 + (i : Int) by omega, show (97 + (j : Int)) % 256 = 97 + (j : Int) by omega, hvE_eq h hi hj]
  exact loLaced_ev h (by omega) (by omega)
theorem both_l0 {a b : Int} (h1 : 97 ≤ a) (h2 : a < 97 + (m : Int)) (h3 : 97 ≤ b) (h4 : b < 97 + (m : Int)) : ∀ (d i : Nat) (t : Nat), i + d = m → t ≤ i → Ev (fun k => spec_loBoth.l0 k w a b (t : Int) (i : Int)) ((t + (lettP (fun c => lacedL (bytesOf w) a c && lacedL (bytesOf w) b c) (97 + (i : Int)) d).length : Nat) : Int)
  | 0, i, t, hd, ht => by
    have hl := bytesOf_length w
    have hlen := h.len
    have hf := h.few
    refine Ev.step (fun k => by rw [spec_loBoth.l0]) ?_
    rw [w64 (x := (w.size : Int) / 2) (by omega) (by omega)]
    exact Ev.neg (by omega) (Ev.val (by simp [lettP]))
  | d + 1, i, t, hd, ht => by
    have hl := bytesOf_length w
    have hlen := h.len
    have hf := h.few
    refine Ev.step (fun k => by rw [spec_loBoth.l0]) ?_
    rw [w64 (x := (w.size : Int) / 2) (by omega) (by omega), w64 (x := 97 + (i : Int)) (by omega) (by omega), show (97 + (i : Int)) % 256 = 97 + (i : Int) by omega, w64 (x := (i : Int) + 1) (by omega) (by omega), w64 (x := (t : Int) + 1) (by omega) (by omega)]
    have ih := fun t' ht' => both_l0 h1 h2 h3 h4 d (i + 1) t' (by omega) ht'
    rw [show (97 : Int) + ((i + 1 : Nat) : Int) = 97 + (i : Int) + 1 by omega, show (((i + 1 : Nat)) : Int) = (i : Int) + 1 by omega] at ih
    refine Ev.pos (by omega) (Ev.bindk (loLaced_ev h h1 h2) ?_)
    rw [lettP]
    cases e1 : lacedL (bytesOf w) a (97 + (i : Int)) with
    | false =>
      refine Ev.neg (by decide) ?_
      simpa using ih t (by omega)
    | true =>
      refine Ev.pos rfl (Ev.bindk (loLaced_ev h h3 h4) ?_)
      cases e2 : lacedL (bytesOf w) b (97 + (i : Int)) with
      | false =>
        refine Ev.neg (by decide) ?_
        simpa using ih t (by omega)
      | true =>
        refine Ev.pos rfl ?_
        have e := ih (t + 1) (by omega)
        rw [show (((t + 1 : Nat)) : Int) = (t : Int) + 1 by omega] at e
        refine cast ?_ e
        congr 1
        simp
        omega
theorem both_ij {i j : Nat} (hi : i < m) (hj : j < m) : Ev (fun k => spec_loBoth.f k w ((wrap64 (97 + (i : Int))) % 256) ((wrap64 (97 + (j : Int))) % 256)) ((bothN (bytesOf w) m (97 + (i : Int)) (97 + (j : Int)) : Nat) : Int) := by
  have hf := h.few
  rw [w64 (x := 97 + (i : Int)) (by omega) (by omega), w64 (x := 97 + (j : Int)) (by omega) (by omega), show (97 + (i : Int)) % 256 = 97 + (i : Int) by omega, show (97 + (j : Int)) % 256 = 97 + (j : Int) by omega]
  unfold spec_loBoth.f bothN
  have e := both_l0 h (a := 97 + (i : Int)) (b := 97 + (j : Int)) (by omega) (by omega) (by omega) (by omega) m 0 0 (by omega) (by omega)
  simpa using e
end

/-- Whether a number's bits fit two letters. -/
def okV (E P : Nat → Nat → Bool) (v a b : Nat) : Bool := !(E a b) || ((bitH v a != bitH v b) == P a b)
def rowV (E P : Nat → Nat → Bool) (v a : Nat) : Nat → Nat → Bool
  | 0, _ => true
  | d + 1, b => okV E P v a b && rowV E P v a d (b + 1)
def allV (E P : Nat → Nat → Bool) (v : Nat) : Nat → Nat → Bool
  | 0, _ => true
  | d + 1, a => rowV E P v a a 0 && allV E P v d (a + 1)
def anyV (E P : Nat → Nat → Bool) (n : Nat) : Nat → Nat → Bool
  | 0, _ => false
  | d + 1, v => allV E P v n 0 || anyV E P n d (v + 1)
theorem rowV_iff (E P : Nat → Nat → Bool) (v a : Nat) : ∀ (d b : Nat), rowV E P v a d b = true ↔ ∀ q, b ≤ q → q < b + d → okV E P v a q = true
  | 0, b => by simp [rowV]; intro q h1 h2; omega
  | d + 1, b => by
    rw [rowV, Bool.and_eq_true, rowV_iff E P v a d (b + 1)]
    constructor
    · rintro ⟨h1, h2⟩ q h3 h4
      by_cases e : q = b
      · subst e; exact h1
      · exact h2 q (by omega) (by omega)
    · intro h
      exact ⟨h b (by omega) (by omega), fun q h1 h2 => h q (by omega) (by omega)⟩
theorem allV_iff (E P : Nat → Nat → Bool) (v : Nat) : ∀ (d a : Nat), allV E P v d a = true ↔ ∀ q, a ≤ q → q < a + d → rowV E P v q q 0 = true
  | 0, b => by simp [allV]; intro q h1 h2; omega
  | d + 1, b => by
    rw [allV, Bool.and_eq_true, allV_iff E P v d (b + 1)]
    constructor
    · rintro ⟨h1, h2⟩ q h3 h4
      by_cases e : q = b
      · subst e; exact h1
      · exact h2 q (by omega) (by omega)
    · intro h
      exact ⟨h b (by omega) (by omega), fun q h1 h2 => h q (by omega) (by omega)⟩
theorem anyV_iff (E P : Nat → Nat → Bool) (n : Nat) : ∀ (d v : Nat), anyV E P n d v = true ↔ ∃ q, v ≤ q ∧ q < v + d ∧ allV E P q n 0 = true
  | 0, v => by simp [anyV]; intro q h1 h2; omega
  | d + 1, v => by
    rw [anyV, Bool.or_eq_true, anyV_iff E P n d (v + 1)]
    constructor
    · rintro (h | ⟨q, h1, h2, h3⟩)
      · exact ⟨v, by omega, by omega, h⟩
      · exact ⟨q, by omega, by omega, h3⟩
    · rintro ⟨q, h1, h2, h3⟩
      by_cases e : q = v
      · subst e; exact .inl h3
      · exact .inr ⟨q, by omega, by omega, h3⟩
theorem okV_iff (E P : Nat → Nat → Bool) (v a b : Nat) : okV E P v a b = true ↔ (E a b = true → ((bitH v a ≠ bitH v b) ↔ P a b = true)) := by
  unfold okV
  cases E a b <;> cases hp : P a b <;> by_cases e : bitH v a = bitH v b <;> simp [e]
theorem anyV_valid {n : Nat} {E P : Nat → Nat → Bool} (sE : ∀ a b, a < n → b < n → E a b = E b a) (sP : ∀ a b, a < n → b < n → P a b = P b a) : anyV E P n (2 ^ n) 0 = true ↔ ∃ s, ValidH n E P s := by
  rw [← bits_iff sE sP, anyV_iff]
  constructor
  · rintro ⟨v, _, h1, h2⟩
    refine ⟨v, by omega, fun a b ha hb => ?_⟩
    exact (okV_iff E P v a b).1 ((rowV_iff E P v a a 0).1 ((allV_iff E P v n 0).1 h2 a (by omega) (by omega)) b (by omega) (by omega))
  · rintro ⟨v, h1, h2⟩
    refine ⟨v, by omega, by omega, (allV_iff E P v n 0).2 fun a _ ha => (rowV_iff E P v a a 0).2 fun b _ hb => (okV_iff E P v a b).2 (h2 a b (by omega) (by omega))⟩
theorem shl_small : ∀ n : Fin 9, shl .i64 1 (n.val : Int) = ((2 ^ n.val : Nat) : Int) := by decide +kernel
theorem bit_small : ∀ a : Fin 8, ∀ v : Fin 256, Go.bits .and .i64 (shr .i64 (v.val : Int) (a.val : Int)) 1 = ((bitH v.val a.val : Nat) : Int) := by decide +kernel

section
variable {w : ByteArray} {m : Nat} (h : M.Loop (bytesOf w) m)
include h
theorem draw_l4 (v a : Nat) (hv : v < 2 ^ m) (ha : a < m) (r : Bool) : ∀ (d b : Nat) (g : Bool), b + d = a → Ev (fun k => spec_loDrawn.l3 k w (m : Int) (v : Int) (g && rowV (hvE w) (hvP w) v a d b) ((a : Int) + 1)) r →
    Ev (fun k => spec_loDrawn.l4 k w (m : Int) (v : Int) g (a : Int) (b : Int)) r
  | 0, b, g, hd, hr => by
    have hf := h.few
    refine Ev.step (fun k => by rw [spec_loDrawn.l4]) ?_
    rw [w64 (x := (a : Int) + 1) (by omega) (by omega)]
    refine Ev.neg (by omega) ?_
    simpa [rowV] using hr
  | d + 1, b, g, hd, hr => by
    have hf := h.few
    have hv8 : v < 256 := Nat.lt_of_lt_of_le hv (show 2 ^ m ≤ 2 ^ 8 from Nat.pow_le_pow_right (by omega) hf)
    refine Ev.step (fun k => by rw [spec_loDrawn.l4]) ?_
    have hb1 := bit_small ⟨a, by omega⟩ ⟨v, hv8⟩
    have hb2 := bit_small ⟨b, by omega⟩ ⟨v, hv8⟩
    dsimp only at hb1 hb2
    rw [hb1, hb2, w64 (x := (b : Int) + 1) (by omega) (by omega)]
    have ih := fun g' => draw_l4 v a hv ha r d (b + 1) g' (by omega)
    rw [show (((b + 1 : Nat)) : Int) = (b : Int) + 1 by omega] at ih
    rw [rowV] at hr
    refine Ev.pos (by omega) (Ev.bindk (laced_ij h ha (by omega)) ?_)
    cases hE : hvE w a b with
    | false =>
      refine Ev.neg (by decide) (ih g ?_)
      have : okV (hvE w) (hvP w) v a b = true := by unfold okV; rw [hE]; rfl
      rw [this, Bool.true_and] at hr
      exact hr
    | true =>
      refine Ev.pos rfl (Ev.pos (by omega) (Ev.pos (by omega) (Ev.bindk (both_ij h ha (by omega)) ?_)))
      rw [tmod2]
      have hP := hvP_eq h ha (show b < m by omega)
      generalize bothN (bytesOf w) m (97 + (a : Int)) (97 + (b : Int)) = c at hP ⊢
      have e1 : (((bitH v a : Nat) : Int) != ((bitH v b : Nat) : Int)) = (bitH v a != bitH v b) := by
        rw [Bool.eq_iff_iff, bne_iff_ne, bne_iff_ne]; omega
      have e2 : (((c % 2 : Nat) : Int) == 0) = hvP w a b := by
        rw [hP, Bool.eq_iff_iff, beq_iff_eq, beq_iff_eq]; omega
      rw [e1, e2]
      have hok : okV (hvE w) (hvP w) v a b = ((bitH v a != bitH v b) == hvP w a b) := by unfold okV; rw [hE]; rfl
      rw [hok] at hr
      cases e3 : (bitH v a != bitH v b) == hvP w a b with
      | true =>
        rw [e3, Bool.true_and] at hr
        refine Ev.neg ?_ (ih g hr)
        have := beq_iff_eq.1 e3
        rw [this]
        simp
      | false =>
        rw [e3, Bool.false_and, Bool.and_false] at hr
        refine Ev.pos ?_ (ih false (by rw [Bool.false_and]; exact hr))
        exact bne_iff_ne.2 (beq_eq_false_iff_ne.1 e3)
theorem draw_l3 (v : Nat) (hv : v < 2 ^ m) (r : Bool) : ∀ (d a : Nat) (g : Bool), a + d = m → (if (g && allV (hvE w) (hvP w) v d a) = true then r = true else Ev (fun k => spec_loDrawn.l2 k w (m : Int) ((v : Int) + 1)) r) →
    Ev (fun k => spec_loDrawn.l3 k w (m : Int) (v : Int) g (a : Int)) r
  | 0, a, g, hd, hr => by
    have hf := h.few
    have hv8 : v < 256 := Nat.lt_of_lt_of_le hv (show 2 ^ m ≤ 2 ^ 8 from Nat.pow_le_pow_right (by omega) hf)
    refine Ev.step (fun k => by rw [spec_loDrawn.l3]) (Ev.neg (by omega) ?_)
    refine Ev.step (fun k => by rw [spec_loDrawn.j4]) (Ev.neg (by decide) ?_)
    rw [allV, Bool.and_true] at hr
    cases g with
    | true => exact Ev.pos rfl (Ev.val (by rw [if_pos rfl] at hr; exact hr.symm))
    | false =>
      rw [w64 (x := (v : Int) + 1) (by omega) (by omega)]
      rw [if_neg (by decide)] at hr
      exact Ev.neg (by decide) hr
  | d + 1, a, g, hd, hr => by
    have hf := h.few
    have hv8 : v < 256 := Nat.lt_of_lt_of_le hv (show 2 ^ m ≤ 2 ^ 8 from Nat.pow_le_pow_right (by omega) hf)
    refine Ev.step (fun k => by rw [spec_loDrawn.l3]) (Ev.pos (by omega) ?_)
    refine Ev.step (fun k => by rw [spec_loDrawn.j4]) ?_
    cases g with
    | false =>
      rw [w64 (x := (v : Int) + 1) (by omega) (by omega)]
      rw [Bool.false_and, if_neg (by decide)] at hr
      exact Ev.neg (by decide) (Ev.neg (by decide) hr)
    | true =>
      refine Ev.pos rfl ?_
      refine draw_l4 h v a hv (by omega) r a 0 true (by omega) ?_
      have ih := draw_l3 v hv r d (a + 1) (true && rowV (hvE w) (hvP w) v a a 0) (by omega)
      rw [show (((a + 1 : Nat)) : Int) = (a : Int) + 1 by omega] at ih
      refine ih ?_
      rw [allV, Bool.true_and] at hr
      rw [Bool.true_and]
      exact hr
theorem draw_l2 : ∀ (d v : Nat), v + d = 2 ^ m → Ev (fun k => spec_loDrawn.l2 k w (m : Int) (v : Int)) (anyV (hvE w) (hvP w) m d v)
  | 0, v, hd => by
    have hf := h.few
    have hs := shl_small ⟨m, by omega⟩
    dsimp only at hs
    refine Ev.step (fun k => by rw [spec_loDrawn.l2]) (Ev.pos (by omega) ?_)
    rw [hs]
    exact Ev.neg (by omega) (Ev.val rfl)
  | d + 1, v, hd => by
    have hf := h.few
    have hs := shl_small ⟨m, by omega⟩
    dsimp only at hs
    refine Ev.step (fun k => by rw [spec_loDrawn.l2]) (Ev.pos (by omega) ?_)
    rw [hs]
    refine Ev.pos (by omega) (draw_l3 h v (by omega) _ m 0 true (by omega) ?_)
    rw [Bool.true_and, anyV]
    cases e : allV (hvE w) (hvP w) v m 0 with
    | true => rw [if_pos rfl]; rfl
    | false =>
      rw [if_neg (by decide), Bool.false_or]
      have ih := draw_l2 d (v + 1) (by omega)
      rwa [show (((v + 1 : Nat)) : Int) = (v : Int) + 1 by omega] at ih
/-- Whether no earlier letter keeps a loop from being drawn together with one. -/
def clean1 (w : ByteArray) (a : Nat) : Nat → Nat → Bool
  | 0, _ => true
  | d + 1, b => !(pairBad w b a) && clean1 w a d (b + 1)
def clean0 (w : ByteArray) : Nat → Nat → Bool
  | 0, _ => true
  | d + 1, a => clean1 w a a 0 && clean0 w d (a + 1)
theorem draw_l1 (a : Nat) (ha : a < m) (r : Bool) : ∀ (d b : Nat), b + d = a → (if clean1 w a d b = true then Ev (fun k => spec_loDrawn.l0 k w (m : Int) ((a : Int) + 1)) r else r = false) → Ev (fun k => spec_loDrawn.l1 k w (m : Int) (a : Int) (b : Int)) r
  | 0, b, hd, hr => by
    have hf := h.few
    refine Ev.step (fun k => by rw [spec_loDrawn.l1]) (Ev.neg (by omega) ?_)
    rw [w64 (x := (a : Int) + 1) (by omega) (by omega)]
    rw [clean1, if_pos rfl] at hr
    exact hr
  | d + 1, b, hd, hr => by
    have hf := h.few
    have hbm : b < m := by omega
    have hbad := bad_eq h hbm ha
    rw [decide_eq_true (show b < a by omega), Bool.true_and, symE h hbm ha, symP h hbm ha] at hbad
    have ih := draw_l1 a ha r d (b + 1) (by omega)
    rw [show (((b + 1 : Nat)) : Int) = (b : Int) + 1 by omega] at ih
    refine Ev.step (fun k => by rw [spec_loDrawn.l1]) (Ev.pos (by omega) (Ev.bindk (laced_ij h ha hbm) ?_))
    rw [w64 (x := (b : Int) + 1) (by omega) (by omega)]
    rw [clean1, hbad] at hr
    cases hE : hvE w a b with
    | true =>
      rw [hE] at hr
      exact Ev.pos rfl (ih (by simpa using hr))
    | false =>
      rw [hE] at hr
      refine Ev.neg (by decide) (Ev.bindk (both_ij h ha hbm) ?_)
      rw [tmod2]
      have hP := hvP_eq h ha hbm
      generalize bothN (bytesOf w) m (97 + (a : Int)) (97 + (b : Int)) = c at hP ⊢
      cases hv : hvP w a b with
      | true =>
        rw [hv] at hr hP
        have := beq_iff_eq.1 hP.symm
        exact Ev.pos (by omega) (ih (by simpa using hr))
      | false =>
        rw [hv] at hr hP
        have := beq_eq_false_iff_ne.1 hP.symm
        exact Ev.neg (by omega) (Ev.val (by simpa using hr.symm))
theorem draw_l0 (r : Bool) : ∀ (d a : Nat), a + d = m → (if clean0 w d a = true then r = anyV (hvE w) (hvP w) m (2 ^ m) 0 else r = false) → Ev (fun k => spec_loDrawn.l0 k w (m : Int) (a : Int)) r
  | 0, a, hd, hr => by
    refine Ev.step (fun k => by rw [spec_loDrawn.l0]) (Ev.neg (by omega) ?_)
    rw [clean0, if_pos rfl] at hr
    rw [hr]
    exact draw_l2 h (2 ^ m) 0 (by omega)
  | d + 1, a, hd, hr => by
    refine Ev.step (fun k => by rw [spec_loDrawn.l0]) ?_
    refine Ev.pos (by omega) ?_
    refine draw_l1 h a (by omega) r a 0 (by omega) ?_
    rw [clean0] at hr
    have ih := draw_l0 r d (a + 1) (by omega)
    rw [show (((a + 1 : Nat)) : Int) = (a : Int) + 1 by omega] at ih
    cases e : clean1 w a a 0 with
    | true =>
      rw [e, Bool.true_and] at hr
      rw [if_pos rfl]
      exact ih hr
    | false =>
      rw [e, Bool.false_and, if_neg (by decide)] at hr
      rw [if_neg (by decide)]
      exact hr
end
theorem clean1_iff (w : ByteArray) (a : Nat) : ∀ (d b : Nat), clean1 w a d b = true ↔ ∀ q, b ≤ q → q < b + d → pairBad w q a = false
  | 0, b => by simp [clean1]; intro q h1 h2; omega
  | d + 1, b => by
    rw [clean1, Bool.and_eq_true, clean1_iff w a d (b + 1), Bool.not_eq_true']
    constructor
    · rintro ⟨h1, h2⟩ q h3 h4
      by_cases e : q = b
      · subst e; exact h1
      · exact h2 q (by omega) (by omega)
    · intro h
      exact ⟨h b (by omega) (by omega), fun q h1 h2 => h q (by omega) (by omega)⟩
theorem clean0_iff (w : ByteArray) : ∀ (d a : Nat), clean0 w d a = true ↔ ∀ q, a ≤ q → q < a + d → clean1 w q q 0 = true
  | 0, b => by simp [clean0]; intro q h1 h2; omega
  | d + 1, b => by
    rw [clean0, Bool.and_eq_true, clean0_iff w d (b + 1)]
    constructor
    · rintro ⟨h1, h2⟩ q h3 h4
      by_cases e : q = b
      · subst e; exact h1
      · exact h2 q (by omega) (by omega)
    · intro h
      exact ⟨h b (by omega) (by omega), fun q h1 h2 => h q (by omega) (by omega)⟩
theorem clean_any (w : ByteArray) (n : Nat) : clean0 w n 0 = !(anyBad w n) := by
  have hlt : ∀ i j, pairBad w i j = true → i < j := fun i j h => by
    unfold pairBad at h
    simp only [Bool.and_eq_true, decide_eq_true_eq] at h
    exact h.1.1
  cases e : anyBad w n with
  | false =>
    refine (clean0_iff w n 0).2 fun a _ ha => (clean1_iff w a a 0).2 fun b _ hb => ?_
    cases hb2 : pairBad w b a with
    | false => rfl
    | true => rw [anyBad_some (by omega) (by omega) hb2] at e; cases e
  | true =>
    cases e2 : clean0 w n 0 with
    | false => rfl
    | true =>
      exfalso
      have : anyBad w n = false := anyBad_none fun i j hi hj => by
        cases hb : pairBad w i j with
        | false => rfl
        | true =>
          have := (clean1_iff w j j 0).1 ((clean0_iff w n 0).1 e2 j (by omega) (by omega)) i (by omega) (by have := hlt i j hb; omega)
          rw [hb] at this
          cases this
      rw [e] at this
      cases this
/-- Whether a loop can be drawn. -/
def drawnL (w : ByteArray) (m : Nat) : Bool := evR (bytesOf w) m m 97 && !(anyBad w m) && anyV (hvE w) (hvP w) m (2 ^ m) 0
theorem loDrawn_ev {w : ByteArray} {m : Nat} (h : M.Loop (bytesOf w) m) : Ev (fun k => spec_loDrawn.f k w) (drawnL w m) := by
  have hl := bytesOf_length w
  have hlen := h.len
  have hf := h.few
  unfold spec_loDrawn.f drawnL
  refine Ev.bindk (loEven_ev h) ?_
  cases e : evR (bytesOf w) m m 97 with
  | false => exact Ev.neg (by decide) (Ev.val rfl)
  | true =>
    refine Ev.pos rfl ?_
    rw [w64 (x := (w.size : Int) / 2) (by omega) (by omega), show (w.size : Int) / 2 = (m : Int) by omega]
    refine draw_l0 h _ m 0 (by omega) ?_
    rw [clean_any, Bool.true_and]
    cases anyBad w m <;> simp
theorem canBeDrawn_ev {w : ByteArray} {m : Nat} (h : M.Loop (bytesOf w) m) : Ev (fun k => impl_canBeDrawn.f k w) (drawnL w m) := by
  have hl := bytesOf_length w
  have hlen := h.len
  have hf := h.few
  have hm : w.size / 2 = m := by omega
  unfold impl_canBeDrawn.f drawnL
  refine Ev.bindc (isEven_eq h) ?_
  cases e : evR (bytesOf w) m m 97 with
  | false => exact Ev.neg (by decide) (Ev.val rfl)
  | true =>
    have hok : okAll w = true := by
      unfold okAll
      rw [hm, Bool.and_eq_true, decide_eq_true_eq, List.all_eq_true]
      refine ⟨by omega, fun c hc => ?_⟩
      have := (mem_abc m c).1 hc
      exact (interlacedWith_eq h this.1 this.2).1
    refine Ev.pos rfl (Ev.pos hok ?_)
    rw [hm]
    cases ea : anyBad w m with
    | true => exact Ev.pos rfl (Ev.val rfl)
    | false =>
      refine Ev.neg (by decide) ?_
      obtain ⟨b, hb1, hb2⟩ := search_ok (n := m) (E := hvE w) (P := hvP w) (by omega) (fun i j hi hj => symE h hi hj) (fun i j hi hj => symP h hi hj)
      have hbv : anyV (hvE w) (hvP w) m (2 ^ m) 0 = b := by
        rw [Bool.eq_iff_iff, anyV_valid (fun i j hi hj => symE h hi hj) (fun i j hi hj => symP h hi hj), hb2]
      rw [hbv]
      obtain ⟨Z, hZ⟩ := hb1
      refine ⟨Z, fun k hk => ?_⟩
      have := hZ k hk
      unfold impl_haveHalves.f
      simp only [hok, if_true, hm]
      rw [Nat.sub_zero] at this
      rw [this]
      rfl
end Go.Proofs.YtcgoaipbfnhjhaaGreatDoor.M

/- Whether a loop can be drawn, told of the table of what is interlaced; two loops one behind the other. Plain lists, no program. -/
namespace Go.Proofs.YtcgoaipbfnhjhaaGreatDoor.M
set_option linter.unusedVariables false
set_option linter.unusedSimpArgs false

def degM (E : Nat → Nat → Bool) (n a : Nat) : Nat := (List.range n).countP (fun c => E a c)
def bothM (E : Nat → Nat → Bool) (n a b : Nat) : Nat := (List.range n).countP (fun c => E a c && E b c)
def DrawnM (n : Nat) (E : Nat → Nat → Bool) : Prop :=
  (∀ a, a < n → degM E n a % 2 = 0) ∧ (∀ a b, a < n → b < n → a ≠ b → E a b = false → bothM E n a b % 2 = 0) ∧ ∃ s, ValidH n E (fun a b => bothM E n a b % 2 == 0) s
theorem sg_eq {P Q : Nat → Nat → Bool} {a b c d : Nat} (h : P a b = Q c d) : sgH P a b = sgH Q c d := by
  unfold sgH
  rw [h]
theorem degM_congr {E F : Nat → Nat → Bool} {n a : Nat} (h : ∀ b, b < n → E a b = F a b) : degM E n a = degM F n a :=
  List.countP_congr fun c hc => by rw [h c (List.mem_range.1 hc)]
theorem bothM_congr {E F : Nat → Nat → Bool} {n a b : Nat} (h : ∀ c, c < n → E a c = F a c ∧ E b c = F b c) : bothM E n a b = bothM F n a b :=
  List.countP_congr fun c hc => by
    have := h c (List.mem_range.1 hc)
    rw [this.1, this.2]
theorem drawnM_of {n : Nat} {E F : Nat → Nat → Bool} (h : ∀ a b, a < n → b < n → E a b = F a b) (hd : DrawnM n E) : DrawnM n F := by
  obtain ⟨h1, h2, s, h3, h4⟩ := hd
  have hb : ∀ a b, a < n → b < n → bothM E n a b = bothM F n a b := fun a b ha hb => bothM_congr fun c hc => ⟨h a c ha hc, h b c hb hc⟩
  refine ⟨fun a ha => ?_, fun a b ha hb' hn he => ?_, s, h3, fun a b ha hb' hn he => ?_⟩
  · rw [← degM_congr (fun b hb => h a b ha hb)]; exact h1 a ha
  · rw [← hb a b ha hb']; exact h2 a b ha hb' hn (by rw [h a b ha hb']; exact he)
  · have e := h4 a b ha hb' hn (by rw [h a b ha hb']; exact he)
    exact e.trans (congrArg (s a * ·) (sg_eq (by rw [hb a b ha hb'])))
theorem drawnM_congr {n : Nat} {E F : Nat → Nat → Bool} (h : ∀ a b, a < n → b < n → E a b = F a b) : DrawnM n E ↔ DrawnM n F :=
  ⟨drawnM_of h, drawnM_of fun a b ha hb => (h a b ha hb).symm⟩
/-- Two tables one behind the other. -/
def joinM (n : Nat) (E F : Nat → Nat → Bool) (a b : Nat) : Bool := if a < n then (if b < n then E a b else false) else if b < n then false else F (a - n) (b - n)
theorem count_add (p : Nat → Bool) (n k : Nat) : (List.range (n + k)).countP p = (List.range n).countP p + (List.range k).countP (fun c => p (n + c)) := by
  rw [List.range_add, List.countP_append, List.countP_map]
  rfl
theorem count_none (p : Nat → Bool) (n : Nat) (h : ∀ c, c < n → p c = false) : (List.range n).countP p = 0 :=
  List.countP_eq_zero.2 fun c hc => by rw [h c (List.mem_range.1 hc)]; decide
section
variable {n k : Nat} {E F : Nat → Nat → Bool}
theorem join_lo {a b : Nat} (ha : a < n) (hb : b < n) : joinM n E F a b = E a b := by rw [joinM, if_pos ha, if_pos hb]
theorem join_hi (a b : Nat) : joinM n E F (n + a) (n + b) = F a b := by rw [joinM, if_neg (by omega), if_neg (by omega), Nat.add_sub_cancel_left, Nat.add_sub_cancel_left]
theorem join_lh {a : Nat} (ha : a < n) (b : Nat) : joinM n E F a (n + b) = false := by rw [joinM, if_pos ha, if_neg (by omega)]
theorem join_hl {b : Nat} (a : Nat) (hb : b < n) : joinM n E F (n + a) b = false := by rw [joinM, if_neg (by omega), if_pos hb]
theorem deg_lo {a : Nat} (ha : a < n) : degM (joinM n E F) (n + k) a = degM E n a := by
  unfold degM
  rw [count_add, count_none _ k (fun c _ => join_lh ha c), Nat.add_zero]
  exact List.countP_congr fun c hc => by rw [join_lo ha (List.mem_range.1 hc)]
theorem deg_hi (a : Nat) : degM (joinM n E F) (n + k) (n + a) = degM F k a := by
  unfold degM
  rw [count_add, count_none _ n (fun c hc => join_hl a hc), Nat.zero_add]
  exact List.countP_congr fun c hc => by rw [join_hi]
theorem both_lo {a b : Nat} (ha : a < n) (hb : b < n) : bothM (joinM n E F) (n + k) a b = bothM E n a b := by
  unfold bothM
  rw [count_add, count_none _ k (fun c _ => by rw [join_lh ha c]; rfl), Nat.add_zero]
  exact List.countP_congr fun c hc => by rw [join_lo ha (List.mem_range.1 hc), join_lo hb (List.mem_range.1 hc)]
theorem both_hi (a b : Nat) : bothM (joinM n E F) (n + k) (n + a) (n + b) = bothM F k a b := by
  unfold bothM
  rw [count_add, count_none _ n (fun c hc => by rw [join_hl a hc]; rfl), Nat.zero_add]
  exact List.countP_congr fun c hc => by rw [join_hi, join_hi]
theorem both_lh {a : Nat} (ha : a < n) (b : Nat) : bothM (joinM n E F) (n + k) a (n + b) = 0 := by
  unfold bothM
  rw [count_add, count_none _ n (fun c hc => by rw [join_hl b hc, Bool.and_false]), count_none _ k (fun c _ => by rw [join_lh ha c]; rfl)]
theorem both_hl {b : Nat} (a : Nat) (hb : b < n) : bothM (joinM n E F) (n + k) (n + a) b = 0 := by
  unfold bothM
  rw [count_add, count_none _ n (fun c hc => by rw [join_hl a hc]; rfl), count_none _ k (fun c _ => by rw [join_lh hb c, Bool.and_false])]
theorem drawnM_join : DrawnM (n + k) (joinM n E F) ↔ DrawnM n E ∧ DrawnM k F := by
  constructor
  · rintro ⟨h1, h2, s, h3, h4⟩
    refine ⟨⟨fun a ha => ?_, fun a b ha hb hn he => ?_, s, h3, fun a b ha hb hn he => ?_⟩, fun a ha => ?_, fun a b ha hb hn he => ?_, fun j => s (n + j), fun j => h3 _, fun a b ha hb hn he => ?_⟩
    · rw [← deg_lo (F := F) (k := k) ha]; exact h1 a (by omega)
    · rw [← both_lo (F := F) (k := k) ha hb]; exact h2 a b (by omega) (by omega) hn (by rw [join_lo ha hb]; exact he)
    · have e := h4 a b (by omega) (by omega) hn (by rw [join_lo ha hb]; exact he)
      exact e.trans (congrArg (s a * ·) (sg_eq (by rw [both_lo ha hb])))
    · rw [← deg_hi (n := n) (E := E)]; exact h1 (n + a) (by omega)
    · rw [← both_hi (n := n) (E := E)]; exact h2 (n + a) (n + b) (by omega) (by omega) (by omega) (by rw [join_hi]; exact he)
    · have e := h4 (n + a) (n + b) (by omega) (by omega) (by omega) (by rw [join_hi]; exact he)
      exact e.trans (congrArg (s (n + a) * ·) (sg_eq (by rw [both_hi])))
  · rintro ⟨⟨h1, h2, s, h3, h4⟩, g1, g2, t, g3, g4⟩
    have sp : ∀ a, a < n + k → a < n ∨ ∃ c, a = n + c ∧ c < k := fun a ha => by
      by_cases e : a < n
      · exact .inl e
      · exact .inr ⟨a - n, by omega, by omega⟩
    refine ⟨fun a ha => ?_, fun a b ha hb hn he => ?_, fun j => if j < n then s j else t (j - n), fun j => ?_, fun a b ha hb hn he => ?_⟩
    · rcases sp a ha with ha | ⟨c, rfl, hc⟩
      · rw [deg_lo ha]; exact h1 a ha
      · rw [deg_hi]; exact g1 c hc
    · rcases sp a ha with ha | ⟨c, rfl, hc⟩ <;> rcases sp b hb with hb | ⟨d, rfl, hd⟩
      · rw [both_lo ha hb]; exact h2 a b ha hb hn (by rw [join_lo ha hb] at he; exact he)
      · rw [both_lh ha]
      · rw [both_hl _ hb]
      · rw [both_hi]; exact g2 c d hc hd (by omega) (by rw [join_hi] at he; exact he)
    · dsimp only
      split
      · exact h3 j
      · exact g3 _
    · dsimp only
      rcases sp a ha with ha | ⟨c, rfl, hc⟩ <;> rcases sp b hb with hb | ⟨d, rfl, hd⟩
      · rw [join_lo ha hb] at he
        have e := h4 a b ha hb hn he
        rw [if_pos ha, if_pos hb]
        exact e.trans (congrArg (s a * ·) (sg_eq (by rw [both_lo ha hb])))
      · rw [join_lh ha] at he; cases he
      · rw [join_hl _ hb] at he; cases he
      · rw [join_hi] at he
        have e := g4 c d hc hd (by omega) he
        rw [if_neg (by omega), if_neg (by omega), Nat.add_sub_cancel_left, Nat.add_sub_cancel_left]
        exact e.trans (congrArg (t c * ·) (sg_eq (by rw [both_hi])))
end
theorem lettP_len (p : Int → Bool) : ∀ (d : Nat) (x : Int), (lettP p x d).length = (List.range d).countP (fun i : Nat => p (x + (i : Int)))
  | 0, x => rfl
  | d + 1, x => by
    rw [List.range_succ_eq_map, List.countP_cons, List.countP_map]
    have ih := lettP_len p d (x + 1)
    have e : (List.range d).countP ((fun i : Nat => p (x + (i : Int))) ∘ Nat.succ) = (List.range d).countP (fun i : Nat => p (x + 1 + (i : Int))) :=
      List.countP_congr fun c _ => by
        show p (x + ((c + 1 : Nat) : Int)) = true ↔ _
        rw [show x + ((c + 1 : Nat) : Int) = x + 1 + (c : Int) by omega]
    rw [e, ← ih, lettP, show x + ((0 : Nat) : Int) = x by omega]
    split <;> rfl
/-- The table of a loop. -/
def tabM (w : List Int) (a b : Nat) : Bool := lacedL w (97 + (a : Int)) (97 + (b : Int))
/-- Letters moved on. -/
def movL (m : Nat) (l : List Int) : List Int := l.map fun x => x + (m : Int)
theorem mov_count (m : Nat) : ∀ (l : List Int) (x : Int), (movL m l).count (x + (m : Int)) = l.count x
  | [], x => rfl
  | y :: r, x => by
    have ec : movL m (y :: r) = (y + (m : Int)) :: movL m r := rfl
    rw [ec, List.count_cons, List.count_cons, mov_count m r x]
    by_cases e : y = x
    · subst e; simp
    · rw [show (y == x) = false by simpa using e, show (y + (m : Int) == x + (m : Int)) = false by simpa using e]
theorem mov_mem (m : Nat) (l : List Int) (x : Int) : x + (m : Int) ∈ movL m l ↔ x ∈ l := by
  unfold movL
  rw [List.mem_map]
  exact ⟨fun ⟨y, hy, e⟩ => by rw [show x = y by omega]; exact hy, fun h => ⟨x, h, rfl⟩⟩
theorem runL_app : ∀ (w v : List Int) (j J : Nat), runL j w = some J → runL j (w ++ v) = runL J v
  | [], v, j, J, h => by
    rw [runL] at h
    rw [Option.some.inj h]
    rfl
  | x :: r, v, j, J, h => by
    rw [List.cons_append, runL]
    rw [runL] at h
    by_cases h1 : 97 ≤ x ∧ x < 97 + (j : Int)
    · rw [if_pos h1] at h ⊢; exact runL_app r v j J h
    · rw [if_neg h1] at h ⊢
      by_cases h2 : x = 97 + (j : Int)
      · rw [if_pos h2] at h ⊢; exact runL_app r v (j + 1) J h
      · rw [if_neg h2] at h; cases h
theorem runL_mov (m : Nat) : ∀ (w : List Int) (j J : Nat), runL j w = some J → runL (m + j) (movL m w) = some (m + J)
  | [], j, J, h => by
    rw [runL] at h
    rw [← Option.some.inj h]
    rfl
  | x :: r, j, J, h => by
    have ec : movL m (x :: r) = (x + (m : Int)) :: movL m r := rfl
    rw [ec, runL]
    rw [runL] at h
    by_cases h1 : 97 ≤ x ∧ x < 97 + (j : Int)
    · rw [if_pos h1] at h
      rw [if_pos (by omega)]
      exact runL_mov m r j J h
    · rw [if_neg h1] at h
      by_cases h2 : x = 97 + (j : Int)
      · rw [if_pos h2] at h
        rw [if_neg (by omega), if_pos (by omega)]
        exact runL_mov m r (j + 1) J h
      · rw [if_neg h2] at h; cases h
section
variable {w v : List Int} {m k : Nat}
theorem join_loop (hw : Loop w m) (hv : Loop v k) (h8 : m + k ≤ 8) : Loop (w ++ movL m v) (m + k) := by
  have hmv : ∀ x ∈ movL m v, 97 + (m : Int) ≤ x ∧ x < 97 + ((m + k : Nat) : Int) := fun x hx => by
    obtain ⟨y, hy, e⟩ := List.mem_map.1 hx
    have e2 : y + (m : Int) = x := e
    have := hv.lo y hy
    have := hv.hi y hy
    omega
  refine ⟨by have := hw.len; have := hv.len; simp [movL]; omega, h8, ?_, fun x hx => ?_, fun x hx => ?_, fun i hi => ?_⟩
  · rw [runL_app w _ 0 m hw.run]
    have := runL_mov m v 0 k hv.run
    simpa using this
  · rcases List.mem_append.1 hx with h | h
    · exact hw.lo x h
    · have := hmv x h; omega
  · rcases List.mem_append.1 hx with h | h
    · have := hw.hi x h; omega
    · exact (hmv x h).2
  · rw [List.count_append]
    by_cases e : i < m
    · rw [hw.two i e, List.count_eq_zero.2 (fun h => by have := hmv _ h; omega)]
    · rw [List.count_eq_zero.2 (fun h => by have := hw.hi _ h; omega), show (97 : Int) + (i : Int) = (97 + ((i - m : Nat) : Int)) + (m : Int) by omega, mov_count, hv.two (i - m) (by omega)]
theorem join_tab (hw : Loop w m) (hv : Loop v k) {a b : Nat} (ha : a < m + k) (hb : b < m + k) : tabM (w ++ movL m v) a b = joinM m (tabM w) (tabM v) a b := by
  have hmv : ∀ x ∈ movL m v, 97 + (m : Int) ≤ x := fun x hx => by
    obtain ⟨y, hy, e⟩ := List.mem_map.1 hx
    have e2 : y + (m : Int) = x := e
    have := hv.lo y hy
    omega
  unfold joinM tabM lacedL
  by_cases h1 : a < m
  · rw [if_pos h1]
    obtain ⟨p, q, r, e, n1, n2, n3⟩ := two_parts _ w (hw.two a h1)
    have e2 : w ++ movL m v = p ++ (97 + (a : Int)) :: (q ++ (97 + (a : Int)) :: (r ++ movL m v)) := by rw [e]; simp
    rw [e2, mid_parts n1 n2]
    by_cases h2 : b < m
    · rw [if_pos h2, e, mid_parts n1 n2]
    · rw [if_neg h2, List.count_eq_zero.2 (fun h => by
        have := hw.hi _ (show (97 + (b : Int)) ∈ w by rw [e]; simp [h])
        omega)]
      rfl
  · rw [if_neg h1]
    obtain ⟨p, q, r, e, n1, n2, n3⟩ := two_parts _ v (hv.two (a - m) (by omega))
    have ea : (97 : Int) + (a : Int) = (97 + ((a - m : Nat) : Int)) + (m : Int) := by omega
    have e2 : w ++ movL m v = (w ++ movL m p) ++ (97 + (a : Int)) :: (movL m q ++ (97 + (a : Int)) :: movL m r) := by rw [e, ea]; simp [movL]
    have na : (97 + (a : Int)) ∉ w := fun h => by have := hw.hi _ h; omega
    rw [e2, mid_parts (by rw [List.mem_append, not_or]; exact ⟨na, by rw [ea, mov_mem]; exact n1⟩) (by rw [ea, mov_mem]; exact n2)]
    by_cases h2 : b < m
    · rw [if_pos h2, List.count_eq_zero.2 (fun h => by
        obtain ⟨y, hy, ey⟩ := List.mem_map.1 h
        have ey2 : y + (m : Int) = 97 + (b : Int) := ey
        have := hv.lo y (by rw [e]; simp [hy])
        omega)]
      rfl
    · rw [if_neg h2, e, mid_parts n1 n2, show (97 : Int) + (b : Int) = (97 + ((b - m : Nat) : Int)) + (m : Int) by omega, mov_count]
theorem join_drawn (hw : Loop w m) (hv : Loop v k) : DrawnM (m + k) (tabM (w ++ movL m v)) ↔ DrawnM m (tabM w) ∧ DrawnM k (tabM v) := by
  rw [drawnM_congr (fun a b ha hb => join_tab hw hv ha hb), drawnM_join]
end
end Go.Proofs.YtcgoaipbfnhjhaaGreatDoor.M

/- Whether a loop can be drawn is told by its table alone. -/
namespace Go.Proofs.YtcgoaipbfnhjhaaGreatDoor.M
open Go.RowKit Go.Proofs.YtcgoaipbfnhjhaaGreatDoorW.PrintWords Go.Proofs.YtcgoaipbfnhjhaaGreatDoorW.PrintLast Go.Proofs.YtcgoaipbfnhjhaaGreatDoor.Pr
set_option linter.unusedVariables false
set_option linter.unusedSimpArgs false

theorem evR_iff (w : List Int) (m : Nat) : ∀ (d : Nat) (x : Int), evR w m d x = true ↔ ∀ i : Nat, i < d → oddL w m (x + (i : Int)) = false
  | 0, x => by simp [evR]
  | d + 1, x => by
    rw [evR, Bool.and_eq_true, evR_iff w m d (x + 1), Bool.not_eq_true']
    constructor
    · rintro ⟨h1, h2⟩ i hi
      by_cases e : i = 0
      · subst e
        rw [show x + ((0 : Nat) : Int) = x by omega]
        exact h1
      · have := h2 (i - 1) (by omega)
        rwa [show x + 1 + ((i - 1 : Nat) : Int) = x + (i : Int) by omega] at this
    · intro h
      refine ⟨?_, fun i hi => ?_⟩
      · have := h 0 (by omega)
        rwa [show x + ((0 : Nat) : Int) = x by omega] at this
      · have := h (i + 1) (by omega)
        rwa [show x + ((i + 1 : Nat) : Int) = x + 1 + (i : Int) by omega] at this
theorem odd_deg (w : List Int) (m i : Nat) : oddL w m (97 + (i : Int)) = false ↔ degM (tabM w) m i % 2 = 0 := by
  unfold oddL withL
  rw [lettP_len, beq_eq_false_iff_ne]
  show ¬ (((degM (tabM w) m i : Nat) : Int) % 2 = 1) ↔ _
  omega
theorem both_tab (w : List Int) (m i j : Nat) : bothN w m (97 + (i : Int)) (97 + (j : Int)) = bothM (tabM w) m i j := by
  unfold bothN
  rw [lettP_len]
  rfl
theorem valid_congr {n : Nat} {E P E' P' : Nat → Nat → Bool} (hE : ∀ a b, a < n → b < n → E a b = E' a b) (hP : ∀ a b, a < n → b < n → P a b = P' a b) {s : Nat → Int} (h : ValidH n E P s) : ValidH n E' P' s :=
  ⟨h.1, fun a b ha hb hn he => by
    have e := h.2 a b ha hb hn (by rw [hE a b ha hb]; exact he)
    exact e.trans (congrArg (s a * ·) (sg_eq (hP a b ha hb)))⟩
theorem drawnL_iff {w : ByteArray} {m : Nat} (h : Loop (bytesOf w) m) : drawnL w m = true ↔ DrawnM m (tabM (bytesOf w)) := by
  have eE : ∀ a b, a < m → b < m → hvE w a b = tabM (bytesOf w) a b := fun a b ha hb => hvE_eq h ha hb
  have eP : ∀ a b, a < m → b < m → hvP w a b = (bothM (tabM (bytesOf w)) m a b % 2 == 0) := fun a b ha hb => by rw [hvP_eq h ha hb, both_tab]
  have hbad : anyBad w m = false ↔ ∀ a b, a < m → b < m → a < b → tabM (bytesOf w) a b = false → bothM (tabM (bytesOf w)) m a b % 2 = 0 := by
    constructor
    · intro hf a b ha hb hlt he
      cases hp : pairBad w a b with
      | true => rw [anyBad_some ha hb hp] at hf; cases hf
      | false =>
        rw [bad_eq h ha hb, eE a b ha hb, he, eP a b ha hb, decide_eq_true hlt] at hp
        simpa using hp
    · intro hf
      refine anyBad_none fun a b ha hb => ?_
      rw [bad_eq h ha hb, eE a b ha hb, eP a b ha hb]
      by_cases hlt : a < b
      · cases he : tabM (bytesOf w) a b with
        | true => simp
        | false => rw [hf a b ha hb hlt he]; simp
      · rw [decide_eq_false hlt]; rfl
  have hcomm : ∀ a b, a < m → b < m → tabM (bytesOf w) a b = tabM (bytesOf w) b a := fun a b ha hb => laced_comm (h.cnt (by omega) (by omega)) (h.cnt (by omega) (by omega))
  have hbc : ∀ a b, bothM (tabM (bytesOf w)) m a b = bothM (tabM (bytesOf w)) m b a := fun a b => by
    rw [← both_tab, ← both_tab, bothN_comm]
  unfold drawnL
  rw [Bool.and_eq_true, Bool.and_eq_true, Bool.not_eq_true', evR_iff, hbad, anyV_valid (fun a b ha hb => symE h ha hb) (fun a b ha hb => symP h ha hb)]
  constructor
  · rintro ⟨⟨h1, h2⟩, s, hs⟩
    refine ⟨fun a ha => (odd_deg _ _ _).1 (h1 a ha), fun a b ha hb hn he => ?_, s, valid_congr eE eP hs⟩
    by_cases hlt : a < b
    · exact h2 a b ha hb hlt he
    · rw [hbc]
      exact h2 b a hb ha (by omega) (by rw [hcomm b a hb ha]; exact he)
  · rintro ⟨h1, h2, s, hs⟩
    exact ⟨⟨fun a ha => (odd_deg _ _ _).2 (h1 a ha), fun a b ha hb hlt he => h2 a b ha hb (by omega) he⟩, s, valid_congr (fun a b ha hb => (eE a b ha hb).symm) (fun a b ha hb => (eP a b ha hb).symm) hs⟩
end Go.Proofs.YtcgoaipbfnhjhaaGreatDoor.M
