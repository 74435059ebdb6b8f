/- Regions are as many as chords and crossings and one, pieces as chords and twice the crossings, and arcs are parted as shades tell. Condition: none. -/
import Derived.OwnWalk
import Derived.Deep.CutRange
import Derived.WalkSmall
import Derived.Deep.Slices
import Derived.Deep.Fields
import Derived.ChangeSame
import Derived.ChangeShapes
import Derived.Below
import Derived.Carry
import Derived.Lib.SmallJoins
import Derived.RowKit
import Derived.OpenShut
import Derived.Test.YtdjbdpgdhpobfaaRows
import Derived.WalkKit
import Derived.ProofKit
import Derived.ShutString
import Derived.ChangeOld
import Derived.SizedLaws
import Derived.ChangeSlices
import Derived.Test.YtdjbdpgdhpobfaaKFnRegionsPart0
import Derived.Test.YtdjbdpgdhpobfaaKFnRegionsPart1
import Derived.Test.YtdjbdpgdhpobfaaKFnRegionsPart2
import Derived.Test.YtdjbdpgdhpobfaaKFnRegionsPart3
import Derived.Test.YtdjbdpgdhpobfaaKFnRegionsPart4
set_option linter.unusedVariables false
set_option linter.unusedSimpArgs false
namespace Go.Proofs.Ytdjbdpgdhpobfaa.Pr
open Go.RowKit Go.Proofs.YtdjbdpgdhpobfaaW.PrintWords Go.Proofs.YtdjbdpgdhpobfaaW.PrintLast Go.Proofs.YtdjbdpgdhpobfaaW.PrintMore
attribute [local go_sem] max2_int min2_int max_two min_two max_three min_three max_four min_four
mutual
def spec_l1Cur_chords.l0 : Nat → Int → List (S60) → Int → List Int → Int → Int → Option (Int × (List (S60)) × Int × Int)
 | 0, _, _, _, _, _, _ => none
 | k + 1, x4, x5, x6, x1000, x1001, x1002 => (spec_l1Cur_pick.f x1000 x1001 x1002 2).bind fun bt428 => (if x6 < (wrap64 (40 + bt428.1)) then ((spec_srChord.f (Int.tmod x6 12) (Int.tmod (wrap64 ((wrap64 (x6 + 1)) + (wrap64 (Int.tdiv x6 12)))) 12)).bind fun bt431 => ((spec_srPut.f k x5 bt431.1 bt431.2).bind fun t433 => (spec_l1Cur_chords.l0 k x4 t433 (wrap64 (x6 + 1)) x1000 bt428.2.1 bt428.2.2))) else (some (x4, x5, bt428.2.1, bt428.2.2)))
def spec_l1Cur_chords.j1 : Nat → Int → List (S60) → Bool → List Int → Int → Int → Option (Int × (List (S60)) × Int × Int)
 | 0, _, _, _, _, _, _ => none
 | k + 1, x4, x5, x65, x1000, x1001, x1002 => if x65 = true then ((spec_l1Cur_pick.f x1000 x1001 x1002 5).bind fun bt447 => ((spec_cdPlane.f k (wrap64 (4 + (wrap64 (2 * bt447.1))))).bind fun t450 => (if 0 ≤ (wrap64 (4 + (wrap64 (2 * bt447.1)))) then (if (wrap64 (4 + (wrap64 (2 * bt447.1)))) < (t450.length : Int) then ((spec_l1Cur_pick.f x1000 bt447.2.1 bt447.2.2 (rd t450 (wrap64 (4 + (wrap64 (2 * bt447.1)))))).bind fun bt454 => ((spec_cdPlane.f k (wrap64 (4 + (wrap64 (2 * bt447.1))))).bind fun t457 => ((spec_cdOfRank.f k 0 (wrap64 (4 + (wrap64 (2 * bt447.1)))) bt454.1 t457).bind fun t460 => (some (wrap64 (4 + (wrap64 (2 * bt447.1))), t460, bt454.2.1, bt454.2.2))))) else (none)) else (none)))) else (some (x4, x5, x1001, x1002))
end
def spec_l1Cur_chords.f (k : Nat) (s0_0 : List Int) (s0_1 : Int) (s0_2 : Int) : Option (Int × (List (S60)) × Int × Int) := (spec_l1Cur_sureChords.f k s0_0 s0_1 s0_2 9).bind fun bt398 => ((spec_l1Cur_pick.f s0_0 bt398.2.2.1 bt398.2.2.2 18).bind fun bt404 => (if bt404.1 = 0 then ((spec_l1Cur_among.f s0_0 bt404.2.1 bt404.2.2 (([(-1), 2, 3, 60, 61, 4611686018427387904] : List Int))).bind fun bt410 => (some (bt410.1, bt398.2.1, bt410.2.1, bt410.2.2))) else (if bt404.1 = 1 then ((spec_l1Cur_among.f s0_0 bt404.2.1 bt404.2.2 (([(-1), 0, 2, 59, 4611686018427387904] : List Int))).bind fun bt416 => ((spec_l1Cur_among.f s0_0 bt416.2.1 bt416.2.2 (([(-1), 0, 3, 59, 60, 4611686018427387904] : List Int))).bind fun bt422 => (if bt398.2.1.length < 8796093022208 then (some (bt398.1, (bt398.2.1 ++ [(⟨bt416.1, bt422.1⟩ : S60)]), bt422.2.1, bt422.2.2)) else (none)))) else (if bt404.1 = 2 then (spec_l1Cur_chords.l0 k 12 ([] : List (S60)) 0 s0_0 bt404.2.1 bt404.2.2) else (if bt404.1 = 3 then ((spec_l1Cur_sureStar.f s0_0 bt404.2.1 bt404.2.2).bind fun bt436 => ((spec_srChords.f k bt436.1 bt436.2.1).bind fun t441 => (if (t441.length : Int) > 12 then (if 12 ≤ (t441.length : Int) then (some (bt436.1, (t441.take (12 : Int).toNat), bt436.2.2.1, bt436.2.2.2)) else (none)) else (some (bt436.1, t441, bt436.2.2.1, bt436.2.2.2))))) else (if bt404.1 = 4 then (spec_l1Cur_chords.j1 k bt398.1 bt398.2.1 (bt404.1 == 4) s0_0 bt404.2.1 bt404.2.2) else (spec_l1Cur_chords.j1 k bt398.1 bt398.2.1 (bt404.1 == 5) s0_0 bt404.2.1 bt404.2.2)))))))
theorem spec_l1Cur_chords.mono_l : ∀ k, (∀ y0 y1 y2 y3 y4 y5, LeO (spec_l1Cur_chords.l0 k y0 y1 y2 y3 y4 y5) (spec_l1Cur_chords.l0 (k + 1) y0 y1 y2 y3 y4 y5)) ∧ (∀ y0 y1 y2 y3 y4 y5, LeO (spec_l1Cur_chords.j1 k y0 y1 y2 y3 y4 y5) (spec_l1Cur_chords.j1 (k + 1) y0 y1 y2 y3 y4 y5))
 | 0 => ⟨fun _ _ _ _ _ _ r h => by simp [spec_l1Cur_chords.l0] at h, fun _ _ _ _ _ _ r h => by simp [spec_l1Cur_chords.j1] at h⟩
 | k + 1 => by
  obtain ⟨ih0, ih1⟩ := spec_l1Cur_chords.mono_l k
  refine ⟨?_, ?_⟩
  ·intro y0 y1 y2 y3 y4 y5
   unfold spec_l1Cur_chords.l0
   repeat' first
   | (with_reducible exact ih0 _ _ _ _ _ _)
   | (with_reducible exact ih1 _ _ _ _ _ _)
   | (with_reducible exact spec_cdOfRank.mono _ _ _ _ _)
   | (with_reducible exact spec_cdPlane.mono _ _)
   | (with_reducible exact spec_l1Cur_sureChords.mono _ _ _ _ _)
   | (with_reducible exact spec_srChords.mono _ _ _)
   | (with_reducible exact spec_srPut.mono _ _ _ _)
   | (with_reducible exact LeO.refl _)
   | (with_reducible exact LeO.none _)
   | (with_reducible refine LeO.ite ?_ ?_)
   | (with_reducible refine LeO.bind ?_ (fun _ => ?_))
   | exact ih0 _ _ _ _ _ _
   | exact ih1 _ _ _ _ _ _
   | exact spec_cdOfRank.mono _ _ _ _ _
   | exact spec_cdPlane.mono _ _
   | exact spec_l1Cur_sureChords.mono _ _ _ _ _
   | exact spec_srChords.mono _ _ _
   | exact spec_srPut.mono _ _ _ _
   | exact LeO.none _
   | refine LeO.ite ?_ ?_
   | refine LeO.bind ?_ (fun _ => ?_)
  ·intro y0 y1 y2 y3 y4 y5
   unfold spec_l1Cur_chords.j1
   repeat' first
   | (with_reducible exact ih0 _ _ _ _ _ _)
   | (with_reducible exact ih1 _ _ _ _ _ _)
   | (with_reducible exact spec_cdOfRank.mono _ _ _ _ _)
   | (with_reducible exact spec_cdPlane.mono _ _)
   | (with_reducible exact spec_l1Cur_sureChords.mono _ _ _ _ _)
   | (with_reducible exact spec_srChords.mono _ _ _)
   | (with_reducible exact spec_srPut.mono _ _ _ _)
   | (with_reducible exact LeO.refl _)
   | (with_reducible exact LeO.none _)
   | (with_reducible refine LeO.ite ?_ ?_)
   | (with_reducible refine LeO.bind ?_ (fun _ => ?_))
   | exact ih0 _ _ _ _ _ _
   | exact ih1 _ _ _ _ _ _
   | exact spec_cdOfRank.mono _ _ _ _ _
   | exact spec_cdPlane.mono _ _
   | exact spec_l1Cur_sureChords.mono _ _ _ _ _
   | exact spec_srChords.mono _ _ _
   | exact spec_srPut.mono _ _ _ _
   | exact LeO.none _
   | refine LeO.ite ?_ ?_
   | refine LeO.bind ?_ (fun _ => ?_)
theorem spec_l1Cur_chords.mono : ∀ a0 a1 a2 k, LeO (spec_l1Cur_chords.f k a0 a1 a2) (spec_l1Cur_chords.f (k + 1) a0 a1 a2) := by
 intro a0 a1 a2 k
 obtain ⟨ih0, ih1⟩ := spec_l1Cur_chords.mono_l k
 unfold spec_l1Cur_chords.f
 repeat' first
   | (with_reducible exact ih0 _ _ _ _ _ _)
   | (with_reducible exact ih1 _ _ _ _ _ _)
   | (with_reducible exact spec_cdOfRank.mono _ _ _ _ _)
   | (with_reducible exact spec_cdPlane.mono _ _)
   | (with_reducible exact spec_l1Cur_sureChords.mono _ _ _ _ _)
   | (with_reducible exact spec_srChords.mono _ _ _)
   | (with_reducible exact spec_srPut.mono _ _ _ _)
   | (with_reducible exact LeO.refl _)
   | (with_reducible exact LeO.none _)
   | (with_reducible refine LeO.ite ?_ ?_)
   | (with_reducible refine LeO.bind ?_ (fun _ => ?_))
   | exact ih0 _ _ _ _ _ _
   | exact ih1 _ _ _ _ _ _
   | exact spec_cdOfRank.mono _ _ _ _ _
   | exact spec_cdPlane.mono _ _
   | exact spec_l1Cur_sureChords.mono _ _ _ _ _
   | exact spec_srChords.mono _ _ _
   | exact spec_srPut.mono _ _ _ _
   | exact LeO.none _
   | refine LeO.ite ?_ ?_
   | refine LeO.bind ?_ (fun _ => ?_)
set_option maxHeartbeats 8000000 in
set_option maxRecDepth 100000 in
theorem spec_l1Cur_chords.calls (k : Nat) (g : Nat) (s0_0 : List Int) (s0_1 : Int) (s0_2 : Int) (r1 : Int) (r2 : List (S60)) (r3 : Int) (r4 : Int) (w0 w : World) (hI : IsS47 w0 w g s0_0 s0_1 s0_2) (hB : Below w0.heap.size w0 w) (h : spec_l1Cur_chords.f k s0_0 s0_1 s0_2 = some (r1, r2, r3, r4)) :
  Calls Try.prog 27 #[.pointer (some ⟨g, 0, none⟩)] w fun e w' => ∃ v1_ : Value, e = .returned (.tuple #[.int .i64 r1, v1_]) ∧ Kd.R k60 60 w' w.heap.size (fun _ => True) v1_ r2 ∧ IsS47 w0 w' g s0_0 r3 r4 ∧ Below w0.heap.size w0 w' ∧ KeepBut w w' g none := by
 have hu60 := Try.underlying60
 have hu37 := Try.underlying37
 have HI0 := Aside0.mk hI
 have HK := Aside0.mk (KeepBut.refl w g none)
 have HL := Aside0.mk hB.size
 clear hI
 have HW0 := Aside0.mk hB.size
 have HB := Aside0.mk hB
 clear hB
 have H : ((spec_l1Cur_sureChords.f k s0_0 s0_1 s0_2 9).bind fun bt398 => ((spec_l1Cur_pick.f s0_0 bt398.2.2.1 bt398.2.2.2 18).bind fun bt404 => (if bt404.1 = 0 then ((spec_l1Cur_among.f s0_0 bt404.2.1 bt404.2.2 (([(-1), 2, 3, 60, 61, 4611686018427387904] : List Int))).bind fun bt410 => (some (bt410.1, bt398.2.1, bt410.2.1, bt410.2.2))) else (if bt404.1 = 1 then ((spec_l1Cur_among.f s0_0 bt404.2.1 bt404.2.2 (([(-1), 0, 2, 59, 4611686018427387904] : List Int))).bind fun bt416 => ((spec_l1Cur_among.f s0_0 bt416.2.1 bt416.2.2 (([(-1), 0, 3, 59, 60, 4611686018427387904] : List Int))).bind fun bt422 => (if bt398.2.1.length < 8796093022208 then (some (bt398.1, (bt398.2.1 ++ [(⟨bt416.1, bt422.1⟩ : S60)]), bt422.2.1, bt422.2.2)) else (none)))) else (if bt404.1 = 2 then (spec_l1Cur_chords.l0 k 12 ([] : List (S60)) 0 s0_0 bt404.2.1 bt404.2.2) else (if bt404.1 = 3 then ((spec_l1Cur_sureStar.f s0_0 bt404.2.1 bt404.2.2).bind fun bt436 => ((spec_srChords.f k bt436.1 bt436.2.1).bind fun t441 => (if (t441.length : Int) > 12 then (if 12 ≤ (t441.length : Int) then (some (bt436.1, (t441.take (12 : Int).toNat), bt436.2.2.1, bt436.2.2.2)) else (none)) else (some (bt436.1, t441, bt436.2.2.1, bt436.2.2.2))))) else (if bt404.1 = 4 then (spec_l1Cur_chords.j1 k bt398.1 bt398.2.1 (bt404.1 == 4) s0_0 bt404.2.1 bt404.2.2) else (spec_l1Cur_chords.j1 k bt398.1 bt398.2.1 (bt404.1 == 5) s0_0 bt404.2.1 bt404.2.2)))))))) = some (r1, r2, r3, r4) := h
 clear h
 replace H := bI H
 obtain ⟨⟨t398, t399, t402, t403⟩, A20, H⟩ := H
 replace H : ((spec_l1Cur_pick.f s0_0 t402 t403 18).bind fun bt404 => (if bt404.1 = 0 then ((spec_l1Cur_among.f s0_0 bt404.2.1 bt404.2.2 (([(-1), 2, 3, 60, 61, 4611686018427387904] : List Int))).bind fun bt410 => (some (bt410.1, t399, bt410.2.1, bt410.2.2))) else (if bt404.1 = 1 then ((spec_l1Cur_among.f s0_0 bt404.2.1 bt404.2.2 (([(-1), 0, 2, 59, 4611686018427387904] : List Int))).bind fun bt416 => ((spec_l1Cur_among.f s0_0 bt416.2.1 bt416.2.2 (([(-1), 0, 3, 59, 60, 4611686018427387904] : List Int))).bind fun bt422 => (if t399.length < 8796093022208 then (some (t398, (t399 ++ [(⟨bt416.1, bt422.1⟩ : S60)]), bt422.2.1, bt422.2.2)) else (none)))) else (if bt404.1 = 2 then (spec_l1Cur_chords.l0 k 12 ([] : List (S60)) 0 s0_0 bt404.2.1 bt404.2.2) else (if bt404.1 = 3 then ((spec_l1Cur_sureStar.f s0_0 bt404.2.1 bt404.2.2).bind fun bt436 => ((spec_srChords.f k bt436.1 bt436.2.1).bind fun t441 => (if (t441.length : Int) > 12 then (if 12 ≤ (t441.length : Int) then (some (bt436.1, (t441.take (12 : Int).toNat), bt436.2.2.1, bt436.2.2.2)) else (none)) else (some (bt436.1, t441, bt436.2.2.1, bt436.2.2.2))))) else (if bt404.1 = 4 then (spec_l1Cur_chords.j1 k t398 t399 (bt404.1 == 4) s0_0 bt404.2.1 bt404.2.2) else (spec_l1Cur_chords.j1 k t398 t399 (bt404.1 == 5) s0_0 bt404.2.1 bt404.2.2))))))) = some (r1, r2, r3, r4) := H
 have A2 := Aside0.mk A20
 clear A20
 replace H := bI H
 obtain ⟨⟨t404, t405, t406⟩, A30, H⟩ := H
 replace H : (if t404 = 0 then ((spec_l1Cur_among.f s0_0 t405 t406 (([(-1), 2, 3, 60, 61, 4611686018427387904] : List Int))).bind fun bt410 => (some (bt410.1, t399, bt410.2.1, bt410.2.2))) else (if t404 = 1 then ((spec_l1Cur_among.f s0_0 t405 t406 (([(-1), 0, 2, 59, 4611686018427387904] : List Int))).bind fun bt416 => ((spec_l1Cur_among.f s0_0 bt416.2.1 bt416.2.2 (([(-1), 0, 3, 59, 60, 4611686018427387904] : List Int))).bind fun bt422 => (if t399.length < 8796093022208 then (some (t398, (t399 ++ [(⟨bt416.1, bt422.1⟩ : S60)]), bt422.2.1, bt422.2.2)) else (none)))) else (if t404 = 2 then (spec_l1Cur_chords.l0 k 12 ([] : List (S60)) 0 s0_0 t405 t406) else (if t404 = 3 then ((spec_l1Cur_sureStar.f s0_0 t405 t406).bind fun bt436 => ((spec_srChords.f k bt436.1 bt436.2.1).bind fun t441 => (if (t441.length : Int) > 12 then (if 12 ≤ (t441.length : Int) then (some (bt436.1, (t441.take (12 : Int).toNat), bt436.2.2.1, bt436.2.2.2)) else (none)) else (some (bt436.1, t441, bt436.2.2.1, bt436.2.2.2))))) else (if t404 = 4 then (spec_l1Cur_chords.j1 k t398 t399 (t404 == 4) s0_0 t405 t406) else (spec_l1Cur_chords.j1 k t398 t399 (t404 == 5) s0_0 t405 t406)))))) = some (r1, r2, r3, r4) := H
 have A3 := Aside0.mk A30
 clear A30
 by_cases c4 : t404 = 0
 ·rw [if_pos c4] at H
  have c4b0 : (t404 == 0) = true := beq_iff_eq.mpr c4
  have c4b1 : (t404 != 0) = false := bne_eq_false_iff_eq.mpr c4
  clear c4
  obtain ⟨y407, hy407⟩ : ∃ y_ : List Int, y_ = (([(-1), 2, 3, 60, 61, 4611686018427387904] : List Int)) := ⟨_, rfl⟩
  replace H : ((spec_l1Cur_among.f s0_0 t405 t406 y407).bind fun bt410 => (some (bt410.1, t399, bt410.2.1, bt410.2.2))) = some (r1, r2, r3, r4) := by first | (rw [hy407]; with_reducible exact H) | (have H2_ := (Option.bind_some _ _).symm.trans H; rw [hy407]; with_reducible exact H2_) | (have H2_ := (Option.bind_some _ _).symm.trans H; with_reducible exact H2_) | with_reducible exact H | (rw [hy407]; exact H) | exact H
  have Ny407 := Aside0.mk hy407
  clear hy407
  replace H := bI H
  obtain ⟨⟨t410, t411, t412⟩, A50, H⟩ := H
  replace H : (some (t410, t399, t411, t412)) = some (r1, r2, r3, r4) := H
  have A5 := Aside0.mk A50
  clear A50
  simp only [Option.some.injEq, Prod.mk.injEq] at H
  obtain ⟨rfl, rfl, rfl, rfl⟩ := H
  go_enter Try.func27, Try.ntmps27
  go_wp2_with (first | ((with_reducible refine gate_callee (f := 50) rfl ?_); refine goesL_ (some 10) rfl rfl Try.func50 (by kernel_rfl) rfl #[.pointer (some ⟨g, 0, none⟩), .int .i64 9] rfl ar_ ?_; (with_reducible refine (spec_l1Cur_sureChords.calls k g s0_0 s0_1 s0_2 9 t398 t399 t402 t403 w0 _ ?side1 ?side2 A2.out).mono ?_); (case side1 => repeat (first | (with_reducible first | exact HI0.out | apply IsS47.alloc | apply IsS47.drewN | apply IsS47.drew | apply IsS47.set_1 | apply IsS47.set_2) | exact HI0.out)); (case side2 => repeat (first | (with_reducible first | exact HB.out | apply bA | apply bN | apply bD | refine below_set ?_ (IsS47.ge HI0.out)) | exact HB.out)); rintro e w6 ⟨v400, rfl, ho0, hi, hb, hk⟩; refine ⟨_, rfl, ?_⟩; have n0_ := Aside0.mk (Kd.R_lower ho0 (keep_size (w := w) (g := g) (row := none) (by repeat (first | (with_reducible first | exact HK.out | apply KeepBut.set_ | apply keep_drewN | apply keep_drew | apply keep_alloc) | exact HK.out)))); have n1_ := Aside0.mk (KeepBut.trans (by repeat (first | (with_reducible first | exact HK.out | apply KeepBut.set_ | apply keep_drewN | apply keep_drew | apply keep_alloc) | exact HK.out)) hk (.inl rfl)); have n2_ := Aside0.mk (hb); have n3_ := Aside0.mk (hi); clear HK; clear HB; clear HI0; have HO401 := n0_; have HK := n1_; have HB := n2_; have HI0 := n3_; clear n0_ n1_ n2_ n3_; (try clear hb); (try clear hb2); (try clear hk); (try clear hi); (try clear ho0)) | ((with_reducible refine gate_callee (f := 30) rfl ?_); refine goesL_ (some 14) rfl rfl Try.func30 (by kernel_rfl) rfl #[.pointer (some ⟨g, 0, none⟩), .int .i64 18] rfl ar_ ?_; (with_reducible refine (spec_l1Cur_pick.calls g s0_0 t402 t403 18 t404 t405 t406 w0 _ ?side1 ?side2 A3.out).mono ?_); (case side1 => repeat (first | (with_reducible first | exact HI0.out | apply IsS47.alloc | apply IsS47.drewN | apply IsS47.drew | apply IsS47.set_1 | apply IsS47.set_2) | exact HI0.out)); (case side2 => repeat (first | (with_reducible first | exact HB.out | apply bA | apply bN | apply bD | refine below_set ?_ (IsS47.ge HI0.out)) | exact HB.out)); rintro e w7 ⟨rfl, hi, hb, hk⟩; refine ⟨_, rfl, ?_⟩; have n0_ := Aside0.mk (Kd.R_mono (Kd.R_keep (IsS47.apart (show IsS47 w0 _ g s0_0 t402 t403 from by repeat (first | (with_reducible first | exact HI0.out | apply IsS47.alloc | apply IsS47.drewN | apply IsS47.drew | apply IsS47.set_1 | apply IsS47.set_2) | exact HI0.out)) (ra_ HO401.out) (by decide)) hk (fun _ h => h.2)) (fun _ h => h.1)); have n1_ := Aside0.mk (KeepBut.trans (by repeat (first | (with_reducible first | exact HK.out | apply KeepBut.set_ | apply keep_drewN | apply keep_drew | apply keep_alloc) | exact HK.out)) hk (.inl rfl)); have n2_ := Aside0.mk (hb); have n3_ := Aside0.mk (hi); clear HO401; clear HK; clear HB; clear HI0; have HO401 := n0_; have HK := n1_; have HB := n2_; have HI0 := n3_; clear n0_ n1_ n2_ n3_; (try clear hb); (try clear hb2); (try clear hk); (try clear hi)) | ((with_reducible refine gate_dst (N := 18) rfl ?_); refine Kd.R_lit (Kd.int .i64) _ 3 ?hg (N := 18) ?hd (xs := ([(-1), 2, 3, 60, 61, 4611686018427387904] : List Int)) (inner := [.int .i64 (-1), .int .i64 2, .int .i64 3, .int .i64 60, .int .i64 61, .int .i64 4611686018427387904]) (ok := fun _ => True) (okp := fun _ => True) ?hr ?hp (fun _ hk => hk) trivial (Below.refl _ _) (Nat.le_refl _) (by simp) ?_; (case hd => rfl); (case hg => rfl); (case hr => first | (go_simp; done) | (go_simp; rfl)); (case hp => exact (Reps.one (show Kd.M (Kd.int .i64) _ _ _ (-1) [.int .i64 (-1)] from rfl) (Reps.one (show Kd.M (Kd.int .i64) _ _ _ 2 [.int .i64 2] from rfl) (Reps.one (show Kd.M (Kd.int .i64) _ _ _ 3 [.int .i64 3] from rfl) (Reps.one (show Kd.M (Kd.int .i64) _ _ _ 60 [.int .i64 60] from rfl) (Reps.one (show Kd.M (Kd.int .i64) _ _ _ 61 [.int .i64 61] from rfl) (Reps.one (show Kd.M (Kd.int .i64) _ _ _ 4611686018427387904 [.int .i64 4611686018427387904] from rfl) (Reps.none _ _)))))))); intro v408 w8 ho9 hb hg_ hnew_; clear hg_ hnew_; (first | rw [← Ny407.out] at ho9 | (simp only [Int.reduceToNat] at ho9; rw [← Ny407.out] at ho9)); have n0_ := Aside0.mk (Kd.R_below (ra_ HO401.out) hb); have n1_ := Aside0.mk (Kd.R_lower ho9 (keep_size (w := w) (g := g) (row := none) (by repeat (first | (with_reducible first | exact HK.out | apply KeepBut.set_ | apply keep_drewN | apply keep_drew | apply keep_alloc) | exact HK.out)))); have n2_ := Aside0.mk (IsS47.below (by repeat (first | (with_reducible first | exact HI0.out | apply IsS47.alloc | apply IsS47.drewN | apply IsS47.drew | apply IsS47.set_1 | apply IsS47.set_2) | exact HI0.out)) hb); have n3_ := Aside0.mk (KeepBut.trans (by repeat (first | (with_reducible first | exact HK.out | apply KeepBut.set_ | apply keep_drewN | apply keep_drew | apply keep_alloc) | exact HK.out)) (KeepBut.of_below hb g none) (.inl rfl)); have n4_ := Aside0.mk (below_step (by repeat (first | (with_reducible first | exact HB.out | apply bA | apply bN | apply bD | refine below_set ?_ (IsS47.ge HI0.out)) | exact HB.out)) hb); clear HO401; clear HI0; clear HK; clear HB; have HO401 := n0_; have HO409 := n1_; have HI0 := n2_; have HK := n3_; have HB := n4_; clear n0_ n1_ n2_ n3_ n4_; clear hb ho9; obtain ⟨Ao10, co10, eo10⟩ := Kd.R_slice HO409.out; subst eo10) | ((with_reducible refine gate_callee (f := 51) rfl ?_); refine goesL_ (some 19) rfl rfl Try.func51 (by kernel_rfl) rfl #[.pointer (some ⟨g, 0, none⟩), .slice Ao10 y407.length co10] rfl ar_ ?_; (with_reducible refine (spec_l1Cur_among.calls g s0_0 t405 t406 _ _ y407 t410 t411 t412 w0 _ ?side1 ?side2 ?side3 ?side4 ?side5 A5.out).mono ?_); (case side1 => repeat (first | (with_reducible first | exact HI0.out | apply IsS47.alloc | apply IsS47.drewN | apply IsS47.drew | apply IsS47.set_1 | apply IsS47.set_2) | exact HI0.out)); (case side2 => repeat (first | (with_reducible first | exact HB.out | apply bA | apply bN | apply bD | refine below_set ?_ (IsS47.ge HI0.out)) | exact HB.out)); (case side3 => repeat (first | exact (Kd.R_reads' HO409.out).2.2 | (with_reducible refine Kd.C_alloc ?_ _) | (with_reducible refine Kd.C_drewN ?_ _) | (with_reducible refine Kd.C_drew ?_))); (case side4 => exact (Kd.R_reads' HO409.out).2.1); (case side5 => exact far_slice (IsS47.own_ne HI0.out HO409.out (by decide))); rintro e w11 ⟨rfl, hi, hb, hk⟩; refine ⟨_, rfl, ?_⟩; have n0_ := Aside0.mk (Kd.R_mono (Kd.R_keep (IsS47.apart (show IsS47 w0 _ g s0_0 t405 t406 from by repeat (first | (with_reducible first | exact HI0.out | apply IsS47.alloc | apply IsS47.drewN | apply IsS47.drew | apply IsS47.set_1 | apply IsS47.set_2) | exact HI0.out)) (ra_ HO401.out) (by decide)) hk (fun _ h => h.2)) (fun _ h => h.1)); have n1_ := Aside0.mk (Kd.R_mono (Kd.R_keep (IsS47.apart (show IsS47 w0 _ g s0_0 t405 t406 from by repeat (first | (with_reducible first | exact HI0.out | apply IsS47.alloc | apply IsS47.drewN | apply IsS47.drew | apply IsS47.set_1 | apply IsS47.set_2) | exact HI0.out)) (ra_ HO409.out) (by decide)) hk (fun _ h => h.2)) (fun _ h => h.1)); have n2_ := Aside0.mk (KeepBut.trans (by repeat (first | (with_reducible first | exact HK.out | apply KeepBut.set_ | apply keep_drewN | apply keep_drew | apply keep_alloc) | exact HK.out)) hk (.inl rfl)); have n3_ := Aside0.mk (hb); have n4_ := Aside0.mk (hi); clear HO401; clear HO409; clear HK; clear HB; clear HI0; have HO401 := n0_; have HO409 := n1_; have HK := n2_; have HB := n3_; have HI0 := n4_; clear n0_ n1_ n2_ n3_ n4_; (try clear hb); (try clear hb2); (try clear hk); (try clear hi)))
  go_ret2
  exact ⟨_, by first | rfl | (simp [errW_none, errW_some] <;> rfl) | (simp [*, errW_none, errW_some] <;> rfl), by (with_reducible repeat (first | apply rA | apply rN | apply rD)); exact HO401.out, by repeat (first | (with_reducible first | exact HI0.out | apply IsS47.alloc | apply IsS47.drewN | apply IsS47.drew | apply IsS47.set_1 | apply IsS47.set_2) | exact HI0.out), by repeat (first | (with_reducible first | exact HB.out | apply bA | apply bN | apply bD | refine below_set ?_ (IsS47.ge HI0.out)) | exact HB.out), by repeat (first | (with_reducible first | exact HK.out | apply KeepBut.set_ | apply keep_drewN | apply keep_drew | apply keep_alloc) | exact HK.out)⟩
 ·rw [if_neg c4] at H
  have c4b0 : (t404 == 0) = false := beq_eq_false_iff_ne.mpr c4
  have c4b1 : (t404 != 0) = true := bne_iff_ne.mpr c4
  by_cases c12 : t404 = 1
  ·rw [if_pos c12] at H
   have c12b0 : (t404 == 1) = true := beq_iff_eq.mpr c12
   have c12b1 : (t404 != 1) = false := bne_eq_false_iff_eq.mpr c12
   clear c12
   obtain ⟨y413, hy413⟩ : ∃ y_ : List Int, y_ = (([(-1), 0, 2, 59, 4611686018427387904] : List Int)) := ⟨_, rfl⟩
   replace H : ((spec_l1Cur_among.f s0_0 t405 t406 y413).bind fun bt416 => ((spec_l1Cur_among.f s0_0 bt416.2.1 bt416.2.2 (([(-1), 0, 3, 59, 60, 4611686018427387904] : List Int))).bind fun bt422 => (if t399.length < 8796093022208 then (some (t398, (t399 ++ [(⟨bt416.1, bt422.1⟩ : S60)]), bt422.2.1, bt422.2.2)) else (none)))) = some (r1, r2, r3, r4) := by first | (rw [hy413]; with_reducible exact H) | (have H2_ := (Option.bind_some _ _).symm.trans H; rw [hy413]; with_reducible exact H2_) | (have H2_ := (Option.bind_some _ _).symm.trans H; with_reducible exact H2_) | with_reducible exact H | (rw [hy413]; exact H) | exact H
   have Ny413 := Aside0.mk hy413
   clear hy413
   replace H := bI H
   obtain ⟨⟨t416, t417, t418⟩, A130, H⟩ := H
   replace H : ((spec_l1Cur_among.f s0_0 t417 t418 (([(-1), 0, 3, 59, 60, 4611686018427387904] : List Int))).bind fun bt422 => (if t399.length < 8796093022208 then (some (t398, (t399 ++ [(⟨t416, bt422.1⟩ : S60)]), bt422.2.1, bt422.2.2)) else (none))) = some (r1, r2, r3, r4) := H
   have A13 := Aside0.mk A130
   clear A130
   obtain ⟨y419, hy419⟩ : ∃ y_ : List Int, y_ = (([(-1), 0, 3, 59, 60, 4611686018427387904] : List Int)) := ⟨_, rfl⟩
   replace H : ((spec_l1Cur_among.f s0_0 t417 t418 y419).bind fun bt422 => (if t399.length < 8796093022208 then (some (t398, (t399 ++ [(⟨t416, bt422.1⟩ : S60)]), bt422.2.1, bt422.2.2)) else (none))) = some (r1, r2, r3, r4) := by first | (rw [hy419]; with_reducible exact H) | (have H2_ := (Option.bind_some _ _).symm.trans H; rw [hy419]; with_reducible exact H2_) | (have H2_ := (Option.bind_some _ _).symm.trans H; with_reducible exact H2_) | with_reducible exact H | (rw [hy419]; exact H) | exact H
   have Ny419 := Aside0.mk hy419
   clear hy419
   replace H := bI H
   obtain ⟨⟨t422, t423, t424⟩, A140, H⟩ := H
   replace H : (if t399.length < 8796093022208 then (some (t398, (t399 ++ [(⟨t416, t422⟩ : S60)]), t423, t424)) else (none)) = some (r1, r2, r3, r4) := H
   have A14 := Aside0.mk A140
   clear A140
   by_cases c15 : t399.length < 8796093022208
   ·rw [if_pos c15] at H
    have LMc15 := Aside0.mk c15
    clear c15
    obtain ⟨y425, hy425⟩ : ∃ y_ : List (S60), y_ = (t399 ++ [(⟨t416, t422⟩ : S60)]) := ⟨_, rfl⟩
    replace H : (some (t398, y425, t423, t424)) = some (r1, r2, r3, r4) := by first | (rw [hy425]; with_reducible exact H) | (have H2_ := (Option.bind_some _ _).symm.trans H; rw [hy425]; with_reducible exact H2_) | (have H2_ := (Option.bind_some _ _).symm.trans H; with_reducible exact H2_) | with_reducible exact H | (rw [hy425]; exact H) | exact H
    have Ny425 := Aside0.mk hy425
    clear hy425
    simp only [Option.some.injEq, Prod.mk.injEq] at H
    obtain ⟨rfl, rfl, rfl, rfl⟩ := H
    go_enter Try.func27, Try.ntmps27
    go_wp2_with (first | ((with_reducible refine gate_callee (f := 50) rfl ?_); refine goesL_ (some 10) rfl rfl Try.func50 (by kernel_rfl) rfl #[.pointer (some ⟨g, 0, none⟩), .int .i64 9] rfl ar_ ?_; (with_reducible refine (spec_l1Cur_sureChords.calls k g s0_0 s0_1 s0_2 9 t398 t399 t402 t403 w0 _ ?side1 ?side2 A2.out).mono ?_); (case side1 => repeat (first | (with_reducible first | exact HI0.out | apply IsS47.alloc | apply IsS47.drewN | apply IsS47.drew | apply IsS47.set_1 | apply IsS47.set_2) | exact HI0.out)); (case side2 => repeat (first | (with_reducible first | exact HB.out | apply bA | apply bN | apply bD | refine below_set ?_ (IsS47.ge HI0.out)) | exact HB.out)); rintro e w16 ⟨v400, rfl, ho0, hi, hb, hk⟩; refine ⟨_, rfl, ?_⟩; have n0_ := Aside0.mk (Kd.R_lower ho0 (keep_size (w := w) (g := g) (row := none) (by repeat (first | (with_reducible first | exact HK.out | apply KeepBut.set_ | apply keep_drewN | apply keep_drew | apply keep_alloc) | exact HK.out)))); have n1_ := Aside0.mk (KeepBut.trans (by repeat (first | (with_reducible first | exact HK.out | apply KeepBut.set_ | apply keep_drewN | apply keep_drew | apply keep_alloc) | exact HK.out)) hk (.inl rfl)); have n2_ := Aside0.mk (hb); have n3_ := Aside0.mk (hi); clear HK; clear HB; clear HI0; have HO401 := n0_; have HK := n1_; have HB := n2_; have HI0 := n3_; clear n0_ n1_ n2_ n3_; (try clear hb); (try clear hb2); (try clear hk); (try clear hi); (try clear ho0)) | ((with_reducible refine gate_callee (f := 30) rfl ?_); refine goesL_ (some 14) rfl rfl Try.func30 (by kernel_rfl) rfl #[.pointer (some ⟨g, 0, none⟩), .int .i64 18] rfl ar_ ?_; (with_reducible refine (spec_l1Cur_pick.calls g s0_0 t402 t403 18 t404 t405 t406 w0 _ ?side1 ?side2 A3.out).mono ?_); (case side1 => repeat (first | (with_reducible first | exact HI0.out | apply IsS47.alloc | apply IsS47.drewN | apply IsS47.drew | apply IsS47.set_1 | apply IsS47.set_2) | exact HI0.out)); (case side2 => repeat (first | (with_reducible first | exact HB.out | apply bA | apply bN | apply bD | refine below_set ?_ (IsS47.ge HI0.out)) | exact HB.out)); rintro e w17 ⟨rfl, hi, hb, hk⟩; refine ⟨_, rfl, ?_⟩; have n0_ := Aside0.mk (Kd.R_mono (Kd.R_keep (IsS47.apart (show IsS47 w0 _ g s0_0 t402 t403 from by repeat (first | (with_reducible first | exact HI0.out | apply IsS47.alloc | apply IsS47.drewN | apply IsS47.drew | apply IsS47.set_1 | apply IsS47.set_2) | exact HI0.out)) (ra_ HO401.out) (by decide)) hk (fun _ h => h.2)) (fun _ h => h.1)); have n1_ := Aside0.mk (KeepBut.trans (by repeat (first | (with_reducible first | exact HK.out | apply KeepBut.set_ | apply keep_drewN | apply keep_drew | apply keep_alloc) | exact HK.out)) hk (.inl rfl)); have n2_ := Aside0.mk (hb); have n3_ := Aside0.mk (hi); clear HO401; clear HK; clear HB; clear HI0; have HO401 := n0_; have HK := n1_; have HB := n2_; have HI0 := n3_; clear n0_ n1_ n2_ n3_; (try clear hb); (try clear hb2); (try clear hk); (try clear hi)) | ((with_reducible refine gate_dst (N := 24) rfl ?_); refine Kd.R_lit (Kd.int .i64) _ 3 ?hg (N := 24) ?hd (xs := ([(-1), 0, 2, 59, 4611686018427387904] : List Int)) (inner := [.int .i64 (-1), .int .i64 0, .int .i64 2, .int .i64 59, .int .i64 4611686018427387904]) (ok := fun _ => True) (okp := fun _ => True) ?hr ?hp (fun _ hk => hk) trivial (Below.refl _ _) (Nat.le_refl _) (by simp) ?_; (case hd => rfl); (case hg => rfl); (case hr => first | (go_simp; done) | (go_simp; rfl)); (case hp => exact (Reps.one (show Kd.M (Kd.int .i64) _ _ _ (-1) [.int .i64 (-1)] from rfl) (Reps.one (show Kd.M (Kd.int .i64) _ _ _ 0 [.int .i64 0] from rfl) (Reps.one (show Kd.M (Kd.int .i64) _ _ _ 2 [.int .i64 2] from rfl) (Reps.one (show Kd.M (Kd.int .i64) _ _ _ 59 [.int .i64 59] from rfl) (Reps.one (show Kd.M (Kd.int .i64) _ _ _ 4611686018427387904 [.int .i64 4611686018427387904] from rfl) (Reps.none _ _))))))); intro v414 w18 ho19 hb hg_ hnew_; clear hg_ hnew_; (first | rw [← Ny413.out] at ho19 | (simp only [Int.reduceToNat] at ho19; rw [← Ny413.out] at ho19)); have n0_ := Aside0.mk (Kd.R_below (ra_ HO401.out) hb); have n1_ := Aside0.mk (Kd.R_lower ho19 (keep_size (w := w) (g := g) (row := none) (by repeat (first | (with_reducible first | exact HK.out | apply KeepBut.set_ | apply keep_drewN | apply keep_drew | apply keep_alloc) | exact HK.out)))); have n2_ := Aside0.mk (IsS47.below (by repeat (first | (with_reducible first | exact HI0.out | apply IsS47.alloc | apply IsS47.drewN | apply IsS47.drew | apply IsS47.set_1 | apply IsS47.set_2) | exact HI0.out)) hb); have n3_ := Aside0.mk (KeepBut.trans (by repeat (first | (with_reducible first | exact HK.out | apply KeepBut.set_ | apply keep_drewN | apply keep_drew | apply keep_alloc) | exact HK.out)) (KeepBut.of_below hb g none) (.inl rfl)); have n4_ := Aside0.mk (below_step (by repeat (first | (with_reducible first | exact HB.out | apply bA | apply bN | apply bD | refine below_set ?_ (IsS47.ge HI0.out)) | exact HB.out)) hb); clear HO401; clear HI0; clear HK; clear HB; have HO401 := n0_; have HO415 := n1_; have HI0 := n2_; have HK := n3_; have HB := n4_; clear n0_ n1_ n2_ n3_ n4_; clear hb ho19; obtain ⟨Ao20, co20, eo20⟩ := Kd.R_slice HO415.out; subst eo20) | ((with_reducible refine gate_callee (f := 51) rfl ?_); refine goesL_ (some 25) rfl rfl Try.func51 (by kernel_rfl) rfl #[.pointer (some ⟨g, 0, none⟩), .slice Ao20 y413.length co20] rfl ar_ ?_; (with_reducible refine (spec_l1Cur_among.calls g s0_0 t405 t406 _ _ y413 t416 t417 t418 w0 _ ?side1 ?side2 ?side3 ?side4 ?side5 A13.out).mono ?_); (case side1 => repeat (first | (with_reducible first | exact HI0.out | apply IsS47.alloc | apply IsS47.drewN | apply IsS47.drew | apply IsS47.set_1 | apply IsS47.set_2) | exact HI0.out)); (case side2 => repeat (first | (with_reducible first | exact HB.out | apply bA | apply bN | apply bD | refine below_set ?_ (IsS47.ge HI0.out)) | exact HB.out)); (case side3 => repeat (first | exact (Kd.R_reads' HO415.out).2.2 | (with_reducible refine Kd.C_alloc ?_ _) | (with_reducible refine Kd.C_drewN ?_ _) | (with_reducible refine Kd.C_drew ?_))); (case side4 => exact (Kd.R_reads' HO415.out).2.1); (case side5 => exact far_slice (IsS47.own_ne HI0.out HO415.out (by decide))); rintro e w21 ⟨rfl, hi, hb, hk⟩; refine ⟨_, rfl, ?_⟩; have n0_ := Aside0.mk (Kd.R_mono (Kd.R_keep (IsS47.apart (show IsS47 w0 _ g s0_0 t405 t406 from by repeat (first | (with_reducible first | exact HI0.out | apply IsS47.alloc | apply IsS47.drewN | apply IsS47.drew | apply IsS47.set_1 | apply IsS47.set_2) | exact HI0.out)) (ra_ HO401.out) (by decide)) hk (fun _ h => h.2)) (fun _ h => h.1)); have n1_ := Aside0.mk (Kd.R_mono (Kd.R_keep (IsS47.apart (show IsS47 w0 _ g s0_0 t405 t406 from by repeat (first | (with_reducible first | exact HI0.out | apply IsS47.alloc | apply IsS47.drewN | apply IsS47.drew | apply IsS47.set_1 | apply IsS47.set_2) | exact HI0.out)) (ra_ HO415.out) (by decide)) hk (fun _ h => h.2)) (fun _ h => h.1)); have n2_ := Aside0.mk (KeepBut.trans (by repeat (first | (with_reducible first | exact HK.out | apply KeepBut.set_ | apply keep_drewN | apply keep_drew | apply keep_alloc) | exact HK.out)) hk (.inl rfl)); have n3_ := Aside0.mk (hb); have n4_ := Aside0.mk (hi); clear HO401; clear HO415; clear HK; clear HB; clear HI0; have HO401 := n0_; have HO415 := n1_; have HK := n2_; have HB := n3_; have HI0 := n4_; clear n0_ n1_ n2_ n3_ n4_; (try clear hb); (try clear hb2); (try clear hk); (try clear hi)) | ((with_reducible refine gate_dst (N := 27) rfl ?_); refine Kd.R_lit (Kd.int .i64) _ 3 ?hg (N := 27) ?hd (xs := ([(-1), 0, 3, 59, 60, 4611686018427387904] : List Int)) (inner := [.int .i64 (-1), .int .i64 0, .int .i64 3, .int .i64 59, .int .i64 60, .int .i64 4611686018427387904]) (ok := fun _ => True) (okp := fun _ => True) ?hr ?hp (fun _ hk => hk) trivial (Below.refl _ _) (Nat.le_refl _) (by simp) ?_; (case hd => rfl); (case hg => rfl); (case hr => first | (go_simp; done) | (go_simp; rfl)); (case hp => exact (Reps.one (show Kd.M (Kd.int .i64) _ _ _ (-1) [.int .i64 (-1)] from rfl) (Reps.one (show Kd.M (Kd.int .i64) _ _ _ 0 [.int .i64 0] from rfl) (Reps.one (show Kd.M (Kd.int .i64) _ _ _ 3 [.int .i64 3] from rfl) (Reps.one (show Kd.M (Kd.int .i64) _ _ _ 59 [.int .i64 59] from rfl) (Reps.one (show Kd.M (Kd.int .i64) _ _ _ 60 [.int .i64 60] from rfl) (Reps.one (show Kd.M (Kd.int .i64) _ _ _ 4611686018427387904 [.int .i64 4611686018427387904] from rfl) (Reps.none _ _)))))))); intro v420 w22 ho23 hb hg_ hnew_; clear hg_ hnew_; (first | rw [← Ny419.out] at ho23 | (simp only [Int.reduceToNat] at ho23; rw [← Ny419.out] at ho23)); have n0_ := Aside0.mk (Kd.R_below (ra_ HO401.out) hb); have n1_ := Aside0.mk (Kd.R_elder' (ra_ HO415.out) (Kd.R_base ho23) hb); have n2_ := Aside0.mk (Kd.R_lower (Kd.R_new' ho23 (Kd.R_lt (ra_ HO415.out))) (keep_size (w := w) (g := g) (row := none) (by repeat (first | (with_reducible first | exact HK.out | apply KeepBut.set_ | apply keep_drewN | apply keep_drew | apply keep_alloc) | exact HK.out)))); have n3_ := Aside0.mk (IsS47.below (by repeat (first | (with_reducible first | exact HI0.out | apply IsS47.alloc | apply IsS47.drewN | apply IsS47.drew | apply IsS47.set_1 | apply IsS47.set_2) | exact HI0.out)) hb); have n4_ := Aside0.mk (KeepBut.trans (by repeat (first | (with_reducible first | exact HK.out | apply KeepBut.set_ | apply keep_drewN | apply keep_drew | apply keep_alloc) | exact HK.out)) (KeepBut.of_below hb g none) (.inl rfl)); have n5_ := Aside0.mk (below_step (by repeat (first | (with_reducible first | exact HB.out | apply bA | apply bN | apply bD | refine below_set ?_ (IsS47.ge HI0.out)) | exact HB.out)) hb); clear HO401; clear HO415; clear HI0; clear HK; clear HB; have HO401 := n0_; have HO415 := n1_; have HO421 := n2_; have HI0 := n3_; have HK := n4_; have HB := n5_; clear n0_ n1_ n2_ n3_ n4_ n5_; clear hb ho23; obtain ⟨Ao24, co24, eo24⟩ := Kd.R_slice HO421.out; subst eo24) | ((with_reducible refine gate_callee (f := 51) rfl ?_); refine goesL_ (some 28) rfl rfl Try.func51 (by kernel_rfl) rfl #[.pointer (some ⟨g, 0, none⟩), .slice Ao24 y419.length co24] rfl ar_ ?_; (with_reducible refine (spec_l1Cur_among.calls g s0_0 t417 t418 _ _ y419 t422 t423 t424 w0 _ ?side1 ?side2 ?side3 ?side4 ?side5 A14.out).mono ?_); (case side1 => repeat (first | (with_reducible first | exact HI0.out | apply IsS47.alloc | apply IsS47.drewN | apply IsS47.drew | apply IsS47.set_1 | apply IsS47.set_2) | exact HI0.out)); (case side2 => repeat (first | (with_reducible first | exact HB.out | apply bA | apply bN | apply bD | refine below_set ?_ (IsS47.ge HI0.out)) | exact HB.out)); (case side3 => repeat (first | exact (Kd.R_reads' HO421.out).2.2 | (with_reducible refine Kd.C_alloc ?_ _) | (with_reducible refine Kd.C_drewN ?_ _) | (with_reducible refine Kd.C_drew ?_))); (case side4 => exact (Kd.R_reads' HO421.out).2.1); (case side5 => exact far_slice (IsS47.own_ne HI0.out HO421.out (by decide))); rintro e w25 ⟨rfl, hi, hb, hk⟩; refine ⟨_, rfl, ?_⟩; have n0_ := Aside0.mk (Kd.R_mono (Kd.R_keep (IsS47.apart (show IsS47 w0 _ g s0_0 t417 t418 from by repeat (first | (with_reducible first | exact HI0.out | apply IsS47.alloc | apply IsS47.drewN | apply IsS47.drew | apply IsS47.set_1 | apply IsS47.set_2) | exact HI0.out)) (ra_ HO401.out) (by decide)) hk (fun _ h => h.2)) (fun _ h => h.1)); have n1_ := Aside0.mk (Kd.R_mono (Kd.R_keep (IsS47.apart (show IsS47 w0 _ g s0_0 t417 t418 from by repeat (first | (with_reducible first | exact HI0.out | apply IsS47.alloc | apply IsS47.drewN | apply IsS47.drew | apply IsS47.set_1 | apply IsS47.set_2) | exact HI0.out)) (ra_ HO415.out) (by decide)) hk (fun _ h => h.2)) (fun _ h => h.1)); have n2_ := Aside0.mk (Kd.R_mono (Kd.R_keep (IsS47.apart (show IsS47 w0 _ g s0_0 t417 t418 from by repeat (first | (with_reducible first | exact HI0.out | apply IsS47.alloc | apply IsS47.drewN | apply IsS47.drew | apply IsS47.set_1 | apply IsS47.set_2) | exact HI0.out)) (ra_ HO421.out) (by decide)) hk (fun _ h => h.2)) (fun _ h => h.1)); have n3_ := Aside0.mk (KeepBut.trans (by repeat (first | (with_reducible first | exact HK.out | apply KeepBut.set_ | apply keep_drewN | apply keep_drew | apply keep_alloc) | exact HK.out)) hk (.inl rfl)); have n4_ := Aside0.mk (hb); have n5_ := Aside0.mk (hi); clear HO401; clear HO415; clear HO421; clear HK; clear HB; clear HI0; have HO401 := n0_; have HO415 := n1_; have HO421 := n2_; have HK := n3_; have HB := n4_; have HI0 := n5_; clear n0_ n1_ n2_ n3_ n4_ n5_; (try clear hb); (try clear hb2); (try clear hk); (try clear hi)) | ((with_reducible refine gate_builtin (b := .append) (xs := #[.tmp 22, .tmp 30]) rfl ?_); at_builtin; refine Kd.R_append k60 w.heap.size rfl (.tmp 22) (.tmp 30) 24 60 (.agg #[(.int .i64 0), (.int .i64 0)]) 16 rfl Try.underlying24 info60 rfl (by decide) (by omega) v400 t399 (⟨t416, t422⟩ : S60) [.int .i64 t416, .int .i64 t422] (fun _ => True) (fun _ => False) rfl rfl ?aP (fun _ hk => hk.elim) ?aF ?aO (Below.refl _ _) ?aS ?aL ?_; (case aP => exact k60_mkM _ _ _ (⟨t416, t422⟩ : S60)); (case aF => exact (fun _ _ => trivial)); (case aO => exact (ra_ HO401.out)); (case aS => exact (keep_size (w := w) (g := g) (row := none) (by repeat (first | (with_reducible first | exact HK.out | apply KeepBut.set_ | apply keep_drewN | apply keep_drew | apply keep_alloc) | exact HK.out)))); (case aL => have := LMc15.out; omega); intro v426 w26 ho hb hg hat; rw [← Ny425.out] at ho; have n0_ := Aside0.mk (IsS47.grown (by repeat (first | (with_reducible first | exact HI0.out | apply IsS47.alloc | apply IsS47.drewN | apply IsS47.drew | apply IsS47.set_1 | apply IsS47.set_2) | exact HI0.out)) hg (IsS47.own_ne HI0.out HO401.out (by decide))); have n1_ := Aside0.mk (Kd.R_over' (ra_ HO415.out) (Kd.R_typed (ra_ HO401.out)) (by decide) hg); have n2_ := Aside0.mk (Kd.R_over' (ra_ HO421.out) (Kd.R_typed (ra_ HO401.out)) (by decide) hg); have n3_ := Aside0.mk (below_weaken (by repeat (first | (with_reducible first | exact HB.out | apply bA | apply bN | apply bD | refine below_set ?_ (IsS47.ge HI0.out)) | exact HB.out)) HL.out hb); have n4_ := Aside0.mk (KeepBut.trans (by repeat (first | (with_reducible first | exact HK.out | apply KeepBut.set_ | apply keep_drewN | apply keep_drew | apply keep_alloc) | exact HK.out)) (KeepBut.of_grown hg g) (Kd.R_base2 HO401.out)); have n5_ := Aside0.mk (ho); clear HI0; clear HO415; clear HO421; clear HB; clear HK; clear HO401; have HI0 := n0_; have HO415 := n1_; have HO421 := n2_; have HB := n3_; have HK := n4_; have HO427 := n5_; clear n0_ n1_ n2_ n3_ n4_ n5_; clear ho hb hg hat))
    go_ret2
    exact ⟨_, by first | rfl | (simp [errW_none, errW_some] <;> rfl) | (simp [*, errW_none, errW_some] <;> rfl), by (with_reducible repeat (first | apply rA | apply rN | apply rD)); exact HO427.out, by repeat (first | (with_reducible first | exact HI0.out | apply IsS47.alloc | apply IsS47.drewN | apply IsS47.drew | apply IsS47.set_1 | apply IsS47.set_2) | exact HI0.out), by repeat (first | (with_reducible first | exact HB.out | apply bA | apply bN | apply bD | refine below_set ?_ (IsS47.ge HI0.out)) | exact HB.out), by repeat (first | (with_reducible first | exact HK.out | apply KeepBut.set_ | apply keep_drewN | apply keep_drew | apply keep_alloc) | exact HK.out)⟩
   ·rw [if_neg c15] at H
    exact absurd H (by simp)
  ·rw [if_neg c12] at H
   have c12b0 : (t404 == 1) = false := beq_eq_false_iff_ne.mpr c12
   have c12b1 : (t404 != 1) = true := bne_iff_ne.mpr c12
   by_cases c27 : t404 = 2
   ·rw [if_pos c27] at H
    have c27b0 : (t404 == 2) = true := beq_iff_eq.mpr c27
    have c27b1 : (t404 != 2) = false := bne_eq_false_iff_eq.mpr c27
    clear c27
    have H' := Aside0.mk H
    clear H
    go_enter Try.func27, Try.ntmps27
    go_wp2_with (first | ((with_reducible refine gate_callee (f := 50) rfl ?_); refine goesL_ (some 10) rfl rfl Try.func50 (by kernel_rfl) rfl #[.pointer (some ⟨g, 0, none⟩), .int .i64 9] rfl ar_ ?_; (with_reducible refine (spec_l1Cur_sureChords.calls k g s0_0 s0_1 s0_2 9 t398 t399 t402 t403 w0 _ ?side1 ?side2 A2.out).mono ?_); (case side1 => repeat (first | (with_reducible first | exact HI0.out | apply IsS47.alloc | apply IsS47.drewN | apply IsS47.drew | apply IsS47.set_1 | apply IsS47.set_2) | exact HI0.out)); (case side2 => repeat (first | (with_reducible first | exact HB.out | apply bA | apply bN | apply bD | refine below_set ?_ (IsS47.ge HI0.out)) | exact HB.out)); rintro e w28 ⟨v400, rfl, ho0, hi, hb, hk⟩; refine ⟨_, rfl, ?_⟩; have n0_ := Aside0.mk (Kd.R_lower ho0 (keep_size (w := w) (g := g) (row := none) (by repeat (first | (with_reducible first | exact HK.out | apply KeepBut.set_ | apply keep_drewN | apply keep_drew | apply keep_alloc) | exact HK.out)))); have n1_ := Aside0.mk (KeepBut.trans (by repeat (first | (with_reducible first | exact HK.out | apply KeepBut.set_ | apply keep_drewN | apply keep_drew | apply keep_alloc) | exact HK.out)) hk (.inl rfl)); have n2_ := Aside0.mk (hb); have n3_ := Aside0.mk (hi); clear HK; clear HB; clear HI0; have HO401 := n0_; have HK := n1_; have HB := n2_; have HI0 := n3_; clear n0_ n1_ n2_ n3_; (try clear hb); (try clear hb2); (try clear hk); (try clear hi); (try clear ho0)) | ((with_reducible refine gate_callee (f := 30) rfl ?_); refine goesL_ (some 14) rfl rfl Try.func30 (by kernel_rfl) rfl #[.pointer (some ⟨g, 0, none⟩), .int .i64 18] rfl ar_ ?_; (with_reducible refine (spec_l1Cur_pick.calls g s0_0 t402 t403 18 t404 t405 t406 w0 _ ?side1 ?side2 A3.out).mono ?_); (case side1 => repeat (first | (with_reducible first | exact HI0.out | apply IsS47.alloc | apply IsS47.drewN | apply IsS47.drew | apply IsS47.set_1 | apply IsS47.set_2) | exact HI0.out)); (case side2 => repeat (first | (with_reducible first | exact HB.out | apply bA | apply bN | apply bD | refine below_set ?_ (IsS47.ge HI0.out)) | exact HB.out)); rintro e w29 ⟨rfl, hi, hb, hk⟩; refine ⟨_, rfl, ?_⟩; have n0_ := Aside0.mk (Kd.R_mono (Kd.R_keep (IsS47.apart (show IsS47 w0 _ g s0_0 t402 t403 from by repeat (first | (with_reducible first | exact HI0.out | apply IsS47.alloc | apply IsS47.drewN | apply IsS47.drew | apply IsS47.set_1 | apply IsS47.set_2) | exact HI0.out)) (ra_ HO401.out) (by decide)) hk (fun _ h => h.2)) (fun _ h => h.1)); have n1_ := Aside0.mk (KeepBut.trans (by repeat (first | (with_reducible first | exact HK.out | apply KeepBut.set_ | apply keep_drewN | apply keep_drew | apply keep_alloc) | exact HK.out)) hk (.inl rfl)); have n2_ := Aside0.mk (hb); have n3_ := Aside0.mk (hi); clear HO401; clear HK; clear HB; clear HI0; have HO401 := n0_; have HK := n1_; have HB := n2_; have HI0 := n3_; clear n0_ n1_ n2_ n3_; (try clear hb); (try clear hb2); (try clear hk); (try clear hi)))
    go_loopg [5, 6] k (fun kq v5 v6 w' => ∃ (x5_1 : List (S60)) (x6_1 : Int) (x1001_1 : Int) (x1002_1 : Int), v6 = .int .i64 x6_1 ∧ Aside0 (spec_l1Cur_chords.l0 kq 12 x5_1 x6_1 s0_0 x1001_1 x1002_1 = some (r1, r2, r3, r4)) ∧ Aside0 (kq ≤ k) ∧ Aside0 (Kd.R k60 60 w' w.heap.size (fun _ => True) v5 x5_1) ∧ Aside0 (IsS47 w0 w' g s0_0 x1001_1 x1002_1) ∧ Aside0 (KeepBut w w' g none) ∧ Aside0 (Below w0.heap.size w0 w'))
    case atStart => exact ⟨(([] : List (S60))), (0), (t405), (t406), (by first | rfl | (simp; done) | (simp [*]; done)), H', ⟨Nat.le_refl _⟩, ⟨by first | exact Kd.R_nil _ _ _ _ _ | exact Kd.N_nil _ _ _ _ _ | exact Kd.V_nil _ _ _ _ _ | exact Kd.Q_nil _ _ _ _ _ | exact Kd.S_nil _ _ _ _ _⟩, ⟨by repeat (first | (with_reducible first | exact HI0.out | apply IsS47.alloc | apply IsS47.drewN | apply IsS47.drew | apply IsS47.set_1 | apply IsS47.set_2) | exact HI0.out)⟩, ⟨by repeat (first | (with_reducible first | exact HK.out | apply KeepBut.set_ | apply keep_drewN | apply keep_drew | apply keep_alloc) | exact HK.out)⟩, ⟨by repeat (first | (with_reducible first | exact HB.out | apply bA | apply bN | apply bD | refine below_set ?_ (IsS47.ge HI0.out)) | exact HB.out)⟩⟩
    case round =>
     clear H'
     try clear c1
     try clear c2
     try clear p2
     try clear c3
     try clear c4
     try clear c4b0
     try clear c4b1
     try clear c5
     try clear c12
     try clear c12b0
     try clear c12b1
     try clear c15
     try clear c27
     try clear c27b0
     try clear c27b1
     obtain ⟨x5_1, x6_1, x1001_1, x1002_1, rfl, HA, HK1, HO_5, HI0, HK, HB⟩ := hrel
     cases gk with
     | zero => exact absurd HA.out (by simp [spec_l1Cur_chords.l0])
     | succ k1 =>
      have H := HA.out
      clear HA
      simp only [spec_l1Cur_chords.l0] at H
      replace H := bI H
      obtain ⟨⟨t428, t429, t430⟩, A300, H⟩ := H
      replace H : (if x6_1 < (wrap64 (40 + t428)) then ((spec_srChord.f (Int.tmod x6_1 12) (Int.tmod (wrap64 ((wrap64 (x6_1 + 1)) + (wrap64 (Int.tdiv x6_1 12)))) 12)).bind fun bt431 => ((spec_srPut.f k1 x5_1 bt431.1 bt431.2).bind fun t433 => (spec_l1Cur_chords.l0 k1 12 t433 (wrap64 (x6_1 + 1)) s0_0 t429 t430))) else (some (12, x5_1, t429, t430))) = some (r1, r2, r3, r4) := H
      have A30 := Aside0.mk A300
      clear A300
      by_cases c31 : x6_1 < (wrap64 (40 + t428))
      ·rw [if_pos c31] at H
       have c31b0 : decide (x6_1 < (wrap64 (40 + t428))) = true := decide_eq_true c31
       clear c31
       replace H := bI H
       obtain ⟨⟨t431, t432⟩, A320, H⟩ := H
       replace H : ((spec_srPut.f k1 x5_1 t431 t432).bind fun t433 => (spec_l1Cur_chords.l0 k1 12 t433 (wrap64 (x6_1 + 1)) s0_0 t429 t430)) = some (r1, r2, r3, r4) := H
       have A32 := Aside0.mk A320
       clear A320
       replace H := bI H
       obtain ⟨t433, A330, H⟩ := H
       replace H : (spec_l1Cur_chords.l0 k1 12 t433 (wrap64 (x6_1 + 1)) s0_0 t429 t430) = some (r1, r2, r3, r4) := H
       have A33 := Aside0.mk A330
       clear A330
       have H' := Aside0.mk H
       clear H
       go_wp2_with (first | ((with_reducible refine gate_callee (f := 30) rfl ?_); refine goesL_ (some 36) rfl rfl Try.func30 (by kernel_rfl) rfl #[.pointer (some ⟨g, 0, none⟩), .int .i64 2] rfl ar_ ?_; (with_reducible refine (spec_l1Cur_pick.calls g s0_0 x1001_1 x1002_1 2 t428 t429 t430 w0 _ ?side1 ?side2 A30.out).mono ?_); (case side1 => repeat (first | (with_reducible first | exact HI0.out | apply IsS47.alloc | apply IsS47.drewN | apply IsS47.drew | apply IsS47.set_1 | apply IsS47.set_2) | exact HI0.out)); (case side2 => repeat (first | (with_reducible first | exact HB.out | apply bA | apply bN | apply bD | refine below_set ?_ (IsS47.ge HI0.out)) | exact HB.out)); rintro e w34 ⟨rfl, hi, hb, hk⟩; refine ⟨_, rfl, ?_⟩; have n0_ := Aside0.mk (Kd.R_mono (Kd.R_keep (IsS47.apart (show IsS47 w0 _ g s0_0 x1001_1 x1002_1 from by repeat (first | (with_reducible first | exact HI0.out | apply IsS47.alloc | apply IsS47.drewN | apply IsS47.drew | apply IsS47.set_1 | apply IsS47.set_2) | exact HI0.out)) (ra_ HO_5.out) (by decide)) hk (fun _ h => h.2)) (fun _ h => h.1)); have n1_ := Aside0.mk (KeepBut.trans (by repeat (first | (with_reducible first | exact HK.out | apply KeepBut.set_ | apply keep_drewN | apply keep_drew | apply keep_alloc) | exact HK.out)) hk (.inl rfl)); have n2_ := Aside0.mk (hb); have n3_ := Aside0.mk (hi); clear HO_5; clear HK; clear HB; clear HI0; have HO_5 := n0_; have HK := n1_; have HB := n2_; have HI0 := n3_; clear n0_ n1_ n2_ n3_; (try clear hb); (try clear hb2); (try clear hk); (try clear hi)) | ((with_reducible refine gate_callee (f := 53) rfl ?_); refine goesL_ (some 50) rfl rfl Try.func53 (by kernel_rfl) rfl #[.int .i64 (Int.tmod x6_1 12), .int .i64 (Int.tmod (wrap64 ((wrap64 (x6_1 + 1)) + (wrap64 (Int.tdiv x6_1 12)))) 12)] rfl ar_ ?_; (with_reducible refine (spec_srChord.calls (Int.tmod x6_1 12) (Int.tmod (wrap64 ((wrap64 (x6_1 + 1)) + (wrap64 (Int.tdiv x6_1 12)))) 12) t431 t432 _ A32.out).mono ?_); rintro e w35 ⟨rfl, hb⟩; refine ⟨_, rfl, ?_⟩; have n0_ := Aside0.mk (Kd.R_below (ra_ HO_5.out) hb); have n1_ := Aside0.mk (IsS47.below (by repeat (first | (with_reducible first | exact HI0.out | apply IsS47.alloc | apply IsS47.drewN | apply IsS47.drew | apply IsS47.set_1 | apply IsS47.set_2) | exact HI0.out)) hb); have n2_ := Aside0.mk (KeepBut.trans (by repeat (first | (with_reducible first | exact HK.out | apply KeepBut.set_ | apply keep_drewN | apply keep_drew | apply keep_alloc) | exact HK.out)) (KeepBut.of_below hb g none) (.inl rfl)); have n3_ := Aside0.mk (below_step (by repeat (first | (with_reducible first | exact HB.out | apply bA | apply bN | apply bD | refine below_set ?_ (IsS47.ge HI0.out)) | exact HB.out)) hb); clear HO_5; clear HI0; clear HK; clear HB; have HO_5 := n0_; have HI0 := n1_; have HK := n2_; have HB := n3_; clear n0_ n1_ n2_ n3_; (try clear hb); (try clear hb2); (try clear hk); (try clear hi); obtain ⟨Ao36, co36, eo36⟩ := Kd.R_slice HO_5.out; subst eo36) | ((with_reducible refine gate_callee (f := 52) rfl ?_); refine goesL_ (some 51) rfl rfl Try.func52 (by kernel_rfl) rfl #[.slice Ao36 x5_1.length co36, .agg #[.int .i64 t431, .int .i64 t432]] rfl ar_ ?_; (with_reducible refine (spec_srPut.calls k1 (fun k_ => some k_ = (.slice Ao36 x5_1.length co36 : Value).ownBlock) (.slice Ao36 x5_1.length co36) x5_1 t431 t432 t433 w0 _ ?side1 ?side2 A33.out).mono ?_); (case side1 => repeat (first | (with_reducible first | exact HB.out | apply bA | apply bN | apply bD | refine below_set ?_ (IsS47.ge HI0.out)) | exact HB.out)); (case side2 => exact Kd.R_lower (Kd.R_tight rfl HO_5.out) HL.out); rintro e w37 ⟨v434, rfl, ho0, hb, hkp⟩; refine ⟨_, rfl, ?_⟩; have n0_ := Aside0.mk (IsS47.kept (by repeat (first | (with_reducible first | exact HI0.out | apply IsS47.alloc | apply IsS47.drewN | apply IsS47.drew | apply IsS47.set_1 | apply IsS47.set_2) | exact HI0.out)) hkp (fun hs_ => (fun e_ => (IsS47.own_ne HI0.out HO_5.out (by decide)) e_) hs_)); have n1_ := Aside0.mk (Kd.R_mono (ok' := fun k_ => True) (Kd.R_raise (d := k60) (b := w0.heap.size) (b' := w.heap.size) (fun _ _ _ _ h_ => h_) ho0 (fun k_ e_ => Or.elim (ho0.1 k_ e_) (fun hs_ => (fun e_ => Kd.R_base HO_5.out k_ e_.symm) hs_) (fun hn_ => Nat.le_trans (keep_size (w := w) (g := g) (row := none) (by repeat (first | (with_reducible first | exact HK.out | apply KeepBut.set_ | apply keep_drewN | apply keep_drew | apply keep_alloc) | exact HK.out))) hn_))) (fun k_ hk_ => trivial)); have n2_ := Aside0.mk (Kept.keepG (by repeat (first | (with_reducible first | exact HK.out | apply KeepBut.set_ | apply keep_drewN | apply keep_drew | apply keep_alloc) | exact HK.out)) hkp (fun k_ hs_ => (fun e_ => .inr (Kd.R_base HO_5.out k_ e_.symm)) hs_)); have n3_ := Aside0.mk (hb); clear HI0; clear HK; clear HB; clear HO_5; have HI0 := n0_; have HO435 := n1_; have HK := n2_; have HB := n3_; clear n0_ n1_ n2_ n3_; (try clear hb); (try clear hkp); (try clear ho0)))
       go_roundg k1
       case measure => have := HK1.out; omega
       case rel => exact ⟨(t433), (wrap64 (x6_1 + 1)), (t429), (t430), (by first | rfl | (simp; done) | (simp [*]; done)), H', ⟨by have := HK1.out; omega⟩, ⟨by (with_reducible repeat (first | apply rA | apply rN | apply rD)); exact HO435.out⟩, ⟨by repeat (first | (with_reducible first | exact HI0.out | apply IsS47.alloc | apply IsS47.drewN | apply IsS47.drew | apply IsS47.set_1 | apply IsS47.set_2) | exact HI0.out)⟩, ⟨by repeat (first | (with_reducible first | exact HK.out | apply KeepBut.set_ | apply keep_drewN | apply keep_drew | apply keep_alloc) | exact HK.out)⟩, ⟨by repeat (first | (with_reducible first | exact HB.out | apply bA | apply bN | apply bD | refine below_set ?_ (IsS47.ge HI0.out)) | exact HB.out)⟩⟩
      ·rw [if_neg c31] at H
       have c31b0 : decide (x6_1 < (wrap64 (40 + t428))) = false := decide_eq_false c31
       clear c31
       simp only [Option.some.injEq, Prod.mk.injEq] at H
       obtain ⟨rfl, rfl, rfl, rfl⟩ := H
       go_wp2_with (first | ((with_reducible refine gate_callee (f := 30) rfl ?_); refine goesL_ (some 36) rfl rfl Try.func30 (by kernel_rfl) rfl #[.pointer (some ⟨g, 0, none⟩), .int .i64 2] rfl ar_ ?_; (with_reducible refine (spec_l1Cur_pick.calls g s0_0 x1001_1 x1002_1 2 t428 t429 t430 w0 _ ?side1 ?side2 A30.out).mono ?_); (case side1 => repeat (first | (with_reducible first | exact HI0.out | apply IsS47.alloc | apply IsS47.drewN | apply IsS47.drew | apply IsS47.set_1 | apply IsS47.set_2) | exact HI0.out)); (case side2 => repeat (first | (with_reducible first | exact HB.out | apply bA | apply bN | apply bD | refine below_set ?_ (IsS47.ge HI0.out)) | exact HB.out)); rintro e w38 ⟨rfl, hi, hb, hk⟩; refine ⟨_, rfl, ?_⟩; have n0_ := Aside0.mk (Kd.R_mono (Kd.R_keep (IsS47.apart (show IsS47 w0 _ g s0_0 x1001_1 x1002_1 from by repeat (first | (with_reducible first | exact HI0.out | apply IsS47.alloc | apply IsS47.drewN | apply IsS47.drew | apply IsS47.set_1 | apply IsS47.set_2) | exact HI0.out)) (ra_ HO_5.out) (by decide)) hk (fun _ h => h.2)) (fun _ h => h.1)); have n1_ := Aside0.mk (KeepBut.trans (by repeat (first | (with_reducible first | exact HK.out | apply KeepBut.set_ | apply keep_drewN | apply keep_drew | apply keep_alloc) | exact HK.out)) hk (.inl rfl)); have n2_ := Aside0.mk (hb); have n3_ := Aside0.mk (hi); clear HO_5; clear HK; clear HB; clear HI0; have HO_5 := n0_; have HK := n1_; have HB := n2_; have HI0 := n3_; clear n0_ n1_ n2_ n3_; (try clear hb); (try clear hb2); (try clear hk); (try clear hi)))
       go_ret2
       exact ⟨_, by first | rfl | (simp [errW_none, errW_some] <;> rfl) | (simp [*, errW_none, errW_some] <;> rfl), by (with_reducible repeat (first | apply rA | apply rN | apply rD)); exact HO_5.out, by repeat (first | (with_reducible first | exact HI0.out | apply IsS47.alloc | apply IsS47.drewN | apply IsS47.drew | apply IsS47.set_1 | apply IsS47.set_2) | exact HI0.out), by repeat (first | (with_reducible first | exact HB.out | apply bA | apply bN | apply bD | refine below_set ?_ (IsS47.ge HI0.out)) | exact HB.out), by repeat (first | (with_reducible first | exact HK.out | apply KeepBut.set_ | apply keep_drewN | apply keep_drew | apply keep_alloc) | exact HK.out)⟩
   ·rw [if_neg c27] at H
    have c27b0 : (t404 == 2) = false := beq_eq_false_iff_ne.mpr c27
    have c27b1 : (t404 != 2) = true := bne_iff_ne.mpr c27
    by_cases c39 : t404 = 3
    ·rw [if_pos c39] at H
     have c39b0 : (t404 == 3) = true := beq_iff_eq.mpr c39
     have c39b1 : (t404 != 3) = false := bne_eq_false_iff_eq.mpr c39
     clear c39
     replace H := bI H
     obtain ⟨⟨t436, t437, t438, t439⟩, A400, H⟩ := H
     replace H : ((spec_srChords.f k t436 t437).bind fun t441 => (if (t441.length : Int) > 12 then (if 12 ≤ (t441.length : Int) then (some (t436, (t441.take (12 : Int).toNat), t438, t439)) else (none)) else (some (t436, t441, t438, t439)))) = some (r1, r2, r3, r4) := H
     have A40 := Aside0.mk A400
     clear A400
     replace H := bI H
     obtain ⟨t441, A410, H⟩ := H
     replace H : (if (t441.length : Int) > 12 then (if 12 ≤ (t441.length : Int) then (some (t436, (t441.take (12 : Int).toNat), t438, t439)) else (none)) else (some (t436, t441, t438, t439))) = some (r1, r2, r3, r4) := H
     have A41 := Aside0.mk A410
     clear A410
     by_cases c42 : (t441.length : Int) > 12
     ·rw [if_pos c42] at H
      have c42b0 : decide (12 < (t441.length : Int)) = true := decide_eq_true c42
      have c42b1 : decide (12 < t441.length) = true := decide_eq_true (by omega)
      clear c42
      by_cases c43 : 12 ≤ (t441.length : Int)
      ·rw [if_pos c43] at H
       have c43b0 := eq_true c43
       have c43b1 : decide (12 ≤ (t441.length : Int)) = true := decide_eq_true c43
       clear c43
       obtain ⟨y444, hy444⟩ : ∃ y_ : List (S60), y_ = (t441.take (12 : Int).toNat) := ⟨_, rfl⟩
       replace H : (some (t436, y444, t438, t439)) = some (r1, r2, r3, r4) := by first | (rw [hy444]; with_reducible exact H) | (have H2_ := (Option.bind_some _ _).symm.trans H; rw [hy444]; with_reducible exact H2_) | (have H2_ := (Option.bind_some _ _).symm.trans H; with_reducible exact H2_) | with_reducible exact H | (rw [hy444]; exact H) | exact H
       have Ny444 := Aside0.mk hy444
       clear hy444
       simp only [Option.some.injEq, Prod.mk.injEq] at H
       obtain ⟨rfl, rfl, rfl, rfl⟩ := H
       go_enter Try.func27, Try.ntmps27
       go_wp2_with (first | ((with_reducible refine gate_callee (f := 50) rfl ?_); refine goesL_ (some 10) rfl rfl Try.func50 (by kernel_rfl) rfl #[.pointer (some ⟨g, 0, none⟩), .int .i64 9] rfl ar_ ?_; (with_reducible refine (spec_l1Cur_sureChords.calls k g s0_0 s0_1 s0_2 9 t398 t399 t402 t403 w0 _ ?side1 ?side2 A2.out).mono ?_); (case side1 => repeat (first | (with_reducible first | exact HI0.out | apply IsS47.alloc | apply IsS47.drewN | apply IsS47.drew | apply IsS47.set_1 | apply IsS47.set_2) | exact HI0.out)); (case side2 => repeat (first | (with_reducible first | exact HB.out | apply bA | apply bN | apply bD | refine below_set ?_ (IsS47.ge HI0.out)) | exact HB.out)); rintro e w44 ⟨v400, rfl, ho0, hi, hb, hk⟩; refine ⟨_, rfl, ?_⟩; have n0_ := Aside0.mk (Kd.R_lower ho0 (keep_size (w := w) (g := g) (row := none) (by repeat (first | (with_reducible first | exact HK.out | apply KeepBut.set_ | apply keep_drewN | apply keep_drew | apply keep_alloc) | exact HK.out)))); have n1_ := Aside0.mk (KeepBut.trans (by repeat (first | (with_reducible first | exact HK.out | apply KeepBut.set_ | apply keep_drewN | apply keep_drew | apply keep_alloc) | exact HK.out)) hk (.inl rfl)); have n2_ := Aside0.mk (hb); have n3_ := Aside0.mk (hi); clear HK; clear HB; clear HI0; have HO401 := n0_; have HK := n1_; have HB := n2_; have HI0 := n3_; clear n0_ n1_ n2_ n3_; (try clear hb); (try clear hb2); (try clear hk); (try clear hi); (try clear ho0)) | ((with_reducible refine gate_callee (f := 30) rfl ?_); refine goesL_ (some 14) rfl rfl Try.func30 (by kernel_rfl) rfl #[.pointer (some ⟨g, 0, none⟩), .int .i64 18] rfl ar_ ?_; (with_reducible refine (spec_l1Cur_pick.calls g s0_0 t402 t403 18 t404 t405 t406 w0 _ ?side1 ?side2 A3.out).mono ?_); (case side1 => repeat (first | (with_reducible first | exact HI0.out | apply IsS47.alloc | apply IsS47.drewN | apply IsS47.drew | apply IsS47.set_1 | apply IsS47.set_2) | exact HI0.out)); (case side2 => repeat (first | (with_reducible first | exact HB.out | apply bA | apply bN | apply bD | refine below_set ?_ (IsS47.ge HI0.out)) | exact HB.out)); rintro e w45 ⟨rfl, hi, hb, hk⟩; refine ⟨_, rfl, ?_⟩; have n0_ := Aside0.mk (Kd.R_mono (Kd.R_keep (IsS47.apart (show IsS47 w0 _ g s0_0 t402 t403 from by repeat (first | (with_reducible first | exact HI0.out | apply IsS47.alloc | apply IsS47.drewN | apply IsS47.drew | apply IsS47.set_1 | apply IsS47.set_2) | exact HI0.out)) (ra_ HO401.out) (by decide)) hk (fun _ h => h.2)) (fun _ h => h.1)); have n1_ := Aside0.mk (KeepBut.trans (by repeat (first | (with_reducible first | exact HK.out | apply KeepBut.set_ | apply keep_drewN | apply keep_drew | apply keep_alloc) | exact HK.out)) hk (.inl rfl)); have n2_ := Aside0.mk (hb); have n3_ := Aside0.mk (hi); clear HO401; clear HK; clear HB; clear HI0; have HO401 := n0_; have HK := n1_; have HB := n2_; have HI0 := n3_; clear n0_ n1_ n2_ n3_; (try clear hb); (try clear hb2); (try clear hk); (try clear hi)) | ((with_reducible refine gate_callee (f := 54) rfl ?_); refine goesL_ (some 55) rfl rfl Try.func54 (by kernel_rfl) rfl #[.pointer (some ⟨g, 0, none⟩)] rfl ar_ ?_; (with_reducible refine (spec_l1Cur_sureStar.calls g s0_0 t405 t406 t436 t437 t438 t439 w0 _ ?side1 ?side2 A40.out).mono ?_); (case side1 => repeat (first | (with_reducible first | exact HI0.out | apply IsS47.alloc | apply IsS47.drewN | apply IsS47.drew | apply IsS47.set_1 | apply IsS47.set_2) | exact HI0.out)); (case side2 => repeat (first | (with_reducible first | exact HB.out | apply bA | apply bN | apply bD | refine below_set ?_ (IsS47.ge HI0.out)) | exact HB.out)); rintro e w46 ⟨rfl, hi, hb, hk⟩; refine ⟨_, rfl, ?_⟩; have n0_ := Aside0.mk (Kd.R_mono (Kd.R_keep (IsS47.apart (show IsS47 w0 _ g s0_0 t405 t406 from by repeat (first | (with_reducible first | exact HI0.out | apply IsS47.alloc | apply IsS47.drewN | apply IsS47.drew | apply IsS47.set_1 | apply IsS47.set_2) | exact HI0.out)) (ra_ HO401.out) (by decide)) hk (fun _ h => h.2)) (fun _ h => h.1)); have n1_ := Aside0.mk (KeepBut.trans (by repeat (first | (with_reducible first | exact HK.out | apply KeepBut.set_ | apply keep_drewN | apply keep_drew | apply keep_alloc) | exact HK.out)) hk (.inl rfl)); have n2_ := Aside0.mk (hb); have n3_ := Aside0.mk (hi); clear HO401; clear HK; clear HB; clear HI0; have HO401 := n0_; have HK := n1_; have HB := n2_; have HI0 := n3_; clear n0_ n1_ n2_ n3_; (try clear hb); (try clear hb2); (try clear hk); (try clear hi)) | ((with_reducible refine gate_dst (N := 7) rfl ?_); refine box_event ?hg (N := 7) ?hd (cs := #[.int .i64 0, .int .i64 0]) (t := 37) ?hr ?_; (case hd => rfl); (case hg => rfl); (case hr => first | (go_simp; done) | (go_simp; rfl)); intro gb440 hg w47 hbox hb; have n0_ := Aside0.mk (Kd.R_below (ra_ HO401.out) hb); have n1_ := Aside0.mk (IsS47.below (by repeat (first | (with_reducible first | exact HI0.out | apply IsS47.alloc | apply IsS47.drewN | apply IsS47.drew | apply IsS47.set_1 | apply IsS47.set_2) | exact HI0.out)) hb); have n2_ := Aside0.mk (KeepBut.trans (by repeat (first | (with_reducible first | exact HK.out | apply KeepBut.set_ | apply keep_drewN | apply keep_drew | apply keep_alloc) | exact HK.out)) (KeepBut.of_below hb g none) (.inl rfl)); have n3_ := Aside0.mk (below_step (by repeat (first | (with_reducible first | exact HB.out | apply bA | apply bN | apply bD | refine below_set ?_ (IsS47.ge HI0.out)) | exact HB.out)) hb); have n4_ := Aside0.mk (hbox); have n5_ := Aside0.mk ((by rw [hg]; exact (keep_size (w := w) (g := g) (row := none) (by repeat (first | (with_reducible first | exact HK.out | apply KeepBut.set_ | apply keep_drewN | apply keep_drew | apply keep_alloc) | exact HK.out))) : w.heap.size ≤ gb440)); have n6_ := Aside0.mk ((Nat.le_trans HW0.out (by rw [hg]; exact (keep_size (w := w) (g := g) (row := none) (by repeat (first | (with_reducible first | exact HK.out | apply KeepBut.set_ | apply keep_drewN | apply keep_drew | apply keep_alloc) | exact HK.out))) : w.heap.size ≤ gb440) : w0.heap.size ≤ gb440)); have n7_ := Aside0.mk ((by rw [hg]; exact Nat.ne_of_lt (IsS47.lt (show IsS47 w0 _ g s0_0 t438 t439 from by repeat (first | (with_reducible first | exact HI0.out | apply IsS47.alloc | apply IsS47.drewN | apply IsS47.drew | apply IsS47.set_1 | apply IsS47.set_2) | exact HI0.out))) : g ≠ gb440)); have n8_ := Aside0.mk ((by rw [hg]; exact Nat.ne_of_gt (IsS47.lt (show IsS47 w0 _ g s0_0 t438 t439 from by repeat (first | (with_reducible first | exact HI0.out | apply IsS47.alloc | apply IsS47.drewN | apply IsS47.drew | apply IsS47.set_1 | apply IsS47.set_2) | exact HI0.out))) : gb440 ≠ g)); clear HO401; clear HI0; clear HK; clear HB; have HO401 := n0_; have HI0 := n1_; have HK := n2_; have HB := n3_; have BK440 := n4_; have GW440 := n5_; have GE440 := n6_; have NB0_440 := n7_; have NB440_0 := n8_; clear n0_ n1_ n2_ n3_ n4_ n5_ n6_ n7_ n8_; clear hb hbox hg; have hnb48 := NB440_0.out; have hnc48 := NB0_440.out; have hcz49_0 : w47.cell? ⟨gb440, 0, none⟩ = some (.int .i64 0) := bc_ BK440 0; have hcz49_1 : w47.cell? ⟨gb440, 1, none⟩ = some (.int .i64 0) := bc_ BK440 1; have hfz49_0 := blk_frozen BK440.out 0; have hfz49_1 := blk_frozen BK440.out 1) | ((with_reducible refine gate_callee (f := 48) rfl ?_); refine goesL_ (some 57) rfl rfl Try.func48 (by kernel_rfl) rfl #[.agg #[.int .i64 t436, .int .i64 t437]] rfl ar_ ?_; (with_reducible refine (spec_srChords.calls k t436 t437 t441 _ A41.out).mono ?_); rintro e w50 ⟨v442, rfl, ho0, hb⟩; refine ⟨_, rfl, ?_⟩; have n0_ := Aside0.mk (Kd.R_elder' (by (with_reducible repeat (first | apply rA | apply rN | apply rD)); exact (Kd.R_mono (Kd.R_far (p := ⟨gb440, 1, none⟩) (Kd.R_far (p := ⟨gb440, 0, none⟩) (Kd.R_types HO401.out BK440.out (by decide)) (fun _ hk => hk.2) (.int .i64 t436)) (fun _ hk => hk.2) (.int .i64 t437)) (fun _ h_ => h_.1))) (Kd.R_base ho0) hb); have n1_ := Aside0.mk (Kd.R_lower (Kd.R_new' ho0 (Kd.R_lt (by (with_reducible repeat (first | apply rA | apply rN | apply rD)); exact (Kd.R_mono (Kd.R_far (p := ⟨gb440, 1, none⟩) (Kd.R_far (p := ⟨gb440, 0, none⟩) (Kd.R_types HO401.out BK440.out (by decide)) (fun _ hk => hk.2) (.int .i64 t436)) (fun _ hk => hk.2) (.int .i64 t437)) (fun _ h_ => h_.1))))) (keep_size (w := w) (g := g) (row := none) (by repeat (first | (with_reducible first | exact HK.out | apply KeepBut.set_ | apply keep_drewN | apply keep_drew | apply keep_alloc | refine keep_far ?_ GW440.out _) | exact HK.out)))); have n2_ := Aside0.mk (IsS47.below (show IsS47 w0 ((w47.setCell ⟨gb440, 0, none⟩ (.int .i64 t436)).setCell ⟨gb440, 1, none⟩ (.int .i64 t437)) g s0_0 t438 t439 from by repeat (first | (with_reducible first | exact HI0.out | apply IsS47.alloc | apply IsS47.drewN | apply IsS47.drew | apply IsS47.set_1 | apply IsS47.set_2 | refine IsS47.far ?_ NB0_440.out _) | exact HI0.out)) hb); have n3_ := Aside0.mk (blk_below (g := gb440) (o := .cells #[.int .i64 t436, .int .i64 t437] 37 (0, 0)) (by (with_reducible repeat (first | refine kN ?_ _ | refine kD ?_ | refine kA ?_ _)); refine blk_put (cs := #[.int .i64 t436, .int .i64 0]) ?_ 1 _ rfl; (with_reducible repeat (first | refine kN ?_ _ | refine kD ?_ | refine kA ?_ _)); refine blk_put (cs := #[.int .i64 0, .int .i64 0]) ?_ 0 _ rfl; (with_reducible repeat (first | refine kN ?_ _ | refine kD ?_ | refine kA ?_ _)); exact BK440.out) hb); have n4_ := Aside0.mk (KeepBut.trans (by repeat (first | (with_reducible first | exact HK.out | apply KeepBut.set_ | apply keep_drewN | apply keep_drew | apply keep_alloc | refine keep_far ?_ GW440.out _) | exact HK.out)) (KeepBut.of_below hb g none) (.inl rfl)); have n5_ := Aside0.mk (below_step (by repeat (first | (with_reducible first | exact HB.out | apply bA | apply bN | apply bD | refine below_set ?_ (IsS47.ge HI0.out) | refine below_set ?_ GE440.out) | exact HB.out)) hb); clear HO401; clear HI0; clear BK440; clear HK; clear HB; have HO401 := n0_; have HO443 := n1_; have HI0 := n2_; have BK440 := n3_; have HK := n4_; have HB := n5_; clear n0_ n1_ n2_ n3_ n4_ n5_; (try clear hb); (try clear hb2); (try clear hk); (try clear hi); (try clear ho0); obtain ⟨Ao51, co51, eo51⟩ := Kd.R_slice HO443.out; subst eo51; have q52 : (12 : Int) ≤ ((t441.length : Int) : Int) := of_decide_eq_true (by assumption); obtain ⟨i052, hi052, _, hsz52, _⟩ := info_parts info60; have hcut52 := cut_to (P := Try.prog) 24 60 .i64 Try.underlying24 hi052 Ao51 t441.length co51 12 (by omega) q52 (Kd.R_reads' HO443.out).2.1; have hr52 := Kd.R_take (m := (12 : Int).toNat) HO443.out (by omega); have hy52 : y444.length = (12 : Int).toNat := (by rw [Ny444.out, List.length_take]; omega); rw [← Ny444.out] at hr52; rw [← hy52] at hr52 hcut52; clear hy52 hi052 hsz52 HO443; have HO446 := Aside0.mk hr52; clear hr52; replace q52 := eq_true q52; have hcz53_0 : w50.cell? ⟨gb440, 0, none⟩ = some (.int .i64 t436) := bc_ BK440 0; have hcz53_1 : w50.cell? ⟨gb440, 1, none⟩ = some (.int .i64 t437) := bc_ BK440 1; have hfz53_0 := blk_frozen BK440.out 0; have hfz53_1 := blk_frozen BK440.out 1))
       go_ret2
       exact ⟨_, by first | rfl | (simp [errW_none, errW_some] <;> rfl) | (simp [*, errW_none, errW_some] <;> rfl), by (with_reducible repeat (first | apply rA | apply rN | apply rD)); exact Kd.R_mono HO446.out (fun _ hk => trivial), by repeat (first | (with_reducible first | exact HI0.out | apply IsS47.alloc | apply IsS47.drewN | apply IsS47.drew | apply IsS47.set_1 | apply IsS47.set_2 | refine IsS47.far ?_ NB0_440.out _) | exact HI0.out), by repeat (first | (with_reducible first | exact HB.out | apply bA | apply bN | apply bD | refine below_set ?_ (IsS47.ge HI0.out) | refine below_set ?_ GE440.out) | exact HB.out), by repeat (first | (with_reducible first | exact HK.out | apply KeepBut.set_ | apply keep_drewN | apply keep_drew | apply keep_alloc | refine keep_far ?_ GW440.out _) | exact HK.out)⟩
      ·rw [if_neg c43] at H
       exact absurd H (by simp)
     ·rw [if_neg c42] at H
      have c42b0 : decide (12 < (t441.length : Int)) = false := decide_eq_false c42
      have c42b1 : decide (12 < t441.length) = false := decide_eq_false (by omega)
      clear c42
      simp only [Option.some.injEq, Prod.mk.injEq] at H
      obtain ⟨rfl, rfl, rfl, rfl⟩ := H
      go_enter Try.func27, Try.ntmps27
      go_wp2_with (first | ((with_reducible refine gate_callee (f := 50) rfl ?_); refine goesL_ (some 10) rfl rfl Try.func50 (by kernel_rfl) rfl #[.pointer (some ⟨g, 0, none⟩), .int .i64 9] rfl ar_ ?_; (with_reducible refine (spec_l1Cur_sureChords.calls k g s0_0 s0_1 s0_2 9 t398 t399 t402 t403 w0 _ ?side1 ?side2 A2.out).mono ?_); (case side1 => repeat (first | (with_reducible first | exact HI0.out | apply IsS47.alloc | apply IsS47.drewN | apply IsS47.drew | apply IsS47.set_1 | apply IsS47.set_2) | exact HI0.out)); (case side2 => repeat (first | (with_reducible first | exact HB.out | apply bA | apply bN | apply bD | refine below_set ?_ (IsS47.ge HI0.out)) | exact HB.out)); rintro e w54 ⟨v400, rfl, ho0, hi, hb, hk⟩; refine ⟨_, rfl, ?_⟩; have n0_ := Aside0.mk (Kd.R_lower ho0 (keep_size (w := w) (g := g) (row := none) (by repeat (first | (with_reducible first | exact HK.out | apply KeepBut.set_ | apply keep_drewN | apply keep_drew | apply keep_alloc) | exact HK.out)))); have n1_ := Aside0.mk (KeepBut.trans (by repeat (first | (with_reducible first | exact HK.out | apply KeepBut.set_ | apply keep_drewN | apply keep_drew | apply keep_alloc) | exact HK.out)) hk (.inl rfl)); have n2_ := Aside0.mk (hb); have n3_ := Aside0.mk (hi); clear HK; clear HB; clear HI0; have HO401 := n0_; have HK := n1_; have HB := n2_; have HI0 := n3_; clear n0_ n1_ n2_ n3_; (try clear hb); (try clear hb2); (try clear hk); (try clear hi); (try clear ho0)) | ((with_reducible refine gate_callee (f := 30) rfl ?_); refine goesL_ (some 14) rfl rfl Try.func30 (by kernel_rfl) rfl #[.pointer (some ⟨g, 0, none⟩), .int .i64 18] rfl ar_ ?_; (with_reducible refine (spec_l1Cur_pick.calls g s0_0 t402 t403 18 t404 t405 t406 w0 _ ?side1 ?side2 A3.out).mono ?_); (case side1 => repeat (first | (with_reducible first | exact HI0.out | apply IsS47.alloc | apply IsS47.drewN | apply IsS47.drew | apply IsS47.set_1 | apply IsS47.set_2) | exact HI0.out)); (case side2 => repeat (first | (with_reducible first | exact HB.out | apply bA | apply bN | apply bD | refine below_set ?_ (IsS47.ge HI0.out)) | exact HB.out)); rintro e w55 ⟨rfl, hi, hb, hk⟩; refine ⟨_, rfl, ?_⟩; have n0_ := Aside0.mk (Kd.R_mono (Kd.R_keep (IsS47.apart (show IsS47 w0 _ g s0_0 t402 t403 from by repeat (first | (with_reducible first | exact HI0.out | apply IsS47.alloc | apply IsS47.drewN | apply IsS47.drew | apply IsS47.set_1 | apply IsS47.set_2) | exact HI0.out)) (ra_ HO401.out) (by decide)) hk (fun _ h => h.2)) (fun _ h => h.1)); have n1_ := Aside0.mk (KeepBut.trans (by repeat (first | (with_reducible first | exact HK.out | apply KeepBut.set_ | apply keep_drewN | apply keep_drew | apply keep_alloc) | exact HK.out)) hk (.inl rfl)); have n2_ := Aside0.mk (hb); have n3_ := Aside0.mk (hi); clear HO401; clear HK; clear HB; clear HI0; have HO401 := n0_; have HK := n1_; have HB := n2_; have HI0 := n3_; clear n0_ n1_ n2_ n3_; (try clear hb); (try clear hb2); (try clear hk); (try clear hi)) | ((with_reducible refine gate_callee (f := 54) rfl ?_); refine goesL_ (some 55) rfl rfl Try.func54 (by kernel_rfl) rfl #[.pointer (some ⟨g, 0, none⟩)] rfl ar_ ?_; (with_reducible refine (spec_l1Cur_sureStar.calls g s0_0 t405 t406 t436 t437 t438 t439 w0 _ ?side1 ?side2 A40.out).mono ?_); (case side1 => repeat (first | (with_reducible first | exact HI0.out | apply IsS47.alloc | apply IsS47.drewN | apply IsS47.drew | apply IsS47.set_1 | apply IsS47.set_2) | exact HI0.out)); (case side2 => repeat (first | (with_reducible first | exact HB.out | apply bA | apply bN | apply bD | refine below_set ?_ (IsS47.ge HI0.out)) | exact HB.out)); rintro e w56 ⟨rfl, hi, hb, hk⟩; refine ⟨_, rfl, ?_⟩; have n0_ := Aside0.mk (Kd.R_mono (Kd.R_keep (IsS47.apart (show IsS47 w0 _ g s0_0 t405 t406 from by repeat (first | (with_reducible first | exact HI0.out | apply IsS47.alloc | apply IsS47.drewN | apply IsS47.drew | apply IsS47.set_1 | apply IsS47.set_2) | exact HI0.out)) (ra_ HO401.out) (by decide)) hk (fun _ h => h.2)) (fun _ h => h.1)); have n1_ := Aside0.mk (KeepBut.trans (by repeat (first | (with_reducible first | exact HK.out | apply KeepBut.set_ | apply keep_drewN | apply keep_drew | apply keep_alloc) | exact HK.out)) hk (.inl rfl)); have n2_ := Aside0.mk (hb); have n3_ := Aside0.mk (hi); clear HO401; clear HK; clear HB; clear HI0; have HO401 := n0_; have HK := n1_; have HB := n2_; have HI0 := n3_; clear n0_ n1_ n2_ n3_; (try clear hb); (try clear hb2); (try clear hk); (try clear hi)) | ((with_reducible refine gate_dst (N := 7) rfl ?_); refine box_event ?hg (N := 7) ?hd (cs := #[.int .i64 0, .int .i64 0]) (t := 37) ?hr ?_; (case hd => rfl); (case hg => rfl); (case hr => first | (go_simp; done) | (go_simp; rfl)); intro gb440 hg w57 hbox hb; have n0_ := Aside0.mk (Kd.R_below (ra_ HO401.out) hb); have n1_ := Aside0.mk (IsS47.below (by repeat (first | (with_reducible first | exact HI0.out | apply IsS47.alloc | apply IsS47.drewN | apply IsS47.drew | apply IsS47.set_1 | apply IsS47.set_2) | exact HI0.out)) hb); have n2_ := Aside0.mk (KeepBut.trans (by repeat (first | (with_reducible first | exact HK.out | apply KeepBut.set_ | apply keep_drewN | apply keep_drew | apply keep_alloc) | exact HK.out)) (KeepBut.of_below hb g none) (.inl rfl)); have n3_ := Aside0.mk (below_step (by repeat (first | (with_reducible first | exact HB.out | apply bA | apply bN | apply bD | refine below_set ?_ (IsS47.ge HI0.out)) | exact HB.out)) hb); have n4_ := Aside0.mk (hbox); have n5_ := Aside0.mk ((by rw [hg]; exact (keep_size (w := w) (g := g) (row := none) (by repeat (first | (with_reducible first | exact HK.out | apply KeepBut.set_ | apply keep_drewN | apply keep_drew | apply keep_alloc) | exact HK.out))) : w.heap.size ≤ gb440)); have n6_ := Aside0.mk ((Nat.le_trans HW0.out (by rw [hg]; exact (keep_size (w := w) (g := g) (row := none) (by repeat (first | (with_reducible first | exact HK.out | apply KeepBut.set_ | apply keep_drewN | apply keep_drew | apply keep_alloc) | exact HK.out))) : w.heap.size ≤ gb440) : w0.heap.size ≤ gb440)); have n7_ := Aside0.mk ((by rw [hg]; exact Nat.ne_of_lt (IsS47.lt (show IsS47 w0 _ g s0_0 t438 t439 from by repeat (first | (with_reducible first | exact HI0.out | apply IsS47.alloc | apply IsS47.drewN | apply IsS47.drew | apply IsS47.set_1 | apply IsS47.set_2) | exact HI0.out))) : g ≠ gb440)); have n8_ := Aside0.mk ((by rw [hg]; exact Nat.ne_of_gt (IsS47.lt (show IsS47 w0 _ g s0_0 t438 t439 from by repeat (first | (with_reducible first | exact HI0.out | apply IsS47.alloc | apply IsS47.drewN | apply IsS47.drew | apply IsS47.set_1 | apply IsS47.set_2) | exact HI0.out))) : gb440 ≠ g)); clear HO401; clear HI0; clear HK; clear HB; have HO401 := n0_; have HI0 := n1_; have HK := n2_; have HB := n3_; have BK440 := n4_; have GW440 := n5_; have GE440 := n6_; have NB0_440 := n7_; have NB440_0 := n8_; clear n0_ n1_ n2_ n3_ n4_ n5_ n6_ n7_ n8_; clear hb hbox hg; have hnb58 := NB440_0.out; have hnc58 := NB0_440.out; have hcz59_0 : w57.cell? ⟨gb440, 0, none⟩ = some (.int .i64 0) := bc_ BK440 0; have hcz59_1 : w57.cell? ⟨gb440, 1, none⟩ = some (.int .i64 0) := bc_ BK440 1; have hfz59_0 := blk_frozen BK440.out 0; have hfz59_1 := blk_frozen BK440.out 1) | ((with_reducible refine gate_callee (f := 48) rfl ?_); refine goesL_ (some 57) rfl rfl Try.func48 (by kernel_rfl) rfl #[.agg #[.int .i64 t436, .int .i64 t437]] rfl ar_ ?_; (with_reducible refine (spec_srChords.calls k t436 t437 t441 _ A41.out).mono ?_); rintro e w60 ⟨v442, rfl, ho0, hb⟩; refine ⟨_, rfl, ?_⟩; have n0_ := Aside0.mk (Kd.R_elder' (by (with_reducible repeat (first | apply rA | apply rN | apply rD)); exact (Kd.R_mono (Kd.R_far (p := ⟨gb440, 1, none⟩) (Kd.R_far (p := ⟨gb440, 0, none⟩) (Kd.R_types HO401.out BK440.out (by decide)) (fun _ hk => hk.2) (.int .i64 t436)) (fun _ hk => hk.2) (.int .i64 t437)) (fun _ h_ => h_.1))) (Kd.R_base ho0) hb); have n1_ := Aside0.mk (Kd.R_lower (Kd.R_new' ho0 (Kd.R_lt (by (with_reducible repeat (first | apply rA | apply rN | apply rD)); exact (Kd.R_mono (Kd.R_far (p := ⟨gb440, 1, none⟩) (Kd.R_far (p := ⟨gb440, 0, none⟩) (Kd.R_types HO401.out BK440.out (by decide)) (fun _ hk => hk.2) (.int .i64 t436)) (fun _ hk => hk.2) (.int .i64 t437)) (fun _ h_ => h_.1))))) (keep_size (w := w) (g := g) (row := none) (by repeat (first | (with_reducible first | exact HK.out | apply KeepBut.set_ | apply keep_drewN | apply keep_drew | apply keep_alloc | refine keep_far ?_ GW440.out _) | exact HK.out)))); have n2_ := Aside0.mk (IsS47.below (show IsS47 w0 ((w57.setCell ⟨gb440, 0, none⟩ (.int .i64 t436)).setCell ⟨gb440, 1, none⟩ (.int .i64 t437)) g s0_0 t438 t439 from by repeat (first | (with_reducible first | exact HI0.out | apply IsS47.alloc | apply IsS47.drewN | apply IsS47.drew | apply IsS47.set_1 | apply IsS47.set_2 | refine IsS47.far ?_ NB0_440.out _) | exact HI0.out)) hb); have n3_ := Aside0.mk (blk_below (g := gb440) (o := .cells #[.int .i64 t436, .int .i64 t437] 37 (0, 0)) (by (with_reducible repeat (first | refine kN ?_ _ | refine kD ?_ | refine kA ?_ _)); refine blk_put (cs := #[.int .i64 t436, .int .i64 0]) ?_ 1 _ rfl; (with_reducible repeat (first | refine kN ?_ _ | refine kD ?_ | refine kA ?_ _)); refine blk_put (cs := #[.int .i64 0, .int .i64 0]) ?_ 0 _ rfl; (with_reducible repeat (first | refine kN ?_ _ | refine kD ?_ | refine kA ?_ _)); exact BK440.out) hb); have n4_ := Aside0.mk (KeepBut.trans (by repeat (first | (with_reducible first | exact HK.out | apply KeepBut.set_ | apply keep_drewN | apply keep_drew | apply keep_alloc | refine keep_far ?_ GW440.out _) | exact HK.out)) (KeepBut.of_below hb g none) (.inl rfl)); have n5_ := Aside0.mk (below_step (by repeat (first | (with_reducible first | exact HB.out | apply bA | apply bN | apply bD | refine below_set ?_ (IsS47.ge HI0.out) | refine below_set ?_ GE440.out) | exact HB.out)) hb); clear HO401; clear HI0; clear BK440; clear HK; clear HB; have HO401 := n0_; have HO443 := n1_; have HI0 := n2_; have BK440 := n3_; have HK := n4_; have HB := n5_; clear n0_ n1_ n2_ n3_ n4_ n5_; (try clear hb); (try clear hb2); (try clear hk); (try clear hi); (try clear ho0); obtain ⟨Ao61, co61, eo61⟩ := Kd.R_slice HO443.out; subst eo61; have hcz62_0 : w60.cell? ⟨gb440, 0, none⟩ = some (.int .i64 t436) := bc_ BK440 0; have hcz62_1 : w60.cell? ⟨gb440, 1, none⟩ = some (.int .i64 t437) := bc_ BK440 1; have hfz62_0 := blk_frozen BK440.out 0; have hfz62_1 := blk_frozen BK440.out 1))
      go_ret2
      exact ⟨_, by first | rfl | (simp [errW_none, errW_some] <;> rfl) | (simp [*, errW_none, errW_some] <;> rfl), by (with_reducible repeat (first | apply rA | apply rN | apply rD)); exact Kd.R_mono HO443.out (fun _ hk => trivial), by repeat (first | (with_reducible first | exact HI0.out | apply IsS47.alloc | apply IsS47.drewN | apply IsS47.drew | apply IsS47.set_1 | apply IsS47.set_2 | refine IsS47.far ?_ NB0_440.out _) | exact HI0.out), by repeat (first | (with_reducible first | exact HB.out | apply bA | apply bN | apply bD | refine below_set ?_ (IsS47.ge HI0.out) | refine below_set ?_ GE440.out) | exact HB.out), by repeat (first | (with_reducible first | exact HK.out | apply KeepBut.set_ | apply keep_drewN | apply keep_drew | apply keep_alloc | refine keep_far ?_ GW440.out _) | exact HK.out)⟩
    ·rw [if_neg c39] at H
     have c39b0 : (t404 == 3) = false := beq_eq_false_iff_ne.mpr c39
     have c39b1 : (t404 != 3) = true := bne_iff_ne.mpr c39
     have HC63 := Aside0.mk H
     clear H
     go_enter Try.func27, Try.ntmps27
     go_upto_if 65 with (first | ((with_reducible refine gate_callee (f := 50) rfl ?_); refine goesL_ (some 10) rfl rfl Try.func50 (by kernel_rfl) rfl #[.pointer (some ⟨g, 0, none⟩), .int .i64 9] rfl ar_ ?_; (with_reducible refine (spec_l1Cur_sureChords.calls k g s0_0 s0_1 s0_2 9 t398 t399 t402 t403 w0 _ ?side1 ?side2 A2.out).mono ?_); (case side1 => repeat (first | (with_reducible first | exact HI0.out | apply IsS47.alloc | apply IsS47.drewN | apply IsS47.drew | apply IsS47.set_1 | apply IsS47.set_2) | exact HI0.out)); (case side2 => repeat (first | (with_reducible first | exact HB.out | apply bA | apply bN | apply bD | refine below_set ?_ (IsS47.ge HI0.out)) | exact HB.out)); rintro e w64 ⟨v400, rfl, ho0, hi, hb, hk⟩; refine ⟨_, rfl, ?_⟩; have n0_ := Aside0.mk (Kd.R_lower ho0 (keep_size (w := w) (g := g) (row := none) (by repeat (first | (with_reducible first | exact HK.out | apply KeepBut.set_ | apply keep_drewN | apply keep_drew | apply keep_alloc) | exact HK.out)))); have n1_ := Aside0.mk (KeepBut.trans (by repeat (first | (with_reducible first | exact HK.out | apply KeepBut.set_ | apply keep_drewN | apply keep_drew | apply keep_alloc) | exact HK.out)) hk (.inl rfl)); have n2_ := Aside0.mk (hb); have n3_ := Aside0.mk (hi); clear HK; clear HB; clear HI0; have HO401 := n0_; have HK := n1_; have HB := n2_; have HI0 := n3_; clear n0_ n1_ n2_ n3_; (try clear hb); (try clear hb2); (try clear hk); (try clear hi); (try clear ho0)) | ((with_reducible refine gate_callee (f := 30) rfl ?_); refine goesL_ (some 14) rfl rfl Try.func30 (by kernel_rfl) rfl #[.pointer (some ⟨g, 0, none⟩), .int .i64 18] rfl ar_ ?_; (with_reducible refine (spec_l1Cur_pick.calls g s0_0 t402 t403 18 t404 t405 t406 w0 _ ?side1 ?side2 A3.out).mono ?_); (case side1 => repeat (first | (with_reducible first | exact HI0.out | apply IsS47.alloc | apply IsS47.drewN | apply IsS47.drew | apply IsS47.set_1 | apply IsS47.set_2) | exact HI0.out)); (case side2 => repeat (first | (with_reducible first | exact HB.out | apply bA | apply bN | apply bD | refine below_set ?_ (IsS47.ge HI0.out)) | exact HB.out)); rintro e w65 ⟨rfl, hi, hb, hk⟩; refine ⟨_, rfl, ?_⟩; have n0_ := Aside0.mk (Kd.R_mono (Kd.R_keep (IsS47.apart (show IsS47 w0 _ g s0_0 t402 t403 from by repeat (first | (with_reducible first | exact HI0.out | apply IsS47.alloc | apply IsS47.drewN | apply IsS47.drew | apply IsS47.set_1 | apply IsS47.set_2) | exact HI0.out)) (ra_ HO401.out) (by decide)) hk (fun _ h => h.2)) (fun _ h => h.1)); have n1_ := Aside0.mk (KeepBut.trans (by repeat (first | (with_reducible first | exact HK.out | apply KeepBut.set_ | apply keep_drewN | apply keep_drew | apply keep_alloc) | exact HK.out)) hk (.inl rfl)); have n2_ := Aside0.mk (hb); have n3_ := Aside0.mk (hi); clear HO401; clear HK; clear HB; clear HI0; have HO401 := n0_; have HK := n1_; have HB := n2_; have HI0 := n3_; clear n0_ n1_ n2_ n3_; (try clear hb); (try clear hb2); (try clear hk); (try clear hi)))
     (try simp only [Act.put, sT, sZ, sS])
     go_cut [65] (fun v65 wc => ∃ (kq : Nat) (x65_62 : Bool), v65 = .bool x65_62 ∧ Aside0 (spec_l1Cur_chords.j1 kq t398 t399 x65_62 s0_0 t405 t406 = some (r1, r2, r3, r4)) ∧ Aside0 (kq ≤ k) ∧ Aside0 (Kd.R k60 60 wc w.heap.size (fun _ => True) v400 t399) ∧ Aside0 (IsS47 w0 wc g s0_0 t405 t406) ∧ Aside0 (KeepBut w wc g none) ∧ Aside0 (Below w0.heap.size w0 wc))
     case first =>
      have H := HC63.out
      clear HC63
      by_cases c66 : t404 = 4
      ·rw [if_pos c66] at H
       have c66b0 : (t404 == 4) = true := beq_iff_eq.mpr c66
       have c66b1 : (t404 != 4) = false := bne_eq_false_iff_eq.mpr c66
       clear c66
       (first | rw [c66b0] | (simp only [i64_w, i32_w]; rw [c66b0]) | skip)
       have H' := Aside0.mk H
       clear H
       go_wp2
       go_meet
       case rel => exact ⟨_, ((t404 == 4)), (by first | rfl | (simp; done) | (simp [*]; done)), H', ⟨by first | omega | exact Nat.le_refl _⟩, ⟨by (with_reducible repeat (first | apply rA | apply rN | apply rD)); exact HO401.out⟩, ⟨by repeat (first | (with_reducible first | exact HI0.out | apply IsS47.alloc | apply IsS47.drewN | apply IsS47.drew | apply IsS47.set_1 | apply IsS47.set_2) | exact HI0.out)⟩, ⟨by repeat (first | (with_reducible first | exact HK.out | apply KeepBut.set_ | apply keep_drewN | apply keep_drew | apply keep_alloc) | exact HK.out)⟩, ⟨by repeat (first | (with_reducible first | exact HB.out | apply bA | apply bN | apply bD | refine below_set ?_ (IsS47.ge HI0.out)) | exact HB.out)⟩⟩
      ·rw [if_neg c66] at H
       have c66b0 : (t404 == 4) = false := beq_eq_false_iff_ne.mpr c66
       have c66b1 : (t404 != 4) = true := bne_iff_ne.mpr c66
       (first | rw [c66b0] | (simp only [i64_w, i32_w]; rw [c66b0]) | skip)
       have H' := Aside0.mk H
       clear H
       go_wp2
       go_meet
       case rel => exact ⟨_, ((t404 == 5)), (by first | rfl | (simp; done) | (simp [*]; done)), H', ⟨by first | omega | exact Nat.le_refl _⟩, ⟨by (with_reducible repeat (first | apply rA | apply rN | apply rD)); exact HO401.out⟩, ⟨by repeat (first | (with_reducible first | exact HI0.out | apply IsS47.alloc | apply IsS47.drewN | apply IsS47.drew | apply IsS47.set_1 | apply IsS47.set_2) | exact HI0.out)⟩, ⟨by repeat (first | (with_reducible first | exact HK.out | apply KeepBut.set_ | apply keep_drewN | apply keep_drew | apply keep_alloc) | exact HK.out)⟩, ⟨by repeat (first | (with_reducible first | exact HB.out | apply bA | apply bN | apply bD | refine below_set ?_ (IsS47.ge HI0.out)) | exact HB.out)⟩⟩
     case rest =>
      clear HC63
      try clear c1
      try clear c2
      try clear p2
      try clear c3
      try clear c4
      try clear c4b0
      try clear c4b1
      try clear c5
      try clear q5
      try clear c6
      try clear p6
      try clear c12
      try clear c12b0
      try clear c12b1
      try clear c15
      try clear c27
      try clear c27b0
      try clear c27b1
      try clear c30
      try clear c31
      try clear c31b0
      try clear c39
      try clear c39b0
      try clear c39b1
      try clear c42
      try clear c42b0
      try clear c42b1
      try clear c43
      try clear c43b0
      try clear c43b1
      try clear c48
      try clear c50
      try clear c51
      try clear c52
      try clear q52
      try clear c53
      try clear c54
      try clear c58
      try clear p64
      try clear c66
      try clear c66b0
      try clear c66b1
      try clear hcz49_0
      try clear hcz49_1
      try clear hcz53_0
      try clear hcz53_1
      try clear hcz59_0
      try clear hcz59_1
      try clear hcz62_0
      try clear hcz62_1
      try clear hfz49_0
      try clear hfz49_1
      try clear hfz53_0
      try clear hfz53_1
      try clear hfz59_0
      try clear hfz59_1
      try clear hfz62_0
      try clear hfz62_1
      try clear p2
      try clear q52
      obtain ⟨kq, x65_62, rfl, HA, HJ62, HO_5, HI0, HK, HB⟩ := hcut
      cases kq with
      | zero => exact absurd HA.out (by simp [spec_l1Cur_chords.j1])
      | succ kj62 =>
       have H := HA.out
       clear HA
       simp only [spec_l1Cur_chords.j1] at H
       by_cases c67 : x65_62 = true
       ·subst c67
        have H1 : ((spec_l1Cur_pick.f s0_0 t405 t406 5).bind fun bt447 => ((spec_cdPlane.f kj62 (wrap64 (4 + (wrap64 (2 * bt447.1))))).bind fun t450 => (if 0 ≤ (wrap64 (4 + (wrap64 (2 * bt447.1)))) then (if (wrap64 (4 + (wrap64 (2 * bt447.1)))) < (t450.length : Int) then ((spec_l1Cur_pick.f s0_0 bt447.2.1 bt447.2.2 (rd t450 (wrap64 (4 + (wrap64 (2 * bt447.1)))))).bind fun bt454 => ((spec_cdPlane.f kj62 (wrap64 (4 + (wrap64 (2 * bt447.1))))).bind fun t457 => ((spec_cdOfRank.f kj62 0 (wrap64 (4 + (wrap64 (2 * bt447.1)))) bt454.1 t457).bind fun t460 => (some (wrap64 (4 + (wrap64 (2 * bt447.1))), t460, bt454.2.1, bt454.2.2))))) else (none)) else (none)))) = some (r1, r2, r3, r4) := by rw [if_pos rfl] at H; exact H
        clear H
        have H := H1
        clear H1
        replace H := bI H
        obtain ⟨⟨t447, t448, t449⟩, A680, H⟩ := H
        replace H : ((spec_cdPlane.f kj62 (wrap64 (4 + (wrap64 (2 * t447))))).bind fun t450 => (if 0 ≤ (wrap64 (4 + (wrap64 (2 * t447)))) then (if (wrap64 (4 + (wrap64 (2 * t447)))) < (t450.length : Int) then ((spec_l1Cur_pick.f s0_0 t448 t449 (rd t450 (wrap64 (4 + (wrap64 (2 * t447)))))).bind fun bt454 => ((spec_cdPlane.f kj62 (wrap64 (4 + (wrap64 (2 * t447))))).bind fun t457 => ((spec_cdOfRank.f kj62 0 (wrap64 (4 + (wrap64 (2 * t447)))) bt454.1 t457).bind fun t460 => (some (wrap64 (4 + (wrap64 (2 * t447))), t460, bt454.2.1, bt454.2.2))))) else (none)) else (none))) = some (r1, r2, r3, r4) := H
        have A68 := Aside0.mk A680
        clear A680
        replace H := bI H
        obtain ⟨t450, A690, H⟩ := H
        replace H : (if 0 ≤ (wrap64 (4 + (wrap64 (2 * t447)))) then (if (wrap64 (4 + (wrap64 (2 * t447)))) < (t450.length : Int) then ((spec_l1Cur_pick.f s0_0 t448 t449 (rd t450 (wrap64 (4 + (wrap64 (2 * t447)))))).bind fun bt454 => ((spec_cdPlane.f kj62 (wrap64 (4 + (wrap64 (2 * t447))))).bind fun t457 => ((spec_cdOfRank.f kj62 0 (wrap64 (4 + (wrap64 (2 * t447)))) bt454.1 t457).bind fun t460 => (some (wrap64 (4 + (wrap64 (2 * t447))), t460, bt454.2.1, bt454.2.2))))) else (none)) else (none)) = some (r1, r2, r3, r4) := H
        have A69 := Aside0.mk A690
        clear A690
        obtain ⟨ji70, hji70⟩ : ∃ j_ : Int, (wrap64 (4 + (wrap64 (2 * t447)))) = j_ := ⟨_, rfl⟩
        replace H : (if 0 ≤ (ji70) then (if (ji70) < (t450.length : Int) then ((spec_l1Cur_pick.f s0_0 t448 t449 (rd t450 (ji70))).bind fun bt454 => ((spec_cdPlane.f kj62 (ji70)).bind fun t457 => ((spec_cdOfRank.f kj62 0 (ji70) bt454.1 t457).bind fun t460 => (some (ji70, t460, bt454.2.1, bt454.2.2))))) else (none)) else (none)) = some (r1, r2, r3, r4) := by first | (rw [hji70] at H; exact H) | (simp only [hji70] at H ⊢; exact H)
        (try rw [hji70] at A68)
        (try rw [hji70] at A69)
        have hji70w : (IntKind.i64.wrap (4 + (wrap64 (2 * t447)))) = ji70 := (i64_w _).trans hji70
        by_cases c71 : 0 ≤ (ji70)
        ·rw [if_pos c71] at H
         have c71b0 : decide (0 ≤ (ji70)) = true := decide_eq_true c71
         clear c71
         by_cases c72 : (ji70) < (t450.length : Int)
         ·rw [if_pos c72] at H
          have c72b0 : decide ((ji70) < (t450.length : Int)) = true := decide_eq_true c72
          clear c72
          replace H := bI H
          obtain ⟨⟨t454, t455, t456⟩, A730, H⟩ := H
          replace H : ((spec_cdPlane.f kj62 (ji70)).bind fun t457 => ((spec_cdOfRank.f kj62 0 (ji70) t454 t457).bind fun t460 => (some (ji70, t460, t455, t456)))) = some (r1, r2, r3, r4) := H
          have A73 := Aside0.mk A730
          clear A730
          replace H := bI H
          obtain ⟨t457, A740, H⟩ := H
          replace H : ((spec_cdOfRank.f kj62 0 (ji70) t454 t457).bind fun t460 => (some (ji70, t460, t455, t456))) = some (r1, r2, r3, r4) := H
          have A74 := Aside0.mk A740
          clear A740
          replace H := bI H
          obtain ⟨t460, A750, H⟩ := H
          replace H : (some (ji70, t460, t455, t456)) = some (r1, r2, r3, r4) := H
          have A75 := Aside0.mk A750
          clear A750
          simp only [Option.some.injEq, Prod.mk.injEq] at H
          obtain ⟨rfl, rfl, rfl, rfl⟩ := H
          go_wp2_with (first | ((with_reducible refine gate_callee (f := 30) rfl ?_); refine goesL_ (some 69) rfl rfl Try.func30 (by kernel_rfl) rfl #[.pointer (some ⟨g, 0, none⟩), .int .i64 5] rfl ar_ ?_; (with_reducible refine (spec_l1Cur_pick.calls g s0_0 t405 t406 5 t447 t448 t449 w0 _ ?side1 ?side2 A68.out).mono ?_); (case side1 => repeat (first | (with_reducible first | exact HI0.out | apply IsS47.alloc | apply IsS47.drewN | apply IsS47.drew | apply IsS47.set_1 | apply IsS47.set_2) | exact HI0.out)); (case side2 => repeat (first | (with_reducible first | exact HB.out | apply bA | apply bN | apply bD | refine below_set ?_ (IsS47.ge HI0.out)) | exact HB.out)); rintro e w76 ⟨rfl, hi, hb, hk⟩; refine ⟨_, rfl, ?_⟩; have n0_ := Aside0.mk (Kd.R_mono (Kd.R_keep (IsS47.apart (show IsS47 w0 _ g s0_0 t405 t406 from by repeat (first | (with_reducible first | exact HI0.out | apply IsS47.alloc | apply IsS47.drewN | apply IsS47.drew | apply IsS47.set_1 | apply IsS47.set_2) | exact HI0.out)) (ra_ HO_5.out) (by decide)) hk (fun _ h => h.2)) (fun _ h => h.1)); have n1_ := Aside0.mk (KeepBut.trans (by repeat (first | (with_reducible first | exact HK.out | apply KeepBut.set_ | apply keep_drewN | apply keep_drew | apply keep_alloc) | exact HK.out)) hk (.inl rfl)); have n2_ := Aside0.mk (hb); have n3_ := Aside0.mk (hi); clear HO_5; clear HK; clear HB; clear HI0; have HO_5 := n0_; have HK := n1_; have HB := n2_; have HI0 := n3_; clear n0_ n1_ n2_ n3_; (try clear hb); (try clear hb2); (try clear hk); (try clear hi)) | ((with_reducible refine gate_callee (f := 56) rfl ?_); refine goesL_ (some 75) rfl rfl Try.func56 (by kernel_rfl) rfl #[.int .i64 ji70] rfl (by (try simp only [mT, mC, mN]); first | done | (simp only [hji70]; rfl) | rfl | (simp only [List.length_drop, List.length_take]; rfl)) ?_; (with_reducible refine (spec_cdPlane.calls kj62 ji70 t450 _ A69.out).mono ?_); rintro e w77 ⟨v451, rfl, ho0, hb⟩; refine ⟨_, rfl, ?_⟩; have n0_ := Aside0.mk (Kd.R_below (ra_ HO_5.out) hb); have n1_ := Aside0.mk (Kd.R_lower ho0 (keep_size (w := w) (g := g) (row := none) (by repeat (first | (with_reducible first | exact HK.out | apply KeepBut.set_ | apply keep_drewN | apply keep_drew | apply keep_alloc) | exact HK.out)))); have n2_ := Aside0.mk (IsS47.below (by repeat (first | (with_reducible first | exact HI0.out | apply IsS47.alloc | apply IsS47.drewN | apply IsS47.drew | apply IsS47.set_1 | apply IsS47.set_2) | exact HI0.out)) hb); have n3_ := Aside0.mk (KeepBut.trans (by repeat (first | (with_reducible first | exact HK.out | apply KeepBut.set_ | apply keep_drewN | apply keep_drew | apply keep_alloc) | exact HK.out)) (KeepBut.of_below hb g none) (.inl rfl)); have n4_ := Aside0.mk (below_step (by repeat (first | (with_reducible first | exact HB.out | apply bA | apply bN | apply bD | refine below_set ?_ (IsS47.ge HI0.out)) | exact HB.out)) hb); clear HO_5; clear HI0; clear HK; clear HB; have HO_5 := n0_; have HO452 := n1_; have HI0 := n2_; have HK := n3_; have HB := n4_; clear n0_ n1_ n2_ n3_ n4_; (try clear hb); (try clear hb2); (try clear hk); (try clear hi); (try clear ho0); obtain ⟨Ao78, co78, eo78⟩ := Kd.R_slice HO452.out; subst eo78; have p453 : 0 ≤ ((ji70) : Int) := of_decide_eq_true (by assumption); have q453 : (ji70) < (t450.length : Int) := of_decide_eq_true (by assumption); obtain ⟨ad453, e453, hx453_0⟩ := Kd.at_int (Kd.R_reads' HO452.out).2.2 (ji70) p453 q453; cases e453; replace p453 := eq_true p453; replace q453 := eq_true q453) | ((with_reducible refine gate_callee (f := 30) rfl ?_); refine goesL_ (some 79) rfl rfl Try.func30 (by kernel_rfl) rfl #[.pointer (some ⟨g, 0, none⟩), .int .i64 (rd t450 (ji70))] rfl (by (try simp only [mT, mC, mN]); first | done | (simp only [hji70]; rfl) | rfl | (simp only [List.length_drop, List.length_take]; rfl)) ?_; (with_reducible refine (spec_l1Cur_pick.calls g s0_0 t448 t449 (rd t450 (ji70)) t454 t455 t456 w0 _ ?side1 ?side2 A73.out).mono ?_); (case side1 => repeat (first | (with_reducible first | exact HI0.out | apply IsS47.alloc | apply IsS47.drewN | apply IsS47.drew | apply IsS47.set_1 | apply IsS47.set_2) | exact HI0.out)); (case side2 => repeat (first | (with_reducible first | exact HB.out | apply bA | apply bN | apply bD | refine below_set ?_ (IsS47.ge HI0.out)) | exact HB.out)); rintro e w79 ⟨rfl, hi, hb, hk⟩; refine ⟨_, rfl, ?_⟩; have n0_ := Aside0.mk (Kd.R_mono (Kd.R_keep (IsS47.apart (show IsS47 w0 _ g s0_0 t448 t449 from by repeat (first | (with_reducible first | exact HI0.out | apply IsS47.alloc | apply IsS47.drewN | apply IsS47.drew | apply IsS47.set_1 | apply IsS47.set_2) | exact HI0.out)) (ra_ HO_5.out) (by decide)) hk (fun _ h => h.2)) (fun _ h => h.1)); have n1_ := Aside0.mk (Kd.R_mono (Kd.R_keep (IsS47.apart (show IsS47 w0 _ g s0_0 t448 t449 from by repeat (first | (with_reducible first | exact HI0.out | apply IsS47.alloc | apply IsS47.drewN | apply IsS47.drew | apply IsS47.set_1 | apply IsS47.set_2) | exact HI0.out)) (ra_ HO452.out) (by decide)) hk (fun _ h => h.2)) (fun _ h => h.1)); have n2_ := Aside0.mk (KeepBut.trans (by repeat (first | (with_reducible first | exact HK.out | apply KeepBut.set_ | apply keep_drewN | apply keep_drew | apply keep_alloc) | exact HK.out)) hk (.inl rfl)); have n3_ := Aside0.mk (hb); have n4_ := Aside0.mk (hi); clear HO_5; clear HO452; clear HK; clear HB; clear HI0; have HO_5 := n0_; have HO452 := n1_; have HK := n2_; have HB := n3_; have HI0 := n4_; clear n0_ n1_ n2_ n3_ n4_; (try clear hb); (try clear hb2); (try clear hk); (try clear hi)) | ((with_reducible refine gate_callee (f := 56) rfl ?_); refine goesL_ (some 81) rfl rfl Try.func56 (by kernel_rfl) rfl #[.int .i64 ji70] rfl (by (try simp only [mT, mC, mN]); first | done | (simp only [hji70]; rfl) | rfl | (simp only [List.length_drop, List.length_take]; rfl)) ?_; (with_reducible refine (spec_cdPlane.calls kj62 ji70 t457 _ A74.out).mono ?_); rintro e w80 ⟨v458, rfl, ho0, hb⟩; refine ⟨_, rfl, ?_⟩; have n0_ := Aside0.mk (Kd.R_below (ra_ HO_5.out) hb); have n1_ := Aside0.mk (Kd.R_elder' (ra_ HO452.out) (Kd.R_base ho0) hb); have n2_ := Aside0.mk (Kd.R_lower (Kd.R_new' ho0 (Kd.R_lt (ra_ HO452.out))) (keep_size (w := w) (g := g) (row := none) (by repeat (first | (with_reducible first | exact HK.out | apply KeepBut.set_ | apply keep_drewN | apply keep_drew | apply keep_alloc) | exact HK.out)))); have n3_ := Aside0.mk (IsS47.below (by repeat (first | (with_reducible first | exact HI0.out | apply IsS47.alloc | apply IsS47.drewN | apply IsS47.drew | apply IsS47.set_1 | apply IsS47.set_2) | exact HI0.out)) hb); have n4_ := Aside0.mk (KeepBut.trans (by repeat (first | (with_reducible first | exact HK.out | apply KeepBut.set_ | apply keep_drewN | apply keep_drew | apply keep_alloc) | exact HK.out)) (KeepBut.of_below hb g none) (.inl rfl)); have n5_ := Aside0.mk (below_step (by repeat (first | (with_reducible first | exact HB.out | apply bA | apply bN | apply bD | refine below_set ?_ (IsS47.ge HI0.out)) | exact HB.out)) hb); clear HO_5; clear HO452; clear HI0; clear HK; clear HB; have HO_5 := n0_; have HO452 := n1_; have HO459 := n2_; have HI0 := n3_; have HK := n4_; have HB := n5_; clear n0_ n1_ n2_ n3_ n4_ n5_; (try clear hb); (try clear hb2); (try clear hk); (try clear hi); (try clear ho0); obtain ⟨Ao81, co81, eo81⟩ := Kd.R_slice HO459.out; subst eo81) | ((with_reducible refine gate_callee (f := 55) rfl ?_); refine goesL_ (some 82) rfl rfl Try.func55 (by kernel_rfl) rfl #[.int .i64 0, .int .i64 ji70, .int .i64 t454, .slice Ao81 t457.length co81] rfl (by (try simp only [mT, mC, mN]); first | done | (simp only [hji70]; rfl) | rfl | (simp only [List.length_drop, List.length_take]; rfl)) ?_; (with_reducible refine (spec_cdOfRank.calls kj62 0 ji70 t454 _ _ t457 t460 _ ?side1 ?side2 A75.out).mono ?_); (case side1 => repeat (first | exact (Kd.R_reads' HO459.out).2.2 | (with_reducible refine Kd.C_alloc ?_ _) | (with_reducible refine Kd.C_drewN ?_ _) | (with_reducible refine Kd.C_drew ?_))); (case side2 => exact (Kd.R_reads' HO459.out).2.1); rintro e w82 ⟨v461, rfl, ho0, hb⟩; refine ⟨_, rfl, ?_⟩; have n0_ := Aside0.mk (Kd.R_elder' (ra_ HO_5.out) (Kd.R_base ho0) hb); have n1_ := Aside0.mk (Kd.R_below (ra_ HO452.out) hb); have n2_ := Aside0.mk (Kd.R_below (ra_ HO459.out) hb); have n3_ := Aside0.mk (Kd.R_lower (Kd.R_new' ho0 (Kd.R_lt (ra_ HO_5.out))) (keep_size (w := w) (g := g) (row := none) (by repeat (first | (with_reducible first | exact HK.out | apply KeepBut.set_ | apply keep_drewN | apply keep_drew | apply keep_alloc) | exact HK.out)))); have n4_ := Aside0.mk (IsS47.below (by repeat (first | (with_reducible first | exact HI0.out | apply IsS47.alloc | apply IsS47.drewN | apply IsS47.drew | apply IsS47.set_1 | apply IsS47.set_2) | exact HI0.out)) hb); have n5_ := Aside0.mk (KeepBut.trans (by repeat (first | (with_reducible first | exact HK.out | apply KeepBut.set_ | apply keep_drewN | apply keep_drew | apply keep_alloc) | exact HK.out)) (KeepBut.of_below hb g none) (.inl rfl)); have n6_ := Aside0.mk (below_step (by repeat (first | (with_reducible first | exact HB.out | apply bA | apply bN | apply bD | refine below_set ?_ (IsS47.ge HI0.out)) | exact HB.out)) hb); clear HO_5; clear HO452; clear HO459; clear HI0; clear HK; clear HB; have HO_5 := n0_; have HO452 := n1_; have HO459 := n2_; have HO462 := n3_; have HI0 := n4_; have HK := n5_; have HB := n6_; clear n0_ n1_ n2_ n3_ n4_ n5_ n6_; (try clear hb); (try clear hb2); (try clear hk); (try clear hi); (try clear ho0)))
          go_ret2
          exact ⟨_, by first | rfl | (simp [errW_none, errW_some] <;> rfl) | (simp only [← hji70]; first | rfl | (simp [errW_none, errW_some] <;> rfl)) | (simp [*, errW_none, errW_some] <;> rfl), by (with_reducible repeat (first | apply rA | apply rN | apply rD)); exact Kd.R_mono HO462.out (fun _ hk => trivial), by repeat (first | (with_reducible first | exact HI0.out | apply IsS47.alloc | apply IsS47.drewN | apply IsS47.drew | apply IsS47.set_1 | apply IsS47.set_2) | exact HI0.out), by repeat (first | (with_reducible first | exact HB.out | apply bA | apply bN | apply bD | refine below_set ?_ (IsS47.ge HI0.out)) | exact HB.out), by repeat (first | (with_reducible first | exact HK.out | apply KeepBut.set_ | apply keep_drewN | apply keep_drew | apply keep_alloc) | exact HK.out)⟩
         ·rw [if_neg c72] at H
          exact absurd H (by simp)
        ·rw [if_neg c71] at H
         exact absurd H (by simp)
       ·replace c67 := Bool.eq_false_iff.mpr c67
        subst c67
        have H1 : (some (t398, t399, t405, t406)) = some (r1, r2, r3, r4) := by rw [if_neg (show ¬ (false = true) by decide)] at H; exact H
        clear H
        have H := H1
        clear H1
        simp only [Option.some.injEq, Prod.mk.injEq] at H
        obtain ⟨rfl, rfl, rfl, rfl⟩ := H
        go_wp2
        go_ret2
        exact ⟨_, by first | rfl | (simp [errW_none, errW_some] <;> rfl) | (simp [*, errW_none, errW_some] <;> rfl), by (with_reducible repeat (first | apply rA | apply rN | apply rD)); exact HO_5.out, by repeat (first | (with_reducible first | exact HI0.out | apply IsS47.alloc | apply IsS47.drewN | apply IsS47.drew | apply IsS47.set_1 | apply IsS47.set_2) | exact HI0.out), by repeat (first | (with_reducible first | exact HB.out | apply bA | apply bN | apply bD | refine below_set ?_ (IsS47.ge HI0.out)) | exact HB.out), by repeat (first | (with_reducible first | exact HK.out | apply KeepBut.set_ | apply keep_drewN | apply keep_drew | apply keep_alloc) | exact HK.out)⟩
end Go.Proofs.Ytdjbdpgdhpobfaa.Pr
/- A cursor over bytes that a call lays for itself. -/
namespace Go.Proofs.Ytdjbdpgdhpobfaa.Pr
open Go.RowKit Go.Proofs.YtdjbdpgdhpobfaaW.PrintWords Go.Proofs.YtdjbdpgdhpobfaaW.PrintLast Go.Proofs.YtdjbdpgdhpobfaaW.PrintMore
theorem cur_new {w : World} {A0 : Option Addr} {c0 : Nat} {l0 : List Int} (hr0 : Kd.C (Kd.int .u8) w A0 l0.length l0) :
    IsS47 w (w.alloc (.cells #[.slice A0 l0.length c0, .int .i64 0, .int .u64 0] 47)) w.heap.size l0 0 0 :=
  ⟨A0, c0, heap_alloc_new w _, Nat.le_refl _, hr0⟩
theorem cur_below {w : World} (o : Obj) : Below w.heap.size w (w.alloc o) := below_alloc (Below.refl _ _) _
theorem cur_newN {w : World} {A0 : Option Addr} {c0 : Nat} {l0 : List Int} (hr0 : Kd.C (Kd.int .u8) w A0 l0.length l0) (n : Nat) :
    IsS47 w ((w.drewN n).alloc (.cells #[.slice A0 l0.length c0, .int .i64 0, .int .u64 0] 47)) w.heap.size l0 0 0 :=
  ⟨A0, c0, heap_alloc_new (w.drewN n) _, Nat.le_refl _, hr0⟩
theorem cur_own {α : Type} {d : Kd α} {e : Nat} {w w1 : World} {o : Obj} {v : Value} {xs : List α} (h : d.R e w1 (w.alloc o).heap.size (fun _ => True) v xs) : d.R e w1 w.heap.size (fun k => w.heap.size < k) v xs :=
  Kd.R_mono (Kd.R_lower (Kd.R_bound h) (by simp)) (fun k hk => by have h2 : (w.alloc o).heap.size ≤ k := hk.2.1; rw [show (w.alloc o).heap.size = w.heap.size + 1 by simp] at h2; omega)
theorem results_tmp4 {fn : Func} {t u v x : Tmp} (h : fn.results = #[.tmp t, .tmp u, .tmp v, .tmp x]) (tmps : Array Value) (P : Program) (w : World) :
    (results fn tmps).run P w = .ok (.tuple #[tmps.getD t undef, tmps.getD u undef, tmps.getD v undef, tmps.getD x undef]) w := by
  simp [results, h]
theorem blk_two {W : World} {b t : Nat} {u v : Value} (h : W.heap[b]? = some (.cells #[u, v] t (0, 0))) : W.cell? ⟨b, 0, none⟩ = some u ∧ W.cell? ⟨b, 1, none⟩ = some v ∧ W.frozen? ⟨b, 0, none⟩ = false ∧ W.frozen? ⟨b, 1, none⟩ = false := by
  refine ⟨?_, ?_, ?_, ?_⟩ <;> simp [World.cell?, World.frozen?, h]
end Go.Proofs.Ytdjbdpgdhpobfaa.Pr
/- What the reference's DrawArcsParted computes. -/
namespace Go.Proofs.Ytdjbdpgdhpobfaa.Pr
open Go.RowKit Go.Proofs.YtdjbdpgdhpobfaaW.PrintWords Go.Proofs.YtdjbdpgdhpobfaaW.PrintLast Go.Proofs.YtdjbdpgdhpobfaaW.PrintMore
def spec_DrawArcsParted.f (k : Nat) (l0 : List Int) : Option (Int × (List (S60)) × Int × Int) :=
  (spec_l1Cur_chords.f k l0 0 0).bind fun c => (spec_l1Most.f 1 c.1).bind fun x => (spec_l1Least.f 60 x).bind fun m => (spec_l1Cur_pick.f l0 c.2.2.1 c.2.2.2 m).bind fun p => (spec_l1Cur_pick.f l0 p.2.1 p.2.2 9).bind fun q => (spec_l1Cur_pick.f l0 q.2.1 q.2.2 m).bind fun s => some (c.1, c.2.1, wrap64 (p.1 - wrap64 (Int.tdiv q.1 8)), s.1)
theorem spec_DrawArcsParted.mono : ∀ a0 k, LeO (spec_DrawArcsParted.f k a0) (spec_DrawArcsParted.f (k + 1) a0) := by
  intro a0 k
  unfold spec_DrawArcsParted.f
  exact LeO.bind (spec_l1Cur_chords.mono _ _ _ _) (fun _ => LeO.refl _)
set_option maxHeartbeats 2000000 in
set_option maxRecDepth 100000 in
theorem spec_DrawArcsParted.calls (k : Nat) (A0 : Option Addr) (c0 : Nat) (l0 : List Int) (r1 : Int) (r2 : List (S60)) (r3 : Int) (r4 : Int) (w : World) (hr0 : Kd.C (Kd.int .u8) w A0 l0.length l0) (hc0 : l0.length ≤ c0) (h : spec_DrawArcsParted.f k l0 = some (r1, r2, r3, r4)) :
    Calls Try.prog 5 #[.slice A0 l0.length c0] w fun e w' => ∃ v1_ : Value, e = .returned (.tuple #[.int .i64 r1, v1_, .int .i64 r3, .int .i64 r4]) ∧ Kd.R k60 60 w' w.heap.size (fun _ => True) v1_ r2 ∧ Below w.heap.size w w' := by
  obtain ⟨⟨c1, c2, c3, c4⟩, hc, h⟩ := bI h
  obtain ⟨x, hx, h⟩ := bI h
  obtain ⟨m, hm, h⟩ := bI h
  obtain ⟨⟨p1, p2, p3⟩, hp, h⟩ := bI h
  obtain ⟨⟨q1, q2, q3⟩, hq, h⟩ := bI h
  obtain ⟨⟨s1, s2, s3⟩, hs, h⟩ := bI h
  injection h with h
  injection h with e1 h
  injection h with e2 h
  injection h with e3 e4
  subst e1 e2 e3 e4
  have hu := Try.underlying47
  have hu2 := Try.underlying60
  have HR := Aside0.mk hr0
  have HC := Aside0.mk (fun (g : Nat) (W : World) (hI : IsS47 w W g l0 0 0) (hB : Below w.heap.size w W) => spec_l1Cur_chords.calls k g l0 0 0 c1 c2 c3 c4 w W hI hB hc)
  have HP := Aside0.mk (fun (g : Nat) (W : World) (hI : IsS47 w W g l0 c3 c4) (hB : Below w.heap.size w W) => spec_l1Cur_pick.calls g l0 c3 c4 _ p1 p2 p3 w W hI hB hp)
  have HQ := Aside0.mk (fun (g : Nat) (W : World) (hI : IsS47 w W g l0 p2 p3) (hB : Below w.heap.size w W) => spec_l1Cur_pick.calls g l0 p2 p3 9 q1 q2 q3 w W hI hB hq)
  have HS := Aside0.mk (fun (g : Nat) (W : World) (hI : IsS47 w W g l0 q2 q3) (hB : Below w.heap.size w W) => spec_l1Cur_pick.calls g l0 q2 q3 m s1 s2 s3 w W hI hB hs)
  have HX := Aside0.mk (fun (W : World) => spec_l1Most.calls 1 c1 x W hx)
  have HM := Aside0.mk (fun (W : World) => spec_l1Least.calls 60 x m W hm)
  clear hr0 hc hp hq h hs hx hm
  go_enter Try.func5, Try.ntmps5
  go_wp2_with (first | (go_at_call 27; refine (HC.out _ _ (cur_new HR.out) (cur_below _)).mono ?_; rintro e w1 ⟨v1, rfl, hr1, hi1, hb1, hk1⟩; obtain ⟨Av, cv, ev⟩ := Kd.R_slice hr1; subst ev; have HI1 := Aside0.mk hi1; have HB1 := Aside0.mk hb1; have HR1 := Aside0.mk (cur_own hr1); clear HC hr1 hi1 hb1 hk1) | (go_at_call 29; refine (HX.out _).mono ?_; rintro e wx ⟨rfl, ⟨mx_, hwx⟩⟩; have n1_ := hwx ▸ HI1.out.drewN mx_; have n2_ := hwx ▸ pw_below_drewN HB1.out mx_; have n3_ := hwx ▸ Kd.R_drewN HR1.out mx_; clear HX HI1 HB1 HR1 hwx; have HI1 := Aside0.mk n1_; have HB1 := Aside0.mk n2_; have HR1 := Aside0.mk n3_; clear n1_ n2_ n3_) | (go_at_call 28; refine (HM.out _).mono ?_; rintro e wy ⟨rfl, ⟨my_, hwy⟩⟩; have n1_ := hwy ▸ HI1.out.drewN my_; have n2_ := hwy ▸ pw_below_drewN HB1.out my_; have n3_ := hwy ▸ Kd.R_drewN HR1.out my_; clear HM HI1 HB1 HR1 hwy; have HI1 := Aside0.mk n1_; have HB1 := Aside0.mk n2_; have HR1 := Aside0.mk n3_; clear n1_ n2_ n3_) | (go_at_call 30; refine (HP.out _ _ HI1.out HB1.out).mono ?_; rintro e w2 ⟨rfl, hi2, hb2, hk2⟩; have HI2 := Aside0.mk hi2; have HB2 := Aside0.mk hb2; have HR2 := Aside0.mk (Kd.R_keep HR1.out hk2 (fun k hk => by have hk : w.heap.size < k := hk; omega)); clear HP HI1 HB1 HR1 hi2 hb2 hk2) | (go_at_call 30; refine (HQ.out _ _ HI2.out HB2.out).mono ?_; rintro e w3 ⟨rfl, hi3, hb3, hk3⟩; have HI3 := Aside0.mk hi3; have HB3 := Aside0.mk hb3; have HR3 := Aside0.mk (Kd.R_keep HR2.out hk3 (fun k hk => by have hk : w.heap.size < k := hk; omega)); clear HQ HI2 HB2 HR2 hi3 hb3 hk3) | (go_at_call 30; refine (HS.out _ _ HI3.out HB3.out).mono ?_; rintro e w4 ⟨rfl, hi4, hb4, hk4⟩; have HB4 := Aside0.mk hb4; have HR4 := Aside0.mk (Kd.R_keep HR3.out hk4 (fun k hk => by have hk : w.heap.size < k := hk; omega)); clear HS HI3 HB3 HR3 hi4 hb4 hk4))
  (try simp only [Exit.inBlock, Exit.then]); refine bodyPost_ret (results_tmp4 rfl _ _ _) rfl ?_
  exact ⟨_, by first | rfl | (simp; done), Kd.R_mono HR4.out (fun _ _ => trivial), HB4.out⟩
end Go.Proofs.Ytdjbdpgdhpobfaa.Pr
/- What the reference's DrawMostRegions computes. -/
namespace Go.Proofs.Ytdjbdpgdhpobfaa.Pr
open Go.RowKit Go.Proofs.YtdjbdpgdhpobfaaW.PrintWords Go.Proofs.YtdjbdpgdhpobfaaW.PrintLast Go.Proofs.YtdjbdpgdhpobfaaW.PrintMore
def spec_DrawMostRegions.f (l0 : List Int) : Option (Int) :=
  (spec_l1Cur_pick.f l0 0 0 21).bind fun p => (spec_l1Cur_pick.f l0 p.2.1 p.2.2 9).bind fun q => some (wrap64 (wrap64 (p.1 + 1) - wrap64 (Int.tdiv q.1 8)))
set_option maxHeartbeats 2000000 in
set_option maxRecDepth 100000 in
theorem spec_DrawMostRegions.calls (A0 : Option Addr) (c0 : Nat) (l0 : List Int) (r : Int) (w : World) (hr0 : Kd.C (Kd.int .u8) w A0 l0.length l0) (hc0 : l0.length ≤ c0) (h : spec_DrawMostRegions.f l0 = some r) :
    Calls Try.prog 22 #[.slice A0 l0.length c0] w fun e w' => e = .returned (.int .i64 r) ∧ Below w.heap.size w w' := by
  obtain ⟨⟨p1, p2, p3⟩, hp, h⟩ := bI h
  obtain ⟨⟨q1, q2, q3⟩, hq, h⟩ := bI h
  obtain rfl := oI h
  have hu := Try.underlying47
  have HB := Aside0.mk (Below.refl w.heap.size w)
  have HR := Aside0.mk hr0
  have HP := Aside0.mk (fun (g : Nat) (W : World) (hI : IsS47 w W g l0 0 0) (hB : Below w.heap.size w W) => spec_l1Cur_pick.calls g l0 0 0 21 p1 p2 p3 w W hI hB hp)
  have HQ := Aside0.mk (fun (g : Nat) (W : World) (hI : IsS47 w W g l0 p2 p3) (hB : Below w.heap.size w W) => spec_l1Cur_pick.calls g l0 p2 p3 9 q1 q2 q3 w W hI hB hq)
  clear hr0 hp hq h
  go_enter Try.func22, Try.ntmps22
  go_wp2_with (first | (go_at_call 30; refine (HP.out _ _ (cur_new HR.out) (cur_below _)).mono ?_; rintro e w1 ⟨rfl, hi1, hb1, hk1⟩; have HI1 := Aside0.mk hi1; have HB1 := Aside0.mk hb1; clear HP hi1 hb1 hk1) | (go_at_call 30; refine (HQ.out _ _ HI1.out HB1.out).mono ?_; rintro e w2 ⟨rfl, hi2, hb2, hk2⟩; have HB2 := Aside0.mk hb2; clear HQ hi2 hb2 hk2))
  go_ret
  exact ⟨rfl, HB2.out⟩
end Go.Proofs.Ytdjbdpgdhpobfaa.Pr
/- What the reference's DrawPiecesOfChord computes. -/
namespace Go.Proofs.Ytdjbdpgdhpobfaa.Pr
open Go.RowKit Go.Proofs.YtdjbdpgdhpobfaaW.PrintWords Go.Proofs.YtdjbdpgdhpobfaaW.PrintLast Go.Proofs.YtdjbdpgdhpobfaaW.PrintMore
def spec_DrawPiecesOfChord.f (k : Nat) (l0 : List Int) : Option (Int × (List (S60)) × Int) :=
  (spec_l1Cur_chords.f k l0 0 0).bind fun c => (spec_l1Cur_pick.f l0 c.2.2.1 c.2.2.2 (wrap64 ((c.2.1.length : Int) + 1))).bind fun p => (spec_l1Cur_pick.f l0 p.2.1 p.2.2 9).bind fun q => some (c.1, c.2.1, wrap64 (p.1 - wrap64 (Int.tdiv q.1 8)))
theorem spec_DrawPiecesOfChord.mono : ∀ a0 k, LeO (spec_DrawPiecesOfChord.f k a0) (spec_DrawPiecesOfChord.f (k + 1) a0) := by
  intro a0 k
  unfold spec_DrawPiecesOfChord.f
  exact LeO.bind (spec_l1Cur_chords.mono _ _ _ _) (fun _ => LeO.refl _)
set_option maxHeartbeats 2000000 in
set_option maxRecDepth 100000 in
theorem spec_DrawPiecesOfChord.calls (k : Nat) (A0 : Option Addr) (c0 : Nat) (l0 : List Int) (r1 : Int) (r2 : List (S60)) (r3 : Int) (w : World) (hr0 : Kd.C (Kd.int .u8) w A0 l0.length l0) (hc0 : l0.length ≤ c0) (h : spec_DrawPiecesOfChord.f k l0 = some (r1, r2, r3)) :
    Calls Try.prog 17 #[.slice A0 l0.length c0] w fun e w' => ∃ v1_ : Value, e = .returned (.tuple #[.int .i64 r1, v1_, .int .i64 r3]) ∧ Kd.R k60 60 w' w.heap.size (fun _ => True) v1_ r2 ∧ Below w.heap.size w w' := by
  obtain ⟨⟨c1, c2, c3, c4⟩, hc, h⟩ := bI h
  obtain ⟨⟨p1, p2, p3⟩, hp, h⟩ := bI h
  obtain ⟨⟨q1, q2, q3⟩, hq, h⟩ := bI h
  injection h with h
  injection h with e1 h
  injection h with e2 e3
  subst e1 e2 e3
  have hu := Try.underlying47
  have hu2 := Try.underlying60
  have HR := Aside0.mk hr0
  have HC := Aside0.mk (fun (g : Nat) (W : World) (hI : IsS47 w W g l0 0 0) (hB : Below w.heap.size w W) => spec_l1Cur_chords.calls k g l0 0 0 c1 c2 c3 c4 w W hI hB hc)
  have HP := Aside0.mk (fun (g : Nat) (W : World) (hI : IsS47 w W g l0 c3 c4) (hB : Below w.heap.size w W) => spec_l1Cur_pick.calls g l0 c3 c4 _ p1 p2 p3 w W hI hB hp)
  have HQ := Aside0.mk (fun (g : Nat) (W : World) (hI : IsS47 w W g l0 p2 p3) (hB : Below w.heap.size w W) => spec_l1Cur_pick.calls g l0 p2 p3 9 q1 q2 q3 w W hI hB hq)
  clear hr0 hc hp hq h
  go_enter Try.func17, Try.ntmps17
  go_wp2_with (first | (go_at_call 27; refine (HC.out _ _ (cur_new HR.out) (cur_below _)).mono ?_; rintro e w1 ⟨v1, rfl, hr1, hi1, hb1, hk1⟩; obtain ⟨Av, cv, ev⟩ := Kd.R_slice hr1; subst ev; have HI1 := Aside0.mk hi1; have HB1 := Aside0.mk hb1; have HR1 := Aside0.mk (cur_own hr1); clear HC hr1 hi1 hb1 hk1) | (go_at_call 30; refine (HP.out _ _ HI1.out HB1.out).mono ?_; rintro e w2 ⟨rfl, hi2, hb2, hk2⟩; have HI2 := Aside0.mk hi2; have HB2 := Aside0.mk hb2; have HR2 := Aside0.mk (Kd.R_keep HR1.out hk2 (fun k hk => by have hk : w.heap.size < k := hk; omega)); clear HP HI1 HB1 HR1 hi2 hb2 hk2) | (go_at_call 30; refine (HQ.out _ _ HI2.out HB2.out).mono ?_; rintro e w3 ⟨rfl, hi3, hb3, hk3⟩; have HB3 := Aside0.mk hb3; have HR3 := Aside0.mk (Kd.R_keep HR2.out hk3 (fun k hk => by have hk : w.heap.size < k := hk; omega)); clear HQ HI2 HB2 HR2 hi3 hb3 hk3))
  go_ret3
  exact ⟨_, by first | rfl | (simp; done), Kd.R_mono HR3.out (fun _ _ => trivial), HB3.out⟩
end Go.Proofs.Ytdjbdpgdhpobfaa.Pr
namespace Go.Proofs.Ytdjbdpgdhpobfaa.Pr
open Go.RowKit Go.Proofs.YtdjbdpgdhpobfaaW.PrintWords Go.Proofs.YtdjbdpgdhpobfaaW.PrintLast Go.Proofs.YtdjbdpgdhpobfaaW.PrintMore
attribute [local go_sem] max2_int min2_int max_two min_two max_three min_three max_four min_four
def spec_l1Cur_one.f (s0_0 : List Int) (s0_1 : Int) (s0_2 : Int) (a1 : Int) : Option (Bool × Int × Int) := (spec_l1Cur_pick.f s0_0 s0_1 s0_2 a1).bind fun bt463 => (some ((bt463.1 == 0), bt463.2.1, bt463.2.2))
set_option maxHeartbeats 8000000 in
set_option maxRecDepth 100000 in
theorem spec_l1Cur_one.calls (g : Nat) (s0_0 : List Int) (s0_1 : Int) (s0_2 : Int) (a1 : Int) (r1 : Bool) (r2 : Int) (r3 : Int) (w0 w : World) (hI : IsS47 w0 w g s0_0 s0_1 s0_2) (hB : Below w0.heap.size w0 w) (h : spec_l1Cur_one.f s0_0 s0_1 s0_2 a1 = some (r1, r2, r3)) :
  Calls Try.prog 68 #[.pointer (some ⟨g, 0, none⟩), .int .i64 a1] w fun e w' => e = .returned (.bool r1) ∧ IsS47 w0 w' g s0_0 r2 r3 ∧ Below w0.heap.size w0 w' ∧ KeepBut w w' g none := by
 have HI0 := Aside0.mk hI
 have HK := Aside0.mk (KeepBut.refl w g none)
 have HL := Aside0.mk hB.size
 clear hI
 have HW0 := Aside0.mk hB.size
 have HB := Aside0.mk hB
 clear hB
 have H : ((spec_l1Cur_pick.f s0_0 s0_1 s0_2 a1).bind fun bt463 => (some ((bt463.1 == 0), bt463.2.1, bt463.2.2))) = some (r1, r2, r3) := h
 clear h
 replace H := bI H
 obtain ⟨⟨t463, t464, t465⟩, A30, H⟩ := H
 replace H : (some ((t463 == 0), t464, t465)) = some (r1, r2, r3) := H
 have A3 := Aside0.mk A30
 clear A30
 simp only [Option.some.injEq, Prod.mk.injEq] at H
 obtain ⟨rfl, rfl, rfl⟩ := H
 go_enter Try.func68, Try.ntmps68
 go_wp2_with (first | ((with_reducible refine gate_callee (f := 30) rfl ?_); refine goesL_ (some 7) rfl rfl Try.func30 (by kernel_rfl) rfl #[.pointer (some ⟨g, 0, none⟩), .int .i64 a1] rfl ar_ ?_; (with_reducible refine (spec_l1Cur_pick.calls g s0_0 s0_1 s0_2 a1 t463 t464 t465 w0 _ ?side1 ?side2 A3.out).mono ?_); (case side1 => repeat (first | (with_reducible first | exact HI0.out | apply IsS47.alloc | apply IsS47.drewN | apply IsS47.drew | apply IsS47.set_1 | apply IsS47.set_2) | exact HI0.out)); (case side2 => repeat (first | (with_reducible first | exact HB.out | apply bA | apply bN | apply bD | refine below_set ?_ (IsS47.ge HI0.out)) | exact HB.out)); rintro e w4 ⟨rfl, hi, hb, hk⟩; refine ⟨_, rfl, ?_⟩; have n0_ := Aside0.mk (KeepBut.trans (by repeat (first | (with_reducible first | exact HK.out | apply KeepBut.set_ | apply keep_drewN | apply keep_drew | apply keep_alloc) | exact HK.out)) hk (.inl rfl)); have n1_ := Aside0.mk (hb); have n2_ := Aside0.mk (hi); clear HK; clear HB; clear HI0; have HK := n0_; have HB := n1_; have HI0 := n2_; clear n0_ n1_ n2_; (try clear hb); (try clear hb2); (try clear hk); (try clear hi)))
 go_ret
 exact ⟨by first | rfl | (simp [errW_none, errW_some] <;> rfl) | (simp [*, errW_none, errW_some] <;> rfl), by repeat (first | (with_reducible first | exact HI0.out | apply IsS47.alloc | apply IsS47.drewN | apply IsS47.drew | apply IsS47.set_1 | apply IsS47.set_2) | exact HI0.out), by repeat (first | (with_reducible first | exact HB.out | apply bA | apply bN | apply bD | refine below_set ?_ (IsS47.ge HI0.out)) | exact HB.out), by repeat (first | (with_reducible first | exact HK.out | apply KeepBut.set_ | apply keep_drewN | apply keep_drew | apply keep_alloc) | exact HK.out)⟩
def spec_l1Cur_star.f (s0_0 : List Int) (s0_1 : Int) (s0_2 : Int) : Option (Int × Int × Int × Int) := (spec_l1Cur_one.f s0_0 s0_1 s0_2 12).bind fun bt467 => (if bt467.1 = true then ((spec_l1Cur_among.f s0_0 bt467.2.1 bt467.2.2 (([0, (-1), 2, 3, 60, 61, 4611686018427387904] : List Int))).bind fun bt473 => ((spec_l1Cur_among.f s0_0 bt473.2.1 bt473.2.2 (([0, 1, 2, 30, (-1), 59, 60] : List Int))).bind fun bt479 => (some (bt473.1, bt479.1, bt479.2.1, bt479.2.2)))) else ((spec_l1Cur_sureStar.f s0_0 bt467.2.1 bt467.2.2).bind fun bt482 => (some (bt482.1, bt482.2.1, bt482.2.2.1, bt482.2.2.2))))
set_option maxHeartbeats 8000000 in
set_option maxRecDepth 100000 in
theorem spec_l1Cur_star.calls (g : Nat) (s0_0 : List Int) (s0_1 : Int) (s0_2 : Int) (r1 : Int) (r2 : Int) (r3 : Int) (r4 : Int) (w0 w : World) (hI : IsS47 w0 w g s0_0 s0_1 s0_2) (hB : Below w0.heap.size w0 w) (h : spec_l1Cur_star.f s0_0 s0_1 s0_2 = some (r1, r2, r3, r4)) :
  Calls Try.prog 44 #[.pointer (some ⟨g, 0, none⟩)] w fun e w' => e = .returned (.agg #[.int .i64 r1, .int .i64 r2]) ∧ IsS47 w0 w' g s0_0 r3 r4 ∧ Below w0.heap.size w0 w' ∧ KeepBut w w' g none := by
 have hu37 := Try.underlying37
 have HI0 := Aside0.mk hI
 have HK := Aside0.mk (KeepBut.refl w g none)
 have HL := Aside0.mk hB.size
 clear hI
 have HW0 := Aside0.mk hB.size
 have HB := Aside0.mk hB
 clear hB
 have H : ((spec_l1Cur_one.f s0_0 s0_1 s0_2 12).bind fun bt467 => (if bt467.1 = true then ((spec_l1Cur_among.f s0_0 bt467.2.1 bt467.2.2 (([0, (-1), 2, 3, 60, 61, 4611686018427387904] : List Int))).bind fun bt473 => ((spec_l1Cur_among.f s0_0 bt473.2.1 bt473.2.2 (([0, 1, 2, 30, (-1), 59, 60] : List Int))).bind fun bt479 => (some (bt473.1, bt479.1, bt479.2.1, bt479.2.2)))) else ((spec_l1Cur_sureStar.f s0_0 bt467.2.1 bt467.2.2).bind fun bt482 => (some (bt482.1, bt482.2.1, bt482.2.2.1, bt482.2.2.2))))) = some (r1, r2, r3, r4) := h
 clear h
 replace H := bI H
 obtain ⟨⟨t467, t468, t469⟩, A20, H⟩ := H
 replace H : (if t467 = true then ((spec_l1Cur_among.f s0_0 t468 t469 (([0, (-1), 2, 3, 60, 61, 4611686018427387904] : List Int))).bind fun bt473 => ((spec_l1Cur_among.f s0_0 bt473.2.1 bt473.2.2 (([0, 1, 2, 30, (-1), 59, 60] : List Int))).bind fun bt479 => (some (bt473.1, bt479.1, bt479.2.1, bt479.2.2)))) else ((spec_l1Cur_sureStar.f s0_0 t468 t469).bind fun bt482 => (some (bt482.1, bt482.2.1, bt482.2.2.1, bt482.2.2.2)))) = some (r1, r2, r3, r4) := H
 have A2 := Aside0.mk A20
 clear A20
 by_cases c3 : t467 = true
 ·subst c3
  have H1 : ((spec_l1Cur_among.f s0_0 t468 t469 (([0, (-1), 2, 3, 60, 61, 4611686018427387904] : List Int))).bind fun bt473 => ((spec_l1Cur_among.f s0_0 bt473.2.1 bt473.2.2 (([0, 1, 2, 30, (-1), 59, 60] : List Int))).bind fun bt479 => (some (bt473.1, bt479.1, bt479.2.1, bt479.2.2)))) = some (r1, r2, r3, r4) := by rw [if_pos rfl] at H; exact H
  clear H
  have H := H1
  clear H1
  obtain ⟨y470, hy470⟩ : ∃ y_ : List Int, y_ = (([0, (-1), 2, 3, 60, 61, 4611686018427387904] : List Int)) := ⟨_, rfl⟩
  replace H : ((spec_l1Cur_among.f s0_0 t468 t469 y470).bind fun bt473 => ((spec_l1Cur_among.f s0_0 bt473.2.1 bt473.2.2 (([0, 1, 2, 30, (-1), 59, 60] : List Int))).bind fun bt479 => (some (bt473.1, bt479.1, bt479.2.1, bt479.2.2)))) = some (r1, r2, r3, r4) := by first | (rw [hy470]; with_reducible exact H) | (have H2_ := (Option.bind_some _ _).symm.trans H; rw [hy470]; with_reducible exact H2_) | (have H2_ := (Option.bind_some _ _).symm.trans H; with_reducible exact H2_) | with_reducible exact H | (rw [hy470]; exact H) | exact H
  have Ny470 := Aside0.mk hy470
  clear hy470
  replace H := bI H
  obtain ⟨⟨t473, t474, t475⟩, A40, H⟩ := H
  replace H : ((spec_l1Cur_among.f s0_0 t474 t475 (([0, 1, 2, 30, (-1), 59, 60] : List Int))).bind fun bt479 => (some (t473, bt479.1, bt479.2.1, bt479.2.2))) = some (r1, r2, r3, r4) := H
  have A4 := Aside0.mk A40
  clear A40
  obtain ⟨y476, hy476⟩ : ∃ y_ : List Int, y_ = (([0, 1, 2, 30, (-1), 59, 60] : List Int)) := ⟨_, rfl⟩
  replace H : ((spec_l1Cur_among.f s0_0 t474 t475 y476).bind fun bt479 => (some (t473, bt479.1, bt479.2.1, bt479.2.2))) = some (r1, r2, r3, r4) := by first | (rw [hy476]; with_reducible exact H) | (have H2_ := (Option.bind_some _ _).symm.trans H; rw [hy476]; with_reducible exact H2_) | (have H2_ := (Option.bind_some _ _).symm.trans H; with_reducible exact H2_) | with_reducible exact H | (rw [hy476]; exact H) | exact H
  have Ny476 := Aside0.mk hy476
  clear hy476
  replace H := bI H
  obtain ⟨⟨t479, t480, t481⟩, A50, H⟩ := H
  replace H : (some (t473, t479, t480, t481)) = some (r1, r2, r3, r4) := H
  have A5 := Aside0.mk A50
  clear A50
  simp only [Option.some.injEq, Prod.mk.injEq] at H
  obtain ⟨rfl, rfl, rfl, rfl⟩ := H
  go_enter Try.func44, Try.ntmps44
  go_wp2_with (first | ((with_reducible refine gate_dst (N := 2) rfl ?_); refine box_event ?hg (N := 2) ?hd (cs := #[.int .i64 0, .int .i64 0]) (t := 37) ?hr ?_; (case hd => rfl); (case hg => rfl); (case hr => first | (go_simp; done) | (go_simp; rfl)); intro gb466 hg w6 hbox hb; have n0_ := Aside0.mk (IsS47.below (by repeat (first | (with_reducible first | exact HI0.out | apply IsS47.alloc | apply IsS47.drewN | apply IsS47.drew | apply IsS47.set_1 | apply IsS47.set_2) | exact HI0.out)) hb); have n1_ := Aside0.mk (KeepBut.trans (by repeat (first | (with_reducible first | exact HK.out | apply KeepBut.set_ | apply keep_drewN | apply keep_drew | apply keep_alloc) | exact HK.out)) (KeepBut.of_below hb g none) (.inl rfl)); have n2_ := Aside0.mk (below_step (by repeat (first | (with_reducible first | exact HB.out | apply bA | apply bN | apply bD | refine below_set ?_ (IsS47.ge HI0.out)) | exact HB.out)) hb); have n3_ := Aside0.mk (hbox); have n4_ := Aside0.mk ((by rw [hg]; exact (keep_size (w := w) (g := g) (row := none) (by repeat (first | (with_reducible first | exact HK.out | apply KeepBut.set_ | apply keep_drewN | apply keep_drew | apply keep_alloc) | exact HK.out))) : w.heap.size ≤ gb466)); have n5_ := Aside0.mk ((Nat.le_trans HW0.out (by rw [hg]; exact (keep_size (w := w) (g := g) (row := none) (by repeat (first | (with_reducible first | exact HK.out | apply KeepBut.set_ | apply keep_drewN | apply keep_drew | apply keep_alloc) | exact HK.out))) : w.heap.size ≤ gb466) : w0.heap.size ≤ gb466)); have n6_ := Aside0.mk ((by rw [hg]; exact Nat.ne_of_lt (IsS47.lt (show IsS47 w0 _ g s0_0 s0_1 s0_2 from by repeat (first | (with_reducible first | exact HI0.out | apply IsS47.alloc | apply IsS47.drewN | apply IsS47.drew | apply IsS47.set_1 | apply IsS47.set_2) | exact HI0.out))) : g ≠ gb466)); have n7_ := Aside0.mk ((by rw [hg]; exact Nat.ne_of_gt (IsS47.lt (show IsS47 w0 _ g s0_0 s0_1 s0_2 from by repeat (first | (with_reducible first | exact HI0.out | apply IsS47.alloc | apply IsS47.drewN | apply IsS47.drew | apply IsS47.set_1 | apply IsS47.set_2) | exact HI0.out))) : gb466 ≠ g)); clear HI0; clear HK; clear HB; have HI0 := n0_; have HK := n1_; have HB := n2_; have BK466 := n3_; have GW466 := n4_; have GE466 := n5_; have NB0_466 := n6_; have NB466_0 := n7_; clear n0_ n1_ n2_ n3_ n4_ n5_ n6_ n7_; clear hb hbox hg) | ((with_reducible refine gate_callee (f := 68) rfl ?_); refine goesL_ (some 4) rfl rfl Try.func68 (by kernel_rfl) rfl #[.pointer (some ⟨g, 0, none⟩), .int .i64 12] rfl ar_ ?_; (with_reducible refine (spec_l1Cur_one.calls g s0_0 s0_1 s0_2 12 true t468 t469 w0 _ ?side1 ?side2 A2.out).mono ?_); (case side1 => repeat (first | (with_reducible first | exact HI0.out | apply IsS47.alloc | apply IsS47.drewN | apply IsS47.drew | apply IsS47.set_1 | apply IsS47.set_2 | refine IsS47.far ?_ NB0_466.out _) | exact HI0.out)); (case side2 => repeat (first | (with_reducible first | exact HB.out | apply bA | apply bN | apply bD | refine below_set ?_ (IsS47.ge HI0.out) | refine below_set ?_ GE466.out) | exact HB.out)); rintro e w7 ⟨rfl, hi, hb, hk⟩; refine ⟨_, rfl, ?_⟩; have n0_ := Aside0.mk (KeepBut.blk hk (g' := gb466) (o := .cells #[.int .i64 0, .int .i64 0] 37 (0, 0)) (kx_ BK466.out) NB466_0.out (by simp)); have n1_ := Aside0.mk (KeepBut.trans (by repeat (first | (with_reducible first | exact HK.out | apply KeepBut.set_ | apply keep_drewN | apply keep_drew | apply keep_alloc | refine keep_far ?_ GW466.out _) | exact HK.out)) hk (.inl rfl)); have n2_ := Aside0.mk (hb); have n3_ := Aside0.mk (hi); clear BK466; clear HK; clear HB; clear HI0; have BK466 := n0_; have HK := n1_; have HB := n2_; have HI0 := n3_; clear n0_ n1_ n2_ n3_; (try clear hb); (try clear hb2); (try clear hk); (try clear hi)) | ((with_reducible refine gate_dst (N := 6) rfl ?_); refine Kd.R_lit (Kd.int .i64) _ 3 ?hg (N := 6) ?hd (xs := ([0, (-1), 2, 3, 60, 61, 4611686018427387904] : List Int)) (inner := [.int .i64 0, .int .i64 (-1), .int .i64 2, .int .i64 3, .int .i64 60, .int .i64 61, .int .i64 4611686018427387904]) (ok := fun _ => True) (okp := fun _ => True) ?hr ?hp (fun _ hk => hk) trivial (Below.refl _ _) (Nat.le_refl _) (by simp) ?_; (case hd => rfl); (case hg => rfl); (case hr => first | (go_simp; done) | (go_simp; rfl)); (case hp => exact (Reps.one (show Kd.M (Kd.int .i64) _ _ _ 0 [.int .i64 0] from rfl) (Reps.one (show Kd.M (Kd.int .i64) _ _ _ (-1) [.int .i64 (-1)] from rfl) (Reps.one (show Kd.M (Kd.int .i64) _ _ _ 2 [.int .i64 2] from rfl) (Reps.one (show Kd.M (Kd.int .i64) _ _ _ 3 [.int .i64 3] from rfl) (Reps.one (show Kd.M (Kd.int .i64) _ _ _ 60 [.int .i64 60] from rfl) (Reps.one (show Kd.M (Kd.int .i64) _ _ _ 61 [.int .i64 61] from rfl) (Reps.one (show Kd.M (Kd.int .i64) _ _ _ 4611686018427387904 [.int .i64 4611686018427387904] from rfl) (Reps.none _ _))))))))); intro v471 w8 ho9 hb hg_ hnew_; clear hg_ hnew_; (first | rw [← Ny470.out] at ho9 | (simp only [Int.reduceToNat] at ho9; rw [← Ny470.out] at ho9)); have n0_ := Aside0.mk (Kd.R_lower ho9 (keep_size (w := w) (g := g) (row := none) (by repeat (first | (with_reducible first | exact HK.out | apply KeepBut.set_ | apply keep_drewN | apply keep_drew | apply keep_alloc | refine keep_far ?_ GW466.out _) | exact HK.out)))); have n1_ := Aside0.mk (IsS47.below (by repeat (first | (with_reducible first | exact HI0.out | apply IsS47.alloc | apply IsS47.drewN | apply IsS47.drew | apply IsS47.set_1 | apply IsS47.set_2 | refine IsS47.far ?_ NB0_466.out _) | exact HI0.out)) hb); have n2_ := Aside0.mk (blk_below (g := gb466) (o := .cells #[.int .i64 0, .int .i64 0] 37 (0, 0)) (kx_ BK466.out) hb); have n3_ := Aside0.mk (KeepBut.trans (by repeat (first | (with_reducible first | exact HK.out | apply KeepBut.set_ | apply keep_drewN | apply keep_drew | apply keep_alloc | refine keep_far ?_ GW466.out _) | exact HK.out)) (KeepBut.of_below hb g none) (.inl rfl)); have n4_ := Aside0.mk (below_step (by repeat (first | (with_reducible first | exact HB.out | apply bA | apply bN | apply bD | refine below_set ?_ (IsS47.ge HI0.out) | refine below_set ?_ GE466.out) | exact HB.out)) hb); clear HI0; clear BK466; clear HK; clear HB; have HO472 := n0_; have HI0 := n1_; have BK466 := n2_; have HK := n3_; have HB := n4_; clear n0_ n1_ n2_ n3_ n4_; clear hb ho9; obtain ⟨Ao10, co10, eo10⟩ := Kd.R_slice HO472.out; subst eo10) | ((with_reducible refine gate_callee (f := 51) rfl ?_); refine goesL_ (some 7) rfl rfl Try.func51 (by kernel_rfl) rfl #[.pointer (some ⟨g, 0, none⟩), .slice Ao10 y470.length co10] rfl ar_ ?_; (with_reducible refine (spec_l1Cur_among.calls g s0_0 t468 t469 _ _ y470 t473 t474 t475 w0 _ ?side1 ?side2 ?side3 ?side4 ?side5 A4.out).mono ?_); (case side1 => repeat (first | (with_reducible first | exact HI0.out | apply IsS47.alloc | apply IsS47.drewN | apply IsS47.drew | apply IsS47.set_1 | apply IsS47.set_2 | refine IsS47.far ?_ NB0_466.out _) | exact HI0.out)); (case side2 => repeat (first | (with_reducible first | exact HB.out | apply bA | apply bN | apply bD | refine below_set ?_ (IsS47.ge HI0.out) | refine below_set ?_ GE466.out) | exact HB.out)); (case side3 => repeat (first | exact (Kd.R_reads' HO472.out).2.2 | (with_reducible refine Kd.C_alloc ?_ _) | (with_reducible refine Kd.C_drewN ?_ _) | (with_reducible refine Kd.C_drew ?_))); (case side4 => exact (Kd.R_reads' HO472.out).2.1); (case side5 => exact far_slice (IsS47.own_ne HI0.out HO472.out (by decide))); rintro e w11 ⟨rfl, hi, hb, hk⟩; refine ⟨_, rfl, ?_⟩; have n0_ := Aside0.mk (KeepBut.blk hk (g' := gb466) (o := .cells #[.int .i64 0, .int .i64 0] 37 (0, 0)) (kx_ BK466.out) NB466_0.out (by simp)); have n1_ := Aside0.mk (Kd.R_mono (Kd.R_keep (IsS47.apart (show IsS47 w0 _ g s0_0 t468 t469 from by repeat (first | (with_reducible first | exact HI0.out | apply IsS47.alloc | apply IsS47.drewN | apply IsS47.drew | apply IsS47.set_1 | apply IsS47.set_2 | refine IsS47.far ?_ NB0_466.out _) | exact HI0.out)) (ra_ HO472.out) (by decide)) hk (fun _ h => h.2)) (fun _ h => h.1)); have n2_ := Aside0.mk (KeepBut.trans (by repeat (first | (with_reducible first | exact HK.out | apply KeepBut.set_ | apply keep_drewN | apply keep_drew | apply keep_alloc | refine keep_far ?_ GW466.out _) | exact HK.out)) hk (.inl rfl)); have n3_ := Aside0.mk (hb); have n4_ := Aside0.mk (hi); clear BK466; clear HO472; clear HK; clear HB; clear HI0; have BK466 := n0_; have HO472 := n1_; have HK := n2_; have HB := n3_; have HI0 := n4_; clear n0_ n1_ n2_ n3_ n4_; (try clear hb); (try clear hb2); (try clear hk); (try clear hi)) | ((with_reducible refine gate_dst (N := 9) rfl ?_); refine Kd.R_lit (Kd.int .i64) _ 3 ?hg (N := 9) ?hd (xs := ([0, 1, 2, 30, (-1), 59, 60] : List Int)) (inner := [.int .i64 0, .int .i64 1, .int .i64 2, .int .i64 30, .int .i64 (-1), .int .i64 59, .int .i64 60]) (ok := fun _ => True) (okp := fun _ => True) ?hr ?hp (fun _ hk => hk) trivial (Below.refl _ _) (Nat.le_refl _) (by simp) ?_; (case hd => rfl); (case hg => rfl); (case hr => first | (go_simp; done) | (go_simp; rfl)); (case hp => exact (Reps.one (show Kd.M (Kd.int .i64) _ _ _ 0 [.int .i64 0] from rfl) (Reps.one (show Kd.M (Kd.int .i64) _ _ _ 1 [.int .i64 1] from rfl) (Reps.one (show Kd.M (Kd.int .i64) _ _ _ 2 [.int .i64 2] from rfl) (Reps.one (show Kd.M (Kd.int .i64) _ _ _ 30 [.int .i64 30] from rfl) (Reps.one (show Kd.M (Kd.int .i64) _ _ _ (-1) [.int .i64 (-1)] from rfl) (Reps.one (show Kd.M (Kd.int .i64) _ _ _ 59 [.int .i64 59] from rfl) (Reps.one (show Kd.M (Kd.int .i64) _ _ _ 60 [.int .i64 60] from rfl) (Reps.none _ _))))))))); intro v477 w12 ho13 hb hg_ hnew_; clear hg_ hnew_; (first | rw [← Ny476.out] at ho13 | (simp only [Int.reduceToNat] at ho13; rw [← Ny476.out] at ho13)); have n0_ := Aside0.mk (Kd.R_elder' (ra_ HO472.out) (Kd.R_base ho13) hb); have n1_ := Aside0.mk (Kd.R_lower (Kd.R_new' ho13 (Kd.R_lt (ra_ HO472.out))) (keep_size (w := w) (g := g) (row := none) (by repeat (first | (with_reducible first | exact HK.out | apply KeepBut.set_ | apply keep_drewN | apply keep_drew | apply keep_alloc | refine keep_far ?_ GW466.out _) | exact HK.out)))); have n2_ := Aside0.mk (IsS47.below (by repeat (first | (with_reducible first | exact HI0.out | apply IsS47.alloc | apply IsS47.drewN | apply IsS47.drew | apply IsS47.set_1 | apply IsS47.set_2 | refine IsS47.far ?_ NB0_466.out _) | exact HI0.out)) hb); have n3_ := Aside0.mk (blk_below (g := gb466) (o := .cells #[.int .i64 0, .int .i64 0] 37 (0, 0)) (kx_ BK466.out) hb); have n4_ := Aside0.mk (KeepBut.trans (by repeat (first | (with_reducible first | exact HK.out | apply KeepBut.set_ | apply keep_drewN | apply keep_drew | apply keep_alloc | refine keep_far ?_ GW466.out _) | exact HK.out)) (KeepBut.of_below hb g none) (.inl rfl)); have n5_ := Aside0.mk (below_step (by repeat (first | (with_reducible first | exact HB.out | apply bA | apply bN | apply bD | refine below_set ?_ (IsS47.ge HI0.out) | refine below_set ?_ GE466.out) | exact HB.out)) hb); clear HO472; clear HI0; clear BK466; clear HK; clear HB; have HO472 := n0_; have HO478 := n1_; have HI0 := n2_; have BK466 := n3_; have HK := n4_; have HB := n5_; clear n0_ n1_ n2_ n3_ n4_ n5_; clear hb ho13; obtain ⟨Ao14, co14, eo14⟩ := Kd.R_slice HO478.out; subst eo14) | ((with_reducible refine gate_callee (f := 51) rfl ?_); refine goesL_ (some 10) rfl rfl Try.func51 (by kernel_rfl) rfl #[.pointer (some ⟨g, 0, none⟩), .slice Ao14 y476.length co14] rfl ar_ ?_; (with_reducible refine (spec_l1Cur_among.calls g s0_0 t474 t475 _ _ y476 t479 t480 t481 w0 _ ?side1 ?side2 ?side3 ?side4 ?side5 A5.out).mono ?_); (case side1 => repeat (first | (with_reducible first | exact HI0.out | apply IsS47.alloc | apply IsS47.drewN | apply IsS47.drew | apply IsS47.set_1 | apply IsS47.set_2 | refine IsS47.far ?_ NB0_466.out _) | exact HI0.out)); (case side2 => repeat (first | (with_reducible first | exact HB.out | apply bA | apply bN | apply bD | refine below_set ?_ (IsS47.ge HI0.out) | refine below_set ?_ GE466.out) | exact HB.out)); (case side3 => repeat (first | exact (Kd.R_reads' HO478.out).2.2 | (with_reducible refine Kd.C_alloc ?_ _) | (with_reducible refine Kd.C_drewN ?_ _) | (with_reducible refine Kd.C_drew ?_))); (case side4 => exact (Kd.R_reads' HO478.out).2.1); (case side5 => exact far_slice (IsS47.own_ne HI0.out HO478.out (by decide))); rintro e w15 ⟨rfl, hi, hb, hk⟩; refine ⟨_, rfl, ?_⟩; have n0_ := Aside0.mk (KeepBut.blk hk (g' := gb466) (o := .cells #[.int .i64 0, .int .i64 0] 37 (0, 0)) (kx_ BK466.out) NB466_0.out (by simp)); have n1_ := Aside0.mk (Kd.R_mono (Kd.R_keep (IsS47.apart (show IsS47 w0 _ g s0_0 t474 t475 from by repeat (first | (with_reducible first | exact HI0.out | apply IsS47.alloc | apply IsS47.drewN | apply IsS47.drew | apply IsS47.set_1 | apply IsS47.set_2 | refine IsS47.far ?_ NB0_466.out _) | exact HI0.out)) (ra_ HO472.out) (by decide)) hk (fun _ h => h.2)) (fun _ h => h.1)); have n2_ := Aside0.mk (Kd.R_mono (Kd.R_keep (IsS47.apart (show IsS47 w0 _ g s0_0 t474 t475 from by repeat (first | (with_reducible first | exact HI0.out | apply IsS47.alloc | apply IsS47.drewN | apply IsS47.drew | apply IsS47.set_1 | apply IsS47.set_2 | refine IsS47.far ?_ NB0_466.out _) | exact HI0.out)) (ra_ HO478.out) (by decide)) hk (fun _ h => h.2)) (fun _ h => h.1)); have n3_ := Aside0.mk (KeepBut.trans (by repeat (first | (with_reducible first | exact HK.out | apply KeepBut.set_ | apply keep_drewN | apply keep_drew | apply keep_alloc | refine keep_far ?_ GW466.out _) | exact HK.out)) hk (.inl rfl)); have n4_ := Aside0.mk (hb); have n5_ := Aside0.mk (hi); clear BK466; clear HO472; clear HO478; clear HK; clear HB; clear HI0; have BK466 := n0_; have HO472 := n1_; have HO478 := n2_; have HK := n3_; have HB := n4_; have HI0 := n5_; clear n0_ n1_ n2_ n3_ n4_ n5_; (try clear hb); (try clear hb2); (try clear hk); (try clear hi); have hnb16 := NB466_0.out; have hnc16 := NB0_466.out; have hcz17_0 : w15.cell? ⟨gb466, 0, none⟩ = some (.int .i64 0) := bc_ BK466 0; have hcz17_1 : w15.cell? ⟨gb466, 1, none⟩ = some (.int .i64 0) := bc_ BK466 1; have hfz17_0 := blk_frozen BK466.out 0; have hfz17_1 := blk_frozen BK466.out 1))
  refine bodyPost_ret (results_cell_row rfl _ _ gb466 37 #[.int .i64 t473, .int .i64 t479] (0, 0) _ rfl (by (with_reducible repeat (first | refine kN ?_ _ | refine kD ?_ | refine kA ?_ _)); refine blk_put (cs := #[.int .i64 t473, .int .i64 0]) ?_ 1 _ rfl; (with_reducible repeat (first | refine kN ?_ _ | refine kD ?_ | refine kA ?_ _)); refine blk_put (cs := #[.int .i64 0, .int .i64 0]) ?_ 0 _ rfl; (with_reducible repeat (first | refine kN ?_ _ | refine kD ?_ | refine kA ?_ _)); exact BK466.out) Try.underlying37 rfl (by kernel_rfl)) rfl ?_
  exact ⟨by first | rfl | (simp [errW_none, errW_some] <;> rfl) | (simp [*, errW_none, errW_some] <;> rfl), by repeat (first | (with_reducible first | exact HI0.out | apply IsS47.alloc | apply IsS47.drewN | apply IsS47.drew | apply IsS47.set_1 | apply IsS47.set_2 | refine IsS47.far ?_ NB0_466.out _) | exact HI0.out), by repeat (first | (with_reducible first | exact HB.out | apply bA | apply bN | apply bD | refine below_set ?_ (IsS47.ge HI0.out) | refine below_set ?_ GE466.out) | exact HB.out), by repeat (first | (with_reducible first | exact HK.out | apply KeepBut.set_ | apply keep_drewN | apply keep_drew | apply keep_alloc | refine keep_far ?_ GW466.out _) | exact HK.out)⟩
 ·replace c3 := Bool.eq_false_iff.mpr c3
  subst c3
  have H1 : ((spec_l1Cur_sureStar.f s0_0 t468 t469).bind fun bt482 => (some (bt482.1, bt482.2.1, bt482.2.2.1, bt482.2.2.2))) = some (r1, r2, r3, r4) := by rw [if_neg (show ¬ (false = true) by decide)] at H; exact H
  clear H
  have H := H1
  clear H1
  replace H := bI H
  obtain ⟨⟨t482, t483, t484, t485⟩, A180, H⟩ := H
  replace H : (some (t482, t483, t484, t485)) = some (r1, r2, r3, r4) := H
  have A18 := Aside0.mk A180
  clear A180
  simp only [Option.some.injEq, Prod.mk.injEq] at H
  obtain ⟨rfl, rfl, rfl, rfl⟩ := H
  go_enter Try.func44, Try.ntmps44
  go_wp2_with (first | ((with_reducible refine gate_dst (N := 2) rfl ?_); refine box_event ?hg (N := 2) ?hd (cs := #[.int .i64 0, .int .i64 0]) (t := 37) ?hr ?_; (case hd => rfl); (case hg => rfl); (case hr => first | (go_simp; done) | (go_simp; rfl)); intro gb466 hg w19 hbox hb; have n0_ := Aside0.mk (IsS47.below (by repeat (first | (with_reducible first | exact HI0.out | apply IsS47.alloc | apply IsS47.drewN | apply IsS47.drew | apply IsS47.set_1 | apply IsS47.set_2) | exact HI0.out)) hb); have n1_ := Aside0.mk (KeepBut.trans (by repeat (first | (with_reducible first | exact HK.out | apply KeepBut.set_ | apply keep_drewN | apply keep_drew | apply keep_alloc) | exact HK.out)) (KeepBut.of_below hb g none) (.inl rfl)); have n2_ := Aside0.mk (below_step (by repeat (first | (with_reducible first | exact HB.out | apply bA | apply bN | apply bD | refine below_set ?_ (IsS47.ge HI0.out)) | exact HB.out)) hb); have n3_ := Aside0.mk (hbox); have n4_ := Aside0.mk ((by rw [hg]; exact (keep_size (w := w) (g := g) (row := none) (by repeat (first | (with_reducible first | exact HK.out | apply KeepBut.set_ | apply keep_drewN | apply keep_drew | apply keep_alloc) | exact HK.out))) : w.heap.size ≤ gb466)); have n5_ := Aside0.mk ((Nat.le_trans HW0.out (by rw [hg]; exact (keep_size (w := w) (g := g) (row := none) (by repeat (first | (with_reducible first | exact HK.out | apply KeepBut.set_ | apply keep_drewN | apply keep_drew | apply keep_alloc) | exact HK.out))) : w.heap.size ≤ gb466) : w0.heap.size ≤ gb466)); have n6_ := Aside0.mk ((by rw [hg]; exact Nat.ne_of_lt (IsS47.lt (show IsS47 w0 _ g s0_0 s0_1 s0_2 from by repeat (first | (with_reducible first | exact HI0.out | apply IsS47.alloc | apply IsS47.drewN | apply IsS47.drew | apply IsS47.set_1 | apply IsS47.set_2) | exact HI0.out))) : g ≠ gb466)); have n7_ := Aside0.mk ((by rw [hg]; exact Nat.ne_of_gt (IsS47.lt (show IsS47 w0 _ g s0_0 s0_1 s0_2 from by repeat (first | (with_reducible first | exact HI0.out | apply IsS47.alloc | apply IsS47.drewN | apply IsS47.drew | apply IsS47.set_1 | apply IsS47.set_2) | exact HI0.out))) : gb466 ≠ g)); clear HI0; clear HK; clear HB; have HI0 := n0_; have HK := n1_; have HB := n2_; have BK466 := n3_; have GW466 := n4_; have GE466 := n5_; have NB0_466 := n6_; have NB466_0 := n7_; clear n0_ n1_ n2_ n3_ n4_ n5_ n6_ n7_; clear hb hbox hg) | ((with_reducible refine gate_callee (f := 68) rfl ?_); refine goesL_ (some 4) rfl rfl Try.func68 (by kernel_rfl) rfl #[.pointer (some ⟨g, 0, none⟩), .int .i64 12] rfl ar_ ?_; (with_reducible refine (spec_l1Cur_one.calls g s0_0 s0_1 s0_2 12 false t468 t469 w0 _ ?side1 ?side2 A2.out).mono ?_); (case side1 => repeat (first | (with_reducible first | exact HI0.out | apply IsS47.alloc | apply IsS47.drewN | apply IsS47.drew | apply IsS47.set_1 | apply IsS47.set_2 | refine IsS47.far ?_ NB0_466.out _) | exact HI0.out)); (case side2 => repeat (first | (with_reducible first | exact HB.out | apply bA | apply bN | apply bD | refine below_set ?_ (IsS47.ge HI0.out) | refine below_set ?_ GE466.out) | exact HB.out)); rintro e w20 ⟨rfl, hi, hb, hk⟩; refine ⟨_, rfl, ?_⟩; have n0_ := Aside0.mk (KeepBut.blk hk (g' := gb466) (o := .cells #[.int .i64 0, .int .i64 0] 37 (0, 0)) (kx_ BK466.out) NB466_0.out (by simp)); have n1_ := Aside0.mk (KeepBut.trans (by repeat (first | (with_reducible first | exact HK.out | apply KeepBut.set_ | apply keep_drewN | apply keep_drew | apply keep_alloc | refine keep_far ?_ GW466.out _) | exact HK.out)) hk (.inl rfl)); have n2_ := Aside0.mk (hb); have n3_ := Aside0.mk (hi); clear BK466; clear HK; clear HB; clear HI0; have BK466 := n0_; have HK := n1_; have HB := n2_; have HI0 := n3_; clear n0_ n1_ n2_ n3_; (try clear hb); (try clear hb2); (try clear hk); (try clear hi)) | ((with_reducible refine gate_callee (f := 54) rfl ?_); refine goesL_ (some 13) rfl rfl Try.func54 (by kernel_rfl) rfl #[.pointer (some ⟨g, 0, none⟩)] rfl ar_ ?_; (with_reducible refine (spec_l1Cur_sureStar.calls g s0_0 t468 t469 t482 t483 t484 t485 w0 _ ?side1 ?side2 A18.out).mono ?_); (case side1 => repeat (first | (with_reducible first | exact HI0.out | apply IsS47.alloc | apply IsS47.drewN | apply IsS47.drew | apply IsS47.set_1 | apply IsS47.set_2 | refine IsS47.far ?_ NB0_466.out _) | exact HI0.out)); (case side2 => repeat (first | (with_reducible first | exact HB.out | apply bA | apply bN | apply bD | refine below_set ?_ (IsS47.ge HI0.out) | refine below_set ?_ GE466.out) | exact HB.out)); rintro e w21 ⟨rfl, hi, hb, hk⟩; refine ⟨_, rfl, ?_⟩; have n0_ := Aside0.mk (KeepBut.blk hk (g' := gb466) (o := .cells #[.int .i64 0, .int .i64 0] 37 (0, 0)) (kx_ BK466.out) NB466_0.out (by simp)); have n1_ := Aside0.mk (KeepBut.trans (by repeat (first | (with_reducible first | exact HK.out | apply KeepBut.set_ | apply keep_drewN | apply keep_drew | apply keep_alloc | refine keep_far ?_ GW466.out _) | exact HK.out)) hk (.inl rfl)); have n2_ := Aside0.mk (hb); have n3_ := Aside0.mk (hi); clear BK466; clear HK; clear HB; clear HI0; have BK466 := n0_; have HK := n1_; have HB := n2_; have HI0 := n3_; clear n0_ n1_ n2_ n3_; (try clear hb); (try clear hb2); (try clear hk); (try clear hi); have hnb22 := NB466_0.out; have hnc22 := NB0_466.out; have hcz23_0 : w21.cell? ⟨gb466, 0, none⟩ = some (.int .i64 0) := bc_ BK466 0; have hcz23_1 : w21.cell? ⟨gb466, 1, none⟩ = some (.int .i64 0) := bc_ BK466 1; have hfz23_0 := blk_frozen BK466.out 0; have hfz23_1 := blk_frozen BK466.out 1))
  refine bodyPost_ret (results_cell_row rfl _ _ gb466 37 #[.int .i64 t482, .int .i64 t483] (0, 0) _ rfl (by (with_reducible repeat (first | refine kN ?_ _ | refine kD ?_ | refine kA ?_ _)); refine blk_put (cs := #[.int .i64 t482, .int .i64 0]) ?_ 1 _ rfl; (with_reducible repeat (first | refine kN ?_ _ | refine kD ?_ | refine kA ?_ _)); refine blk_put (cs := #[.int .i64 0, .int .i64 0]) ?_ 0 _ rfl; (with_reducible repeat (first | refine kN ?_ _ | refine kD ?_ | refine kA ?_ _)); exact BK466.out) Try.underlying37 rfl (by kernel_rfl)) rfl ?_
  exact ⟨by first | rfl | (simp [errW_none, errW_some] <;> rfl) | (simp [*, errW_none, errW_some] <;> rfl), by repeat (first | (with_reducible first | exact HI0.out | apply IsS47.alloc | apply IsS47.drewN | apply IsS47.drew | apply IsS47.set_1 | apply IsS47.set_2 | refine IsS47.far ?_ NB0_466.out _) | exact HI0.out), by repeat (first | (with_reducible first | exact HB.out | apply bA | apply bN | apply bD | refine below_set ?_ (IsS47.ge HI0.out) | refine below_set ?_ GE466.out) | exact HB.out), by repeat (first | (with_reducible first | exact HK.out | apply KeepBut.set_ | apply keep_drewN | apply keep_drew | apply keep_alloc | refine keep_far ?_ GW466.out _) | exact HK.out)⟩
end Go.Proofs.Ytdjbdpgdhpobfaa.Pr
/- What the reference's DrawRegionsOfStar computes. -/
namespace Go.Proofs.Ytdjbdpgdhpobfaa.Pr
open Go.RowKit Go.Proofs.YtdjbdpgdhpobfaaW.PrintWords Go.Proofs.YtdjbdpgdhpobfaaW.PrintLast Go.Proofs.YtdjbdpgdhpobfaaW.PrintMore
def spec_DrawRegionsOfStar.f (l0 : List Int) : Option (Int × Int) :=
  (spec_l1Cur_star.f l0 0 0).bind fun p => some (p.1, p.2.1)
set_option maxHeartbeats 2000000 in
set_option maxRecDepth 100000 in
theorem spec_DrawRegionsOfStar.calls (A0 : Option Addr) (c0 : Nat) (l0 : List Int) (r1 : Int) (r2 : Int) (w : World) (hr0 : Kd.C (Kd.int .u8) w A0 l0.length l0) (hc0 : l0.length ≤ c0) (h : spec_DrawRegionsOfStar.f l0 = some (r1, r2)) :
    Calls Try.prog 19 #[.slice A0 l0.length c0] w fun e w' => e = .returned (.agg #[.int .i64 r1, .int .i64 r2]) ∧ Below w.heap.size w w' := by
  obtain ⟨⟨p1, p2, p3, p4⟩, hp, h⟩ := bI h
  injection h with h
  injection h with e1 e2
  subst e1 e2
  have hu := Try.underlying47
  have hu2 := Try.underlying37
  have HR := Aside0.mk hr0
  have HP := Aside0.mk (fun (w0 : World) (g : Nat) (W : World) (hI : IsS47 w0 W g l0 0 0) (hB : Below w0.heap.size w0 W) => spec_l1Cur_star.calls g l0 0 0 p1 p2 p3 p4 w0 W hI hB hp)
  clear hr0 hp
  go_enter Try.func19, Try.ntmps19
  have hI : IsS47 w ((w.alloc (.cells #[.int .i64 0, .int .i64 0] 37)).alloc (.cells #[.slice A0 l0.length c0, .int .i64 0, .int .u64 0] 47)) (w.heap.size + 1) l0 0 0 := by
    refine ⟨A0, c0, ?_, by omega, HR.out⟩
    have h := heap_alloc_new (w.alloc (.cells #[.int .i64 0, .int .i64 0] 37)) (.cells #[.slice A0 l0.length c0, .int .i64 0, .int .u64 0] 47)
    rwa [show (w.alloc (.cells #[.int .i64 0, .int .i64 0] 37)).heap.size = w.heap.size + 1 by simp] at h
  have hB : Below w.heap.size w ((w.alloc (.cells #[.int .i64 0, .int .i64 0] 37)).alloc (.cells #[.slice A0 l0.length c0, .int .i64 0, .int .u64 0] 47)) := below_alloc (below_alloc (Below.refl _ _) _) _
  have hS : ((w.alloc (.cells #[.int .i64 0, .int .i64 0] 37)).alloc (.cells #[.slice A0 l0.length c0, .int .i64 0, .int .u64 0] 47)).heap[w.heap.size]? = some (.cells #[.int .i64 0, .int .i64 0] 37 (0, 0)) :=
    blk_alloc (heap_alloc_new w (.cells #[.int .i64 0, .int .i64 0] 37)) _
  have HI := Aside0.mk hI
  have HB := Aside0.mk hB
  have HS := Aside0.mk hS
  clear hI hB hS
  go_wp2_with (go_at_call 44; refine (HP.out w _ _ HI.out HB.out).mono ?_; rintro e w1 ⟨rfl, hi1, hb1, hk1⟩; have hs1 := hk1.blk HS.out (by omega) (by simp); obtain ⟨x0, x1, x2, x3⟩ := blk_two hs1; have HB1 := Aside0.mk hb1; have HS1 := Aside0.mk hs1; clear HP hi1 hb1 hk1 HI HB HS hs1)
  refine bodyPost_ret (results_cell_row rfl _ _ w.heap.size 37 #[.int .i64 p1, .int .i64 p2] (0, 0) _ rfl (blk_put (cs := #[.int .i64 p1, .int .i64 0]) (blk_put (cs := #[.int .i64 0, .int .i64 0]) HS1.out 0 _ rfl) 1 _ rfl) Try.underlying37 rfl (by kernel_rfl)) rfl ?_
  exact ⟨by first | rfl | (simp; done), below_set (below_set HB1.out (Nat.le_refl _)) (Nat.le_refl _)⟩
end Go.Proofs.Ytdjbdpgdhpobfaa.Pr
namespace Go.Proofs.Ytdjbdpgdhpobfaa.Pr
open Go.RowKit Go.Proofs.YtdjbdpgdhpobfaaW.PrintWords Go.Proofs.YtdjbdpgdhpobfaaW.PrintLast Go.Proofs.YtdjbdpgdhpobfaaW.PrintMore
attribute [local go_sem] max2_int min2_int max_two min_two max_three min_three max_four min_four
def laws_big.f (l0 : List Int) (l1 : List Int) : Option (Bool) := if (l0.length : Int) > 1048576 then (some true) else (some (decide ((l1.length : Int) > (wrap64 (1048576 - (l0.length : Int))))))
set_option maxHeartbeats 8000000 in
set_option maxRecDepth 100000 in
theorem laws_big.calls (A0 : Option Addr) (c0 : Nat) (l0 : List Int) (A1 : Option Addr) (c1 : Nat) (l1 : List Int) (r : Bool) (w : World) (hr0 : Kd.C (Kd.int .u8) w A0 l0.length l0) (hc0 : l0.length ≤ c0) (hr1 : Kd.C (Kd.int .u8) w A1 l1.length l1) (hc1 : l1.length ≤ c1) (h : laws_big.f l0 l1 = some r) :
  Calls Try.prog 4 #[.slice A0 l0.length c0, .slice A1 l1.length c1] w fun e w' => e = .returned (.bool r) ∧ Drawn0 w w' := by
 have HR0 := Aside0.mk hr0
 have HC0 := Aside0.mk hc0
 clear hr0 hc0
 have HR1 := Aside0.mk hr1
 have HC1 := Aside0.mk hc1
 clear hr1 hc1
 have H : (if (l0.length : Int) > 1048576 then (some true) else (some (decide ((l1.length : Int) > (wrap64 (1048576 - (l0.length : Int))))))) = some r := h
 clear h
 by_cases c3 : (l0.length : Int) > 1048576
 ·rw [if_pos c3] at H
  have c3b0 : decide (1048576 < (l0.length : Int)) = true := decide_eq_true c3
  have c3b1 : decide (1048576 < l0.length) = true := decide_eq_true (by omega)
  clear c3
  obtain rfl := oI H
  go_enter Try.func4, Try.ntmps4
  go_wp2
  go_ret
  exact ⟨by first | rfl | (simp; done) | (simp [*]; done), by repeat (first | exact Drawn0.refl _ | apply Drawn0.step)⟩
 ·rw [if_neg c3] at H
  have c3b0 : decide (1048576 < (l0.length : Int)) = false := decide_eq_false c3
  have c3b1 : decide (1048576 < l0.length) = false := decide_eq_false (by omega)
  clear c3
  obtain rfl := oI H
  go_enter Try.func4, Try.ntmps4
  go_wp2
  go_ret
  exact ⟨by first | rfl | (simp; done) | (simp [*]; done), by repeat (first | exact Drawn0.refl _ | apply Drawn0.step)⟩
end Go.Proofs.Ytdjbdpgdhpobfaa.Pr
/- What the law of regions in parts computes: true, where each test holds. -/
namespace Go.Proofs.Ytdjbdpgdhpobfaa.Pr
open Go.RowKit Go.Proofs.YtdjbdpgdhpobfaaW.PrintWords Go.Proofs.YtdjbdpgdhpobfaaW.PrintLast Go.Proofs.YtdjbdpgdhpobfaaW.PrintMore
/-- The pieces of all chords, added up. -/
def rpL (k : Nat) (n : Int) (xs : List S60) : Nat → Int → Int → Option Int
  | 0, _, s => some s
  | d + 1, c, s => (impl_PiecesOfChord.f k n xs c).bind fun v => if v.2 = true ∧ ¬ v.1 < 1 then rpL k n xs d (c + 1) (wrap64 (s + v.1)) else none
def rpI (k : Nat) (n : Int) (xs : List S60) (i j : Int) (a : Int × Bool) (s : ByteArray) : Option Unit :=
  if a.2 = true then (impl_ArcsParted.f k n xs j i).bind fun b => if b = a ∧ (¬ a.1 < 0 ∧ ¬ a.1 > (xs.length : Int)) ∧ (i = j → a.1 = 0) ∧ (0 ≤ i ∧ i < (s.size : Int)) ∧ (0 ≤ j ∧ j < (s.size : Int)) ∧ ((Int.tmod a.1 2 == 0) != (bt s i == bt s j)) = false then some () else none
  else some ()
def rpOne (k : Nat) (n : Int) (xs : List S60) (g c : Int) (s : ByteArray) : Option Unit :=
  (impl_CountPairsCrossing.f k n xs).bind fun x => if x.2 = true ∧ g = wrap64 (wrap64 (1 + (xs.length : Int)) + x.1) ∧ c = wrap64 ((xs.length : Int) + wrap64 (2 * x.1)) ∧ (s.size : Int) = n ∧ 0 < s.size ∧ bt s 0 = 108 ∧ xs.length < 1000000 then
    (rpL k n xs xs.length 0 0).bind fun t => if t = c then some () else none else none
def rpA (k : Nat) (n : Int) (xs : List S60) (i j : Int) : Option Unit :=
  (impl_ArcsParted.f k n xs i j).bind fun a => (spec_ArcsParted.f k n xs i j).bind fun a' => (impl_RegionsOf.f k n xs).bind fun g => (spec_RegionsOf.f k n xs).bind fun g' =>
  (impl_CountPieces.f k n xs).bind fun c => (spec_CountPieces.f k n xs).bind fun c' => (impl_ShadesOfArcs.f k n xs).bind fun s => (spec_ShadesOfArcs.f k n xs).bind fun s' => (impl_AreChords.f k n xs).bind fun t =>
  if a' = a ∧ g' = g ∧ c' = c ∧ s' = s ∧ g.2 = t ∧ c.2 = t ∧ s.2 = t ∧ (a.2 = true → t = true) then
    (if t = true then rpOne k n xs g.1 c.1 s.1 else some ()).bind fun _ => rpI k n xs i j a s.1
  else none
def rpM (p : Int) (m : Int × Bool) : Option Unit := if m.2 = true ∧ p > 3 then (impl_MostRegions.f (wrap64 (p - 1))).bind fun z => if z.2 = true ∧ z.1 < m.1 then some () else none else some ()
def rpS (k : Nat) (n s : Int) (g : Int × Bool) : Option Unit := if g.2 = true then (impl_ChordsOf.f k n s).bind fun c => (impl_CountCrossings.f k n s).bind fun x =>
    if c.2 = true ∧ x.2 = true ∧ g.1 = wrap64 (wrap64 (1 + (c.1.length : Int)) + x.1) then (if n ≤ 20 then (impl_MostRegions.f n).bind fun y => if y.2 = true ∧ ¬ g.1 > y.1 then some () else none else some ()) else none else some ()
def rpB (k : Nat) (l1 : List Int) : Option Unit :=
  (spec_DrawPiecesOfChord.f k l1).bind fun e => (impl_PiecesOfChord.f k e.1 e.2.1 e.2.2).bind fun a => (spec_PiecesOfChord.f k e.1 e.2.1 e.2.2).bind fun a' => (spec_DrawRegionsOfStar.f l1).bind fun s =>
  (impl_RegionsOfStar.f k s.1 s.2).bind fun g => (spec_RegionsOfStar.f k s.1 s.2).bind fun g' => (spec_DrawMostRegions.f l1).bind fun p => (impl_MostRegions.f p).bind fun m => (spec_MostRegions.f p).bind fun m' =>
  if a' = a ∧ g' = g ∧ m' = m then (rpS k s.1 s.2 g).bind fun _ => rpM p m else none
def laws_FnRegionsPart.f (k : Nat) (l0 : List Int) (l1 : List Int) : Option (Bool) := (laws_big.f l0 l1).bind fun t => if t = true then some true else
  (spec_DrawArcsParted.f k l0).bind fun d => (rpA k d.1 d.2.1 d.2.2.1 d.2.2.2).bind fun _ => (rpB k l1).bind fun _ => some true
/-- A world behind the call's begin, with the chords that were drawn. -/
structure RX (w W : World) (A : Option Addr) (c : Nat) (xs : List S60) : Prop where
  b : Below w.heap.size w W
  r : Kd.R k60 60 W w.heap.size (fun _ => True) (.slice A xs.length c) xs
theorem RX.go {w W W' : World} {A : Option Addr} {c : Nat} {xs : List S60} (h : RX w W A c xs) (hb : Below W.heap.size W W') : RX w W' A c xs := ⟨below_step h.b hb, Kd.R_below h.r hb⟩
theorem RX.rd {w W : World} {A : Option Addr} {c : Nat} {xs : List S60} (h : RX w W A c xs) : Kd.C k60 W A xs.length xs := (Kd.R_reads' h.r).2.2
theorem RX.cap {w W : World} {A : Option Addr} {c : Nat} {xs : List S60} (h : RX w W A c xs) : xs.length ≤ c := (Kd.R_reads' h.r).2.1
theorem drawn_below {W w' : World} (h : Drawn0 W w') : Below W.heap.size W w' := by obtain ⟨n, rfl⟩ := h.out; exact pw_below_drewN (Below.refl _ _) n
theorem calls_drawn {f : Nat} {vs : Array Value} {W : World} {v : Value} (h : Calls Try.prog f vs W fun e w' => e = .returned v ∧ Drawn0 W w') : Calls Try.prog f vs W fun e w' => e = .returned v ∧ Below W.heap.size W w' :=
  h.mono fun _ _ h => ⟨h.1, drawn_below h.2⟩
theorem opt_if {c : Prop} [Decidable c] {α : Type} {x : Option α} {r : α} (h : (if c then x else none) = some r) : c ∧ x = some r := by
  split at h
  · exact ⟨by assumption, h⟩
  · cases h
/-- A world behind the call's begin, with a star in a block. -/
structure RY (w W : World) (g : Nat) (a b : Int) : Prop where
  bl : Below w.heap.size w W
  c : W.heap[g]? = some (.cells #[.int .i64 a, .int .i64 b] 37 (0, 0))
theorem RY.go {w W W' : World} {g : Nat} {a b : Int} (h : RY w W g a b) (hb : Below W.heap.size W W') : RY w W' g a b := ⟨below_step h.bl hb, blk_below h.c hb⟩
theorem ry_new {w W : World} (h : Below w.heap.size w W) (a b : Int) : RY w (W.alloc (.cells #[.int .i64 a, .int .i64 b] 37)) W.heap.size a b := ⟨below_alloc h _, heap_alloc_new W _⟩
theorem same_bools {a b : Bool} (h : (a != b) = false) : (a = true ∧ b = true) ∨ (a = false ∧ b = false) := by cases a <;> cases b <;> simp_all
theorem eq_bools (i j p : Int) (h : i = j → p = 0) : ((i == j) = true ∧ (p != 0) = false) ∨ (i == j) = false := by
  by_cases e : i = j
  · exact .inl ⟨beq_iff_eq.2 e, by rw [h e]; rfl⟩
  · exact .inr (beq_eq_false_iff_ne.2 e)
theorem flags3 {sb ok : Bool} (h : ok = true → sb = true) : (sb = true ∧ ok = true) ∨ (sb = true ∧ ok = false) ∨ (sb = false ∧ ok = false) := by
  cases sb <;> cases ok <;> simp_all
set_option maxHeartbeats 4000000 in
set_option maxRecDepth 100000 in
theorem laws_FnRegionsPart.calls (k : Nat) (A0 : Option Addr) (c0 : Nat) (l0 : List Int) (A1 : Option Addr) (c1 : Nat) (l1 : List Int) (r : Bool) (w : World) (hr0 : Kd.C (Kd.int .u8) w A0 l0.length l0) (hc0 : l0.length ≤ c0) (hr1 : Kd.C (Kd.int .u8) w A1 l1.length l1) (hc1 : l1.length ≤ c1) (h : laws_FnRegionsPart.f k l0 l1 = some r) :
    Calls Try.prog 3 #[.slice A0 l0.length c0, .slice A1 l1.length c1] w fun e w' => e = .returned (.bool r) ∧ Below w.heap.size w w' := by
  replace h := bI h; obtain ⟨t, ht, h⟩ := h
  have HBig := Aside0.mk (calls_drawn (laws_big.calls A0 c0 l0 A1 c1 l1 t w hr0 hc0 hr1 hc1 ht))
  clear ht
  have hu := Try.underlying37
  cases t with
  | true =>
    obtain rfl := oI h
    clear h hr0 hr1
    go_enter Try.func3, Try.ntmps3
    go_wp2_with (go_at_call 4; refine HBig.out.mono ?_; rintro e w1 ⟨rfl, hb1⟩)
    go_ret
    exact ⟨rfl, hb1⟩
  | false =>
    rw [if_neg (by decide)] at h
    replace h := bI h; obtain ⟨⟨n, xs, i, j⟩, hd, h⟩ := h
    replace h := bI h; obtain ⟨_, hA, h⟩ := h
    replace h := bI h; obtain ⟨_, hB, h⟩ := h
    obtain rfl := oI h
    clear h
    have HR0 := Aside0.mk hr0
    have HR1 := Aside0.mk hr1
    have HD := Aside0.mk (fun (W : World) (hW : Below w.heap.size w W) => spec_DrawArcsParted.calls k A0 c0 l0 n xs i j W (Kd.C_below hr0 hW) hc0 hd)
    have HPB := Aside0.mk hB
    clear hr0 hr1 hd hB
    dsimp only at hA
    unfold rpA at hA
    replace hA := bI hA; obtain ⟨⟨pt, ok⟩, hA1, hA⟩ := hA
    replace hA := bI hA; obtain ⟨a', hA2, hA⟩ := hA
    replace hA := bI hA; obtain ⟨⟨rg, one⟩, hG1, hA⟩ := hA
    replace hA := bI hA; obtain ⟨g', hG2, hA⟩ := hA
    replace hA := bI hA; obtain ⟨⟨pc, pb⟩, hP1, hA⟩ := hA
    replace hA := bI hA; obtain ⟨c', hP2, hA⟩ := hA
    replace hA := bI hA; obtain ⟨⟨sh, sb⟩, hS1, hA⟩ := hA
    replace hA := bI hA; obtain ⟨s', hS2, hA⟩ := hA
    replace hA := bI hA; obtain ⟨t, hT, hA⟩ := hA
    have hq := opt_if hA
    clear hA
    obtain ⟨⟨q1, q2, q3, q4, e5, e6, e7, e8⟩, hA⟩ := hq
    simp only at e5 e6 e7 e8 hA
    subst q1 q2 q3 q4 e5 e6 e7
    obtain ⟨_, hOne, hI⟩ := bI hA
    clear hA
    have CA1 := Aside0.mk (fun (W : World) (A : Option Addr) (c : Nat) (hW : RX w W A c xs) => impl_ArcsParted.calls k n A c xs i j _ _ W hW.rd hW.cap hA1)
    have CA2 := Aside0.mk (fun (W : World) (A : Option Addr) (c : Nat) (hW : RX w W A c xs) => spec_ArcsParted.calls k n A c xs i j _ _ W hW.rd hW.cap hA2)
    have CG1 := Aside0.mk (fun (W : World) (A : Option Addr) (c : Nat) (hW : RX w W A c xs) => impl_RegionsOf.calls k n A c xs _ _ W hW.rd hW.cap hG1)
    have CG2 := Aside0.mk (fun (W : World) (A : Option Addr) (c : Nat) (hW : RX w W A c xs) => spec_RegionsOf.calls k n A c xs _ _ W hW.rd hW.cap hG2)
    have CP1 := Aside0.mk (fun (W : World) (A : Option Addr) (c : Nat) (hW : RX w W A c xs) => impl_CountPieces.calls k n A c xs _ _ W hW.rd hW.cap hP1)
    have CP2 := Aside0.mk (fun (W : World) (A : Option Addr) (c : Nat) (hW : RX w W A c xs) => spec_CountPieces.calls k n A c xs _ _ W hW.rd hW.cap hP2)
    have CS1 := Aside0.mk (fun (W : World) (A : Option Addr) (c : Nat) (hW : RX w W A c xs) => impl_ShadesOfArcs.calls k n A c xs _ _ W hW.rd hW.cap hS1)
    have CS2 := Aside0.mk (fun (W : World) (A : Option Addr) (c : Nat) (hW : RX w W A c xs) => spec_ShadesOfArcs.calls k n A c xs _ _ W hW.rd hW.cap hS2)
    have CT := Aside0.mk (fun (W : World) (A : Option Addr) (c : Nat) (hW : RX w W A c xs) => impl_AreChords.calls k n A c xs _ W hW.rd hW.cap hT)
    clear hA1 hA2 hG1 hG2 hP1 hP2 hS1 hS2 hT
    have HOne := Aside0.mk hOne
    have HII := Aside0.mk hI
    have HOk := Aside0.mk e8
    clear hOne hI e8
    go_enter Try.func3, Try.ntmps3
    go_upto_region 12 with (first | (go_at_call 4; refine HBig.out.mono ?_; rintro e w1 ⟨rfl, hb1⟩; have HB1 := Aside0.mk hb1; clear hb1 HBig) | (go_at_call 5; refine (HD.out _ HB1.out).mono ?_; rintro e w2 ⟨v2, rfl, hr2, hb2⟩; obtain ⟨Av, cv, ev⟩ := Kd.R_slice hr2; subst ev; have HI := Aside0.mk (RX.mk (below_step HB1.out hb2) (Kd.R_lower hr2 HB1.out.size)); clear HB1 HD hr2 hb2) | ((first | (go_at_call 6; refine (CA1.out _ _ _ HI.out).mono ?_; clear CA1) | (go_at_call 7; refine (CA2.out _ _ _ HI.out).mono ?_; clear CA2) | (go_at_call 8; refine (CG1.out _ _ _ HI.out).mono ?_; clear CG1) | (go_at_call 9; refine (CG2.out _ _ _ HI.out).mono ?_; clear CG2) | (go_at_call 10; refine (CP1.out _ _ _ HI.out).mono ?_; clear CP1) | (go_at_call 11; refine (CP2.out _ _ _ HI.out).mono ?_; clear CP2) | (go_at_call 12; refine (CS1.out _ _ _ HI.out).mono ?_; clear CS1) | (go_at_call 13; refine (CS2.out _ _ _ HI.out).mono ?_; clear CS2)); rintro e wx ⟨rfl, hbx⟩; have HI2 := Aside0.mk (HI.out.go hbx); clear HI hbx; have HI := HI2; clear HI2))
    go_cut [181] from 181 to 181 (fun v181 wc => v181 = .bool false ∧ Aside0 (RX w wc Av cv xs))
    case first =>
      clear HOne HII HPB HR1
      rcases flags3 HOk.out with ⟨rfl, rfl⟩ | ⟨rfl, rfl⟩ | ⟨rfl, rfl⟩
      all_goals
        go_wp2_with (go_at_call 14; refine (CT.out _ _ _ HI.out).mono ?_; clear CT; rintro e wx ⟨rfl, hbx⟩; have HI2 := Aside0.mk (HI.out.go hbx); clear HI hbx; have HI := HI2; clear HI2)
        go_meet
        case rel => exact ⟨rfl, HI⟩
    case rest =>
    obtain ⟨rfl, HI3⟩ := hcut
    clear HI CT
    have HI := HI3
    clear HI3
    go_upto_if 182 with (fail)
    go_cut [] from 182 to 182 (fun wc => Aside0 (RX w wc Av cv xs))
    case first =>
      cases sb with
      | false =>
        clear HOne HII HPB HR1
        go_wp2_with fail
        go_meet
        case rel => exact HI
      | true =>
        have hq := HOne.out
        rw [if_pos rfl] at hq
        unfold rpOne at hq
        replace hq := bI hq; obtain ⟨⟨x, xb⟩, hX, hq⟩ := hq
        replace hq := opt_if hq; obtain ⟨⟨q1, q2, q3, q4, q5, q6, q7⟩, hq⟩ := hq
        replace hq := bI hq; obtain ⟨sm, hL, hq⟩ := hq
        replace hq := opt_if hq; obtain ⟨q8, hq⟩ := hq
        simp only at q1 q2 q3
        subst q1
        have CX := Aside0.mk (fun (W : World) (A : Option Addr) (c : Nat) (hW : RX w W A c xs) => impl_CountPairsCrossing.calls k n A c xs _ _ W hW.rd hW.cap hX)
        have HL := Aside0.mk hL
        have z1 : ((sh.size : Int) != n) = false := by rw [q4]; exact bne_self_eq_false _
        have z2 : 0 < sh.size := q5
        have z3 : (((((sh[0]'z2).toNat : Nat) : Int)) != 108) = false := by
          have e := bt_at sh 0 z2
          have e2 : (((sh[0]'z2).toNat : Nat) : Int) = bt sh 0 := e
          rw [e2, q6]; rfl
        have HQ := Aside0.mk q3
        have HLn := Aside0.mk q7
        subst q2 q8
        have z5 : (sm != wrap64 ((xs.length : Int) + wrap64 (2 * x))) = false := by rw [HQ.out]; exact bne_self_eq_false _
        clear HOne HII HPB HR1 hX hq hL q3 q4 q5 q6 q7
        go_upto_region 16 with (go_at_call 15; refine (CX.out _ _ _ HI.out).mono ?_; clear CX; rintro e wx ⟨rfl, hbx⟩; have HI2 := Aside0.mk (HI.out.go hbx); clear HI hbx; have HI := HI2; clear HI2)
        go_wp2_with fail
        obtain ⟨N, hN⟩ : ∃ N, N = xs.length := ⟨_, rfl⟩
        go_loopg [27, 222] N (fun gg v27 v222 W => ∃ (c : Nat) (s : Int), v27 = .int .i64 s ∧ v222 = .int .i64 c ∧ Aside0 (c + gg = N) ∧ Aside0 (RX w W Av cv xs) ∧ Aside0 (rpL k n xs gg c s = some sm))
        case atStart => exact ⟨0, 0, by first | rfl | (simp; done), by first | rfl | (simp; done), ⟨by omega⟩, HI, ⟨by rw [hN]; exact HL.out⟩⟩
        case round =>
          clear HI HL
          obtain ⟨c, s, rfl, rfl, HG, HI, HL⟩ := hrel
          have HIr := Aside0.mk (fun (hc : c < N) => show (∃ q, impl_PiecesOfChord.f k n xs (c : Int) = some (q, true) ∧ (decide (q < 1) = false) ∧ ∀ d, d + 1 = gk → rpL k n xs d ((c : Int) + 1) (wrap64 (s + q)) = some sm) by
            obtain ⟨d, rfl⟩ : ∃ d, gk = d + 1 := ⟨gk - 1, by have := HG.out; omega⟩
            have hq := HL.out
            rw [rpL] at hq
            replace hq := bI hq; obtain ⟨⟨q, qb⟩, hp, hq⟩ := hq
            replace hq := opt_if hq; obtain ⟨⟨g1, g2⟩, hq⟩ := hq
            simp only at g1 g2
            subst g1
            refine ⟨q, hp, decide_eq_false g2, fun d' hd' => ?_⟩
            obtain rfl : d' = d := by omega
            exact hq)
          have z7 : (N : Int) = (xs.length : Int) := by omega
          by_cases hlt : c < N
          · obtain ⟨gm, rfl⟩ : ∃ gm, gk = gm + 1 := ⟨gk - 1, by have := HG.out; omega⟩
            obtain ⟨q, hp, hq1, hq2⟩ := HIr.out hlt
            have hq3 := hq2 gm rfl
            have HL2 := Aside0.mk hq3
            have CX := Aside0.mk (fun (W : World) (A : Option Addr) (c' : Nat) (hW : RX w W A c' xs) => impl_PiecesOfChord.calls k n A c' xs (c : Int) _ _ W hW.rd hW.cap hp)
            have e1 : decide ((c : Int) < (xs.length : Int)) = true := decide_eq_true (by omega)
            have e2 : IntKind.i64.wrap ((c : Int) + 1) = ((c + 1 : Nat) : Int) := by
              rw [i64_w]
              have := HLn.out
              exact M.w64 (by omega) (by omega)
            clear HIr HL hp hq2 hq3
            go_wp2_with (go_at_call 16; refine (CX.out _ _ _ HI.out).mono ?_; clear CX; rintro e wx ⟨rfl, hbx⟩; have HI2 := Aside0.mk (HI.out.go hbx); clear HI hbx; have HI := HI2; clear HI2)
            go_roundg gm
            case measure => omega
            case rel => exact ⟨c + 1, _, by first | rfl | (simp; done), by first | rfl | (simp; done), ⟨by have := HG.out; omega⟩, HI, ⟨by have := HL2.out; rwa [show ((c : Int) + 1) = ((c + 1 : Nat) : Int) by omega] at this⟩⟩
          · have hcN : c = N := by have := HG.out; omega
            obtain rfl : gk = 0 := by have := HG.out; omega
            have hs := oI HL.out
            subst hs
            have e1 : decide ((c : Int) < (xs.length : Int)) = false := decide_eq_false (by omega)
            clear HIr HL
            go_wp2_with fail
            go_meet
            case rel => exact HI
    case rest =>
    have HI3 := hcut
    clear HI hcut HOne
    have HI := HI3
    clear HI3
    go_upto_if 245 with (fail)
    go_cut [] from 245 to 245 (fun wc => Aside0 (Below w.heap.size w wc))
    case first =>
      clear HPB HR1
      cases ok with
      | false =>
        clear HII
        go_wp2_with fail
        go_meet
        case rel => exact ⟨HI.out.b⟩
      | true =>
        have hq := HII.out
        unfold rpI at hq
        rw [if_pos rfl] at hq
        replace hq := bI hq; obtain ⟨b, hb, hq⟩ := hq
        replace hq := opt_if hq; obtain ⟨⟨q1, ⟨q2, q3⟩, q4, ⟨q5, q6⟩, ⟨q7, q8⟩, q9⟩, hq⟩ := hq
        simp only at q2 q3 q4 q9
        subst q1
        have CX := Aside0.mk (fun (W : World) (A : Option Addr) (c : Nat) (hW : RX w W A c xs) => impl_ArcsParted.calls k n A c xs j i _ _ W hW.rd hW.cap hb)
        have z1 : decide (pt < 0) = false := decide_eq_false q2
        have z2 : decide ((xs.length : Int) < pt) = false := decide_eq_false q3
        have y1 : decide (0 ≤ i) = true := decide_eq_true q5
        have y2 : decide (i < (sh.size : Int)) = true := decide_eq_true q6
        have y3 : decide (0 ≤ j) = true := decide_eq_true q7
        have y4 : decide (j < (sh.size : Int)) = true := decide_eq_true q8
        have x1 : i.toNat < sh.size := by omega
        have x2 : j.toNat < sh.size := by omega
        have b1 := bt_at sh i x1
        have b2 := bt_at sh j x2
        have z9 : ((Int.tmod pt 2 == 0) != ((((sh[i.toNat]'x1).toNat : Nat) : Int) == (((sh[j.toNat]'x2).toNat : Nat) : Int))) = false := by rw [b1, b2]; exact q9
        have HQ4 := Aside0.mk q4
        clear HII hq hb q2 q3 q4 q9 b1 b2
        go_upto_region 31 with (go_at_call 6; refine (CX.out _ _ _ HI.out).mono ?_; clear CX; rintro e wx ⟨rfl, hbx⟩; have HI2 := Aside0.mk (HI.out.go hbx); clear HI hbx; have HI := HI2; clear HI2)
        rcases same_bools z9 with ⟨z6, z7⟩ | ⟨z6, z7⟩ <;> rcases eq_bools i j pt HQ4.out with ⟨hij2, hp0⟩ | hij2
        all_goals
          go_quiet (fail)
          go_wp2_with fail
          go_meet
          case rel => exact ⟨by first | exact HI.out.b | exact pw_below_drewN HI.out.b _⟩
    case rest =>
    have HB := hcut
    clear HI hcut HII HOk
    have hq := HPB.out
    clear HPB
    unfold rpB at hq
    replace hq := bI hq; obtain ⟨⟨m, set, q⟩, hE, hq⟩ := hq
    replace hq := bI hq; obtain ⟨⟨p1, p2⟩, hP1, hq⟩ := hq
    replace hq := bI hq; obtain ⟨a', hP2, hq⟩ := hq
    replace hq := bI hq; obtain ⟨⟨sn, ss⟩, hS, hq⟩ := hq
    replace hq := bI hq; obtain ⟨⟨g1, g2⟩, hG1, hq⟩ := hq
    replace hq := bI hq; obtain ⟨g', hG2, hq⟩ := hq
    replace hq := bI hq; obtain ⟨p, hM, hq⟩ := hq
    replace hq := bI hq; obtain ⟨⟨m1, m2⟩, hM1, hq⟩ := hq
    replace hq := bI hq; obtain ⟨m', hM2, hq⟩ := hq
    replace hq := opt_if hq; obtain ⟨⟨q1, q2, q3⟩, hq⟩ := hq
    replace hq := bI hq; obtain ⟨_, hRS, hRM⟩ := hq
    subst q1 q2 q3
    have CD := Aside0.mk (fun (W : World) (hW : Below w.heap.size w W) => spec_DrawPiecesOfChord.calls k A1 c1 l1 m set q W (Kd.C_below HR1.out hW) hc1 hE)
    have CP1 := Aside0.mk (fun (W : World) (A : Option Addr) (c : Nat) (hW : RX w W A c set) => impl_PiecesOfChord.calls k m A c set q _ _ W hW.rd hW.cap hP1)
    have CP2 := Aside0.mk (fun (W : World) (A : Option Addr) (c : Nat) (hW : RX w W A c set) => spec_PiecesOfChord.calls k m A c set q _ _ W hW.rd hW.cap hP2)
    have CS := Aside0.mk (fun (W : World) (hW : Below w.heap.size w W) => spec_DrawRegionsOfStar.calls A1 c1 l1 sn ss W (Kd.C_below HR1.out hW) hc1 hS)
    have CG1 := Aside0.mk (fun (W : World) => impl_RegionsOfStar.calls k sn ss _ _ W hG1)
    have CG2 := Aside0.mk (fun (W : World) => spec_RegionsOfStar.calls k sn ss _ _ W hG2)
    have CM := Aside0.mk (fun (W : World) (hW : Below w.heap.size w W) => spec_DrawMostRegions.calls A1 c1 l1 p W (Kd.C_below HR1.out hW) hc1 hM)
    have CM1 := Aside0.mk (fun (W : World) => calls_drawn (impl_MostRegions.calls p _ _ W hM1))
    have CM2 := Aside0.mk (fun (W : World) => calls_drawn (spec_MostRegions.calls p _ _ W hM2))
    have HRS := Aside0.mk hRS
    have HRM := Aside0.mk hRM
    clear hE hP1 hP2 hS hG1 hG2 hM hM1 hM2 hRS hRM
    go_upto_region 42 with (first | (go_at_call 17; refine (CD.out _ HB.out).mono ?_; rintro e w5 ⟨v5, rfl, hr5, hb5⟩; obtain ⟨Bv, dv, ev⟩ := Kd.R_slice hr5; subst ev; have HI := Aside0.mk (RX.mk (below_step HB.out hb5) (Kd.R_lower hr5 HB.out.size)); clear HB CD hr5 hb5) | (go_at_call 16; refine (CP1.out _ _ _ HI.out).mono ?_; clear CP1; rintro e wx ⟨rfl, hbx⟩; have HI2 := Aside0.mk (HI.out.go hbx); clear HI hbx; have HI := HI2; clear HI2) | (go_at_call 18; refine (CP2.out _ _ _ HI.out).mono ?_; clear CP2; rintro e wx ⟨rfl, hbx⟩; have HB := Aside0.mk (HI.out.go hbx).b; clear HI hbx) | (go_at_call 19; refine (CS.out _ HB.out).mono ?_; rintro e w6 ⟨rfl, hb6⟩; have HY := Aside0.mk (ry_new (below_step HB.out hb6) sn ss); clear CS HB hb6) | ((first | (go_at_call 20; refine (CG1.out _).mono ?_; clear CG1) | (go_at_call 21; refine (CG2.out _).mono ?_; clear CG2) | (go_at_call 22; refine (CM.out _ HY.out.bl).mono ?_; clear CM) | (go_at_call 23; refine (CM1.out _).mono ?_; clear CM1) | (go_at_call 24; refine (CM2.out _).mono ?_; clear CM2)); rintro e wx ⟨rfl, hbx⟩; have HY2 := Aside0.mk (HY.out.go hbx); clear HY hbx; (try clear y0 y1 y2 y3); have HY := HY2; clear HY2; obtain ⟨y0, y1, y2, y3⟩ := blk_two HY.out.c))
    go_upto_if 365 with (fail)
    go_cut [] from 365 to 365 (fun wc => Aside0 (Below w.heap.size w wc))
    case first =>
      have hq := HRS.out
      clear HRS HRM HR1
      unfold rpS at hq
      cases g2 with
      | false =>
        clear hq
        go_wp2_with fail
        go_meet
        case rel => exact ⟨HY.out.bl⟩
      | true =>
        rw [if_pos rfl] at hq
        replace hq := bI hq; obtain ⟨⟨ch, cb⟩, hC, hq⟩ := hq
        replace hq := bI hq; obtain ⟨⟨x, xb⟩, hX, hq⟩ := hq
        replace hq := opt_if hq; obtain ⟨⟨q1, q2, q3⟩, hq⟩ := hq
        simp only at q1 q2 q3
        subst q1 q2 q3
        have CC := Aside0.mk (fun (W : World) => impl_ChordsOf.calls k sn ss ch true W hC)
        have CX := Aside0.mk (fun (W : World) => impl_CountCrossings.calls k sn ss x true W hX)
        clear hC hX
        by_cases h20 : sn ≤ 20
        · rw [if_pos h20] at hq
          replace hq := bI hq; obtain ⟨⟨y, yb⟩, hY, hq⟩ := hq
          replace hq := opt_if hq; obtain ⟨⟨q1, q2⟩, hq⟩ := hq
          simp only at q1 q2
          subst q1
          have CY := Aside0.mk (fun (W : World) => calls_drawn (impl_MostRegions.calls sn y true W hY))
          have e20 : decide (sn ≤ 20) = true := decide_eq_true h20
          have eyb : decide (y < wrap64 (wrap64 (1 + (ch.length : Int)) + x)) = false := decide_eq_false q2
          clear hY q2 hq
          go_wp2_with (first | (go_at_call 25; refine (CC.out _).mono ?_; clear CC; rintro e wx ⟨v7, rfl, hr7, hbx⟩; obtain ⟨Cv, ec, ev⟩ := Kd.R_slice hr7; subst ev; have HY2 := Aside0.mk (HY.out.go hbx); clear HY hbx hr7 y0 y1 y2 y3; have HY := HY2; clear HY2; obtain ⟨y0, y1, y2, y3⟩ := blk_two HY.out.c) | ((first | (go_at_call 26; refine (CX.out _).mono ?_; clear CX) | (go_at_call 23; refine (CY.out _).mono ?_; clear CY)); rintro e wx ⟨rfl, hbx⟩; have HY2 := Aside0.mk (HY.out.go hbx); clear HY hbx y0 y1 y2 y3; have HY := HY2; clear HY2; obtain ⟨y0, y1, y2, y3⟩ := blk_two HY.out.c))
          go_meet
          case rel => exact ⟨HY.out.bl⟩
        · have e20 : decide (sn ≤ 20) = false := decide_eq_false h20
          clear hq
          go_wp2_with (first | (go_at_call 25; refine (CC.out _).mono ?_; clear CC; rintro e wx ⟨v7, rfl, hr7, hbx⟩; obtain ⟨Cv, ec, ev⟩ := Kd.R_slice hr7; subst ev; have HY2 := Aside0.mk (HY.out.go hbx); clear HY hbx hr7 y0 y1 y2 y3; have HY := HY2; clear HY2; obtain ⟨y0, y1, y2, y3⟩ := blk_two HY.out.c) | (go_at_call 26; refine (CX.out _).mono ?_; clear CX; rintro e wx ⟨rfl, hbx⟩; have HY2 := Aside0.mk (HY.out.go hbx); clear HY hbx y0 y1 y2 y3; have HY := HY2; clear HY2; obtain ⟨y0, y1, y2, y3⟩ := blk_two HY.out.c))
          go_meet
          case rel => exact ⟨HY.out.bl⟩
    case rest =>
    have HB := hcut
    have hq := HRM.out
    clear hcut HY y0 y1 y2 y3 HRS HRM HR1
    unfold rpM at hq
    cases m2 with
    | false =>
      clear hq
      go_wp2_with fail
      go_ret
      exact ⟨rfl, HB.out⟩
    | true =>
      by_cases h3 : p > 3
      · rw [if_pos ⟨rfl, h3⟩] at hq
        replace hq := bI hq; obtain ⟨⟨z, zb⟩, hZ, hq⟩ := hq
        replace hq := opt_if hq; obtain ⟨⟨q1, q2⟩, hq⟩ := hq
        simp only at q1 q2
        subst q1
        have CZ := Aside0.mk (fun (W : World) => calls_drawn (impl_MostRegions.calls (wrap64 (p - 1)) z true W hZ))
        have e3 : decide (3 < p) = true := decide_eq_true h3
        have ez : decide (z < m1) = true := decide_eq_true q2
        clear hZ hq q2
        go_wp2_with (go_at_call 23; refine (CZ.out _).mono ?_; clear CZ; rintro e wx ⟨rfl, hbx⟩; have HB2 := Aside0.mk (below_step HB.out hbx); clear HB hbx; have HB := HB2; clear HB2)
        go_ret
        exact ⟨by first | rfl | (simp [*]; done), HB.out⟩
      · have e3 : decide (3 < p) = false := decide_eq_false h3
        clear hq
        go_wp2_with fail
        go_ret
        exact ⟨rfl, HB.out⟩
end Go.Proofs.Ytdjbdpgdhpobfaa.Pr
/- The cursor over bytes: each pick ends, within its bounds. -/
namespace Go.Proofs.Ytdjbdpgdhpobfaa.M
open Go.RowKit Go.Proofs.YtdjbdpgdhpobfaaW.PrintWords Go.Proofs.Ytdjbdpgdhpobfaa.Pr
/-- Bytes. -/
def By (l : List Int) : Prop := ∀ x ∈ l, 0 ≤ x ∧ x ≤ 255
theorem by_wf {l : List Int} (h : ∀ x ∈ l, (Lit.int .u8 x).wf = true) : By l := by
  intro x hx
  have := h x hx
  simp [Lit.wf, IntKind.min, IntKind.max, IntKind.signed, IntKind.bits] at this
  omega
theorem and255 {x : Int} (h0 : 0 ≤ x) (h1 : x ≤ 18446744073709551615) : 0 ≤ Go.bits .and .u64 x 255 ∧ Go.bits .and .u64 x 255 ≤ 255 := by
  have h := bits_and_u64_nat x.toNat 255 (by omega) (by omega)
  rw [Int.toNat_of_nonneg h0] at h
  have h2 : x.toNat &&& 255 ≤ 255 := Nat.and_le_right
  rw [show (255 : Int) = ((255 : Nat) : Int) from rfl, h]
  omega
theorem wrap_u64 (x : Int) : 0 ≤ IntKind.u64.wrap x ∧ IntKind.u64.wrap x ≤ 18446744073709551615 := by
  simp only [IntKind.wrap, IntKind.signed, IntKind.bits]
  simp
  omega
/-- A place of the cursor. -/
def At (n : Int) (a : Int) : Prop := 0 ≤ a ∧ a ≤ n
theorem At.up {n m a : Int} (h : At n a) (hm : n ≤ m) : At m a := ⟨h.1, Int.le_trans h.2 hm⟩
theorem rd_by {l : List Int} (h : By l) {i : Int} (h0 : 0 ≤ i) (h1 : i < l.length) : 0 ≤ rd l i ∧ rd l i ≤ 255 := by
  unfold rd
  have hm : i.toNat < l.length := by omega
  have hg : l.getD i.toNat 0 = l[i.toNat] := by simp [List.getD_eq_getElem?_getD, List.getElem?_eq_getElem hm]
  first | (rw [hg]; exact h _ (List.getElem_mem hm)) | (simp only [rdOf]; rw [hg]; exact h _ (List.getElem_mem hm))
theorem next_ok {l : List Int} (hl : By l) {n a : Int} (s : Int) (ha : At n a) (hn : n ≤ 1000000000) : ∃ r a' s', spec_l1Cur_next.f l a s = some (r, a', s') ∧ 0 ≤ r ∧ r ≤ 255 ∧ At (n + 1) a' := by
  obtain ⟨h0, h1⟩ := ha
  have hw : wrap64 (a + 1) = a + 1 := w64 (by omega) (by omega)
  unfold spec_l1Cur_next.f
  rw [hw]
  by_cases h : a < (l.length : Int)
  · have hr := rd_by hl h0 h
    rw [if_pos h, if_pos h0, if_pos (by omega)]
    exact ⟨_, _, _, rfl, by rw [w64 (by omega) (by omega)]; exact hr.1, by rw [w64 (by omega) (by omega)]; exact hr.2, by omega, by omega⟩
  · rw [if_neg h]
    by_cases h2 : a + 1 ≤ (l.length : Int)
    · rw [if_pos h2]
      exact ⟨_, _, _, rfl, by omega, by omega, by omega, by omega⟩
    · rw [if_neg h2]
      have hq := wrap_u64 (IntKind.u64.wrap (IntKind.u64.wrap (s * 6364136223846793005) + 0) + 1442695040888963407)
      have hb := and255 (x := IntKind.u64.wrap (IntKind.u64.wrap (IntKind.u64.wrap (s * 6364136223846793005) + 0) + 1442695040888963407) / 1099511627776) (by omega) (by omega)
      exact ⟨_, _, _, rfl, by rw [w64 (by omega) (by omega)]; exact hb.1, by rw [w64 (by omega) (by omega)]; exact hb.2, by omega, by omega⟩
theorem tmod_in {x n : Int} (hx : 0 ≤ x) (hn : 0 < n) : 0 ≤ Int.tmod x n ∧ Int.tmod x n < n := by
  rw [Int.tmod_eq_emod_of_nonneg hx]
  exact ⟨Int.emod_nonneg _ (by omega), Int.emod_lt_of_pos _ hn⟩
theorem pick_ok {l : List Int} (hl : By l) {n a : Int} (s : Int) (ha : At n a) (hn : n ≤ 900000000) (m : Int) : ∃ r a' s', spec_l1Cur_pick.f l a s m = some (r, a', s') ∧ 0 ≤ r ∧ (1 < m → r < m) ∧ (m ≤ 1 → r = 0) ∧ At (n + 2) a' := by
  unfold spec_l1Cur_pick.f
  by_cases h : m ≤ 1
  · rw [if_pos h]
    exact ⟨_, _, _, rfl, by omega, by omega, fun _ => rfl, ha.up (by omega)⟩
  · rw [if_neg h]
    obtain ⟨r, a1, s1, e, hr0, hr1, ha1⟩ := next_ok hl s ha (by omega)
    rw [e]
    simp only [Option.bind_some]
    by_cases h2 : m > 200
    · rw [if_pos h2]
      obtain ⟨r2, a2, s2, e2, hq0, hq1, ha2⟩ := next_ok hl s1 ha1 (by omega)
      rw [e2]
      simp only [Option.bind_some]
      rw [if_neg (by omega), w64 (x := r * 256) (by omega) (by omega), w64 (by omega) (by omega)]
      have ht := tmod_in (x := r * 256 + r2) (n := m) (by omega) (by omega)
      exact ⟨_, _, _, rfl, ht.1, fun _ => ht.2, fun q => absurd q h, ha2.up (by omega)⟩
    · rw [if_neg h2, if_neg (by omega)]
      have ht := tmod_in (x := r) (n := m) (by omega) (by omega)
      exact ⟨_, _, _, rfl, ht.1, fun _ => ht.2, fun q => absurd q h, ha1.up (by omega)⟩
theorem one_ok {l : List Int} (hl : By l) {n a : Int} (s : Int) (ha : At n a) (hn : n ≤ 900000000) (m : Int) : ∃ r a' s', spec_l1Cur_one.f l a s m = some (r, a', s') ∧ At (n + 2) a' := by
  obtain ⟨r, a1, s1, e, _, _, _, h1⟩ := pick_ok hl s ha hn m
  unfold spec_l1Cur_one.f
  rw [e]
  exact ⟨_, _, _, rfl, h1⟩
theorem among_ok {l : List Int} (hl : By l) {n a : Int} (s : Int) (ha : At n a) (hn : n ≤ 900000000) (xs : List Int) (hx : xs ≠ []) : ∃ r a' s', spec_l1Cur_among.f l a s xs = some (r, a', s') ∧ r ∈ xs ∧ At (n + 2) a' := by
  obtain ⟨r, a1, s1, e, h0, h1, h2, h3⟩ := pick_ok hl s ha hn (xs.length : Int)
  have hp : 0 < xs.length := List.length_pos_iff.2 hx
  have hlt : r < (xs.length : Int) := by
    by_cases q : 1 < (xs.length : Int)
    · exact h1 q
    · rw [h2 (by omega)]; omega
  unfold spec_l1Cur_among.f
  rw [e]
  simp only [Option.bind_some]
  rw [if_pos h0, if_pos hlt]
  refine ⟨_, _, _, rfl, ?_, h3⟩
  have hm : r.toNat < xs.length := by omega
  have hg : xs.getD r.toNat 0 = xs[r.toNat] := by simp [List.getD_eq_getElem?_getD, List.getElem?_eq_getElem hm]
  unfold rd
  first | (rw [hg]; exact List.getElem_mem hm) | (simp only [rdOf]; rw [hg]; exact List.getElem_mem hm)
theorem sureStar_ok {l : List Int} (hl : By l) {n a : Int} (s : Int) (ha : At n a) (hn : n ≤ 800000000) : ∃ p q a' s', spec_l1Cur_sureStar.f l a s = some (p, q, a', s') ∧ 3 ≤ p ∧ p ≤ 14 ∧ 1 ≤ q ∧ q < p ∧ At (n + 4) a' := by
  obtain ⟨r, a1, s1, e, h0, h1, h2, h3⟩ := pick_ok hl s ha (by omega) 12
  unfold spec_l1Cur_sureStar.f
  rw [e]
  simp only [Option.bind_some]
  have hr := h1 (by omega)
  rw [w64 (x := 3 + r) (by omega) (by omega), w64 (x := 3 + r - 1) (by omega) (by omega)]
  obtain ⟨r2, a2, s2, e2, g0, g1, g2, g3⟩ := pick_ok hl s1 h3 (by omega) (3 + r - 1)
  rw [e2]
  have := g1 (by omega)
  refine ⟨_, _, _, _, rfl, by omega, by omega, ?_, ?_, g3.up (by omega)⟩
  · show 1 ≤ wrap64 (1 + r2)
    rw [w64 (by omega) (by omega)]; omega
  · show wrap64 (1 + r2) < _
    rw [w64 (by omega) (by omega)]; omega
/-- A star that is drawn: a good one with at most 14 points, or one of a few others. -/
theorem star_ok {l : List Int} (hl : By l) {n a : Int} (s : Int) (ha : At n a) (hn : n ≤ 700000000) : ∃ p q a' s', spec_l1Cur_star.f l a s = some (p, q, a', s') ∧ -1 ≤ p ∧ p ≤ 4611686018427387904 ∧ -1 ≤ q ∧ q ≤ 60 ∧ At (n + 6) a' := by
  obtain ⟨r, a1, s1, e, h1⟩ := one_ok hl s ha (by omega) 12
  unfold spec_l1Cur_star.f
  rw [e]
  simp only [Option.bind_some]
  cases r with
  | true =>
    rw [if_pos rfl]
    obtain ⟨p, a2, s2, e2, hp, h2⟩ := among_ok hl s1 h1 (by omega) [0, (-1), 2, 3, 60, 61, 4611686018427387904] (by simp)
    rw [e2]
    simp only [Option.bind_some]
    obtain ⟨q, a3, s3, e3, hq, h3⟩ := among_ok hl s2 h2 (by omega) [0, 1, 2, 30, (-1), 59, 60] (by simp)
    rw [e3]
    simp only [List.mem_cons, List.not_mem_nil, or_false] at hp hq
    exact ⟨_, _, _, _, rfl, by omega, by omega, by omega, by omega, h3.up (by omega)⟩
  | false =>
    rw [if_neg (by decide)]
    obtain ⟨p, q, a2, s2, e2, p1, p2, p3, p4, h2⟩ := sureStar_ok hl s1 (h1.up (m := n + 2) (by omega)) (by omega)
    rw [e2]
    exact ⟨p, q, a2, s2, rfl, by omega, by omega, by omega, by omega, h2.up (by omega)⟩
end Go.Proofs.Ytdjbdpgdhpobfaa.M
/- The cursor's sets of chords: drawing them ends, with few chords. -/
namespace Go.Proofs.Ytdjbdpgdhpobfaa.M
open Go.RowKit Go.Proofs.YtdjbdpgdhpobfaaW.PrintWords Go.Proofs.Ytdjbdpgdhpobfaa.Pr
theorem sureLoop_ok {l : List Int} (hl : By l) (p : Int) (hp : 3 ≤ p ∧ p ≤ 12) : ∀ (d : Nat) (xs : List Ch) (n a s : Int), xs.length + d ≤ 100000 → At n a → n + 4 * d ≤ 700000000 →
    ∃ r a' s', Ev (fun k => spec_l1Cur_sureChords.l0 k p xs (d : Int) l a s) (p, r, a', s') ∧ r.length ≤ xs.length + d ∧ At (n + 4 * d) a'
  | 0, xs, n, a, s, _, ha, _ => by
    refine ⟨xs, a, s, ?_, by omega, ha.up (by omega)⟩
    refine Ev.step (fun k => by rw [spec_l1Cur_sureChords.l0]) ?_
    exact Ev.neg (by omega) (Ev.now _)
  | d + 1, xs, n, a, s, hx, ha, hn => by
    obtain ⟨r1, a1, s1, e1, g0, g1, _, h1⟩ := pick_ok hl s ha (by omega) p
    have g1 := g1 (by omega)
    obtain ⟨r2, a2, s2, e2, q0, q1, _, h2⟩ := pick_ok hl s1 h1 (by omega) (p - 1)
    have q1 := q1 (by omega)
    have hlen := length_put ltB (⟨mn r1 (Int.tmod (r1 + 1 + r2) p), mx r1 (Int.tmod (r1 + 1 + r2) p)⟩ : Ch) xs
    obtain ⟨r, a3, s3, hE, hr, h3⟩ := sureLoop_ok hl p hp d (put ltB xs ⟨mn r1 (Int.tmod (r1 + 1 + r2) p), mx r1 (Int.tmod (r1 + 1 + r2) p)⟩) (n + 4) a2 s2 (by omega) (h2.up (by omega)) (by omega)
    refine ⟨r, a3, s3, ?_, by omega, h3.up (by omega)⟩
    refine Ev.step (fun k => by rw [spec_l1Cur_sureChords.l0]) ?_
    refine Ev.pos (by omega) (Ev.bindc e1 ?_)
    rw [w64 (x := p - 1) (by omega) (by omega)]
    refine Ev.bindc e2 (Ev.neg (by omega) ?_)
    simp only
    rw [w64 (x := r1 + 1) (by omega) (by omega), w64 (x := r1 + 1 + r2) (by omega) (by omega)]
    refine Ev.bindc (srChord_eq _ _) (Ev.bindk (srPut_ev xs ⟨mn r1 (Int.tmod (r1 + 1 + r2) p), mx r1 (Int.tmod (r1 + 1 + r2) p)⟩ (by omega)) ?_)
    rw [w64 (x := ((d + 1 : Nat) : Int) - 1) (by omega) (by omega), show ((d + 1 : Nat) : Int) - 1 = (d : Int) by omega]
    exact hE
theorem sureChords_ok {l : List Int} (hl : By l) {n a : Int} (s : Int) (ha : At n a) (hn : n ≤ 600000000) (m : Int) (hm : 0 ≤ m ∧ m ≤ 90) :
    ∃ p r a' s', Ev (fun k => spec_l1Cur_sureChords.f k l a s m) (p, r, a', s') ∧ 3 ≤ p ∧ p ≤ 12 ∧ (r.length : Int) ≤ m ∧ At (n + 400) a' := by
  obtain ⟨r1, a1, s1, e1, g0, g1, _, h1⟩ := pick_ok hl s ha (by omega) 10
  have g1 := g1 (by omega)
  obtain ⟨r2, a2, s2, e2, q0, q1, q2, h2⟩ := pick_ok hl s1 h1 (by omega) (m + 1)
  have hr2 : r2 ≤ m := by
    by_cases c : 1 < m + 1
    · have := q1 c; omega
    · have := q2 (by omega); omega
  obtain ⟨r, a3, s3, hE, hr, h3⟩ := sureLoop_ok hl (3 + r1) (by omega) r2.toNat [] (n + 4) a2 s2 (by simp; omega) (h2.up (by omega)) (by omega)
  rw [Int.toNat_of_nonneg q0] at hE
  refine ⟨3 + r1, r, a3, s3, ?_, by omega, by omega, ?_, h3.up (by omega)⟩
  · unfold spec_l1Cur_sureChords.f
    refine Ev.bindc e1 ?_
    rw [w64 (x := m + 1) (by omega) (by omega)]
    refine Ev.bindc e2 ?_
    simp only
    rw [w64 (x := 3 + r1) (by omega) (by omega)]
    exact hE
  · simp only [List.length_nil] at hr
    omega
theorem manyLoop_ok {l : List Int} (hl : By l) (p : Int) : ∀ (d : Nat) (i : Nat) (xs : List Ch) (n a s : Int), i + d = 41 → xs.length ≤ i → At n a → n + 2 * d ≤ 700000000 →
    ∃ r a' s', Ev (fun k => spec_l1Cur_chords.l0 k p xs (i : Int) l a s) (p, r, a', s') ∧ r.length ≤ 41 ∧ At (n + 2 + 2 * d) a'
  | 0, i, xs, n, a, s, hi, hx, ha, hn => by
    obtain ⟨r1, a1, s1, e1, g0, g1, _, h1⟩ := pick_ok hl s ha (by omega) 2
    have g1 := g1 (by omega)
    refine ⟨xs, a1, s1, ?_, by omega, h1.up (by omega)⟩
    refine Ev.step (fun k => by rw [spec_l1Cur_chords.l0]) ?_
    refine Ev.bindc e1 ?_
    simp only
    rw [w64 (x := 40 + r1) (by omega) (by omega)]
    exact Ev.neg (by omega) (Ev.now _)
  | d + 1, i, xs, n, a, s, hi, hx, ha, hn => by
    obtain ⟨r1, a1, s1, e1, g0, g1, _, h1⟩ := pick_ok hl s ha (by omega) 2
    have g1 := g1 (by omega)
    by_cases hlt : (i : Int) < 40 + r1
    · have hlen := length_put ltB (⟨mn (Int.tmod i 12) (Int.tmod ((i : Int) + 1 + wrap64 (Int.tdiv i 12)) 12), mx (Int.tmod i 12) (Int.tmod ((i : Int) + 1 + wrap64 (Int.tdiv i 12)) 12)⟩ : Ch) xs
      obtain ⟨r, a3, s3, hE, hr, h3⟩ := manyLoop_ok hl p d (i + 1) (put ltB xs ⟨mn (Int.tmod i 12) (Int.tmod ((i : Int) + 1 + wrap64 (Int.tdiv i 12)) 12), mx (Int.tmod i 12) (Int.tmod ((i : Int) + 1 + wrap64 (Int.tdiv i 12)) 12)⟩) (n + 2) a1 s1 (by omega) (by omega) h1 (by omega)
      refine ⟨r, a3, s3, ?_, hr, h3.up (by omega)⟩
      have hq : Int.tdiv (i : Int) 12 = (i : Int) / 12 := Int.tdiv_eq_ediv_of_nonneg (by omega)
      refine Ev.step (fun k => by rw [spec_l1Cur_chords.l0]) ?_
      refine Ev.bindc e1 ?_
      simp only
      rw [w64 (x := 40 + r1) (by omega) (by omega), w64 (x := (i : Int) + 1) (by omega) (by omega)]
      refine Ev.pos hlt ?_
      rw [w64 (x := (i : Int) + 1 + wrap64 (Int.tdiv i 12)) (by rw [hq, w64 (by omega) (by omega)]; omega) (by rw [hq, w64 (by omega) (by omega)]; omega)]
      refine Ev.bindc (srChord_eq _ _) (Ev.bindk (srPut_ev xs ⟨mn (Int.tmod i 12) (Int.tmod ((i : Int) + 1 + wrap64 (Int.tdiv i 12)) 12), mx (Int.tmod i 12) (Int.tmod ((i : Int) + 1 + wrap64 (Int.tdiv i 12)) 12)⟩ (by omega)) ?_)
      rw [show (i : Int) + 1 = ((i + 1 : Nat) : Int) by omega]
      exact hE
    · refine ⟨xs, a1, s1, ?_, by omega, h1.up (by omega)⟩
      refine Ev.step (fun k => by rw [spec_l1Cur_chords.l0]) ?_
      refine Ev.bindc e1 ?_
      simp only
      rw [w64 (x := 40 + r1) (by omega) (by omega)]
      exact Ev.neg hlt (Ev.now _)
/-- The numbers of ways, as the reference tells them. -/
structure Ways (P : Int) (t : List Int) : Prop where
  len : P < t.length
  val : ∀ j : Int, 0 ≤ j → j ≤ P → j % 2 = 0 → 1 ≤ rd t j ∧ rd t j ≤ 1000
theorem rank_total (t : List Int) : ∀ (N : Nat) (P x r : Int), P ≤ 2 * N → 0 ≤ P → P ≤ 100 → P % 2 = 0 → Ways P t → ∃ q, Ev (fun k => spec_cdOfRank.f k x P r t) q ∧ (q.length : Int) ≤ P
  | 0, P, x, r, h, h0, _, _, _ => by
    refine ⟨[], ?_, by simp; omega⟩
    refine Ev.step (fun k => by rw [spec_cdOfRank.f]) ?_
    exact Ev.pos (by omega) (Ev.now _)
  | N + 1, P, x, r, h, h0, h100, he, W => by
    by_cases hP : P = 0
    · refine ⟨[], ?_, by simp; omega⟩
      refine Ev.step (fun k => by rw [spec_cdOfRank.f]) ?_
      exact Ev.pos hP (Ev.now _)
    · have hl := W.len
      have loop : ∀ (d : Nat) (j r : Int), P ≤ j + 2 * d → 1 ≤ j → j % 2 = 1 → j ≤ 103 → ∃ q, Ev (fun k => spec_cdOfRank.l0 k x P r t j) q ∧ (q.length : Int) ≤ P := by
        intro d
        induction d with
        | zero =>
          intro j r hj _ _ _
          refine ⟨[], ?_, by simp; omega⟩
          refine Ev.step (fun k => by rw [spec_cdOfRank.l0]) ?_
          exact Ev.neg (by omega) (Ev.now _)
        | succ d ih =>
          intro j r hj h1 ho h103
          by_cases hlt : j < P
          · have e0 : wrap64 (j - 1) = j - 1 := w64 (by omega) (by omega)
            have e1 : wrap64 (P - 1) = P - 1 := w64 (by omega) (by omega)
            have e2 : wrap64 (P - 1 - j) = P - 1 - j := w64 (by omega) (by omega)
            have v1 := W.val (P - 1 - j) (by omega) (by omega) (by omega)
            by_cases hr : r < wrap64 (rd t (j - 1) * rd t (P - 1 - j))
            · obtain ⟨q1, E1, l1⟩ := rank_total t N (j - 1) (wrap64 (x + 1)) (wrap64 (Int.tdiv r (rd t (P - 1 - j)))) (by omega) (by omega) (by omega) (by omega) ⟨by omega, fun i a b c => W.val i a (by omega) c⟩
              obtain ⟨q2, E2, l2⟩ := rank_total t N (P - 1 - j) (wrap64 (wrap64 (x + j) + 1)) (Int.tmod r (rd t (P - 1 - j))) (by omega) (by omega) (by omega) (by omega) ⟨by omega, fun i a b c => W.val i a (by omega) c⟩
              refine ⟨([⟨x, wrap64 (x + j)⟩] ++ q1) ++ q2, ?_, by simp; omega⟩
              refine Ev.step (fun k => by rw [spec_cdOfRank.l0]) ?_
              rw [e0, e1, e2]
              refine Ev.pos hlt (Ev.pos (by omega) (Ev.pos (by omega) (Ev.pos (by omega) (Ev.pos (by omega) (Ev.pos hr (Ev.bindc rfl (Ev.neg (by omega) (Ev.bindk E1 ?_))))))))
              refine Ev.pos (by simp; omega) (Ev.bindc rfl (Ev.bindk E2 (Ev.pos (by simp; omega) (Ev.now _))))
            · obtain ⟨q, E, l⟩ := ih (j + 2) (wrap64 (r - wrap64 (rd t (j - 1) * rd t (P - 1 - j)))) (by omega) (by omega) (by omega) (by omega)
              refine ⟨q, ?_, l⟩
              refine Ev.step (fun k => by rw [spec_cdOfRank.l0]) ?_
              rw [e0, e1, e2, w64 (x := j + 2) (by omega) (by omega)]
              exact Ev.pos hlt (Ev.pos (by omega) (Ev.pos (by omega) (Ev.pos (by omega) (Ev.pos (by omega) (Ev.neg hr E)))))
          · refine ⟨[], ?_, by simp; omega⟩
            refine Ev.step (fun k => by rw [spec_cdOfRank.l0]) ?_
            exact Ev.neg hlt (Ev.now _)
      obtain ⟨q, E, l⟩ := loop P.toNat 1 r (by omega) (by omega) (by decide) (by omega)
      refine ⟨q, ?_, l⟩
      refine Ev.step (fun k => by rw [spec_cdOfRank.f]) ?_
      exact Ev.neg hP E
def planeW : Nat → List Int
  | 0 => [1, 0, 1, 0, 2]
  | 1 => [1, 0, 1, 0, 2, 0, 5]
  | 2 => [1, 0, 1, 0, 2, 0, 5, 0, 14]
  | 3 => [1, 0, 1, 0, 2, 0, 5, 0, 14, 0, 42]
  | _ => [1, 0, 1, 0, 2, 0, 5, 0, 14, 0, 42, 0, 132]
theorem planeW_all : (List.range 5).all (fun m => decide (spec_cdPlane.f 100 (4 + 2 * (m : Int)) = some (planeW m))) = true := by decide +kernel
theorem planeW_val : (List.range 5).all (fun m => decide (4 + 2 * m < (planeW m).length) && (decide (2 ≤ rd (planeW m) (4 + 2 * (m : Int))) && (List.range (3 + m)).all fun i => decide (1 ≤ rd (planeW m) (2 * (i : Int)) ∧ rd (planeW m) (2 * (i : Int)) ≤ 1000))) = true := by decide +kernel
theorem rank_ok (m : Nat) (hm : m < 5) : ∃ t, spec_cdPlane.f 100 (4 + 2 * (m : Int)) = some t ∧ 4 + 2 * m < t.length ∧ 2 ≤ rd t (4 + 2 * (m : Int)) ∧ ∀ r : Int, ∃ q, Ev (fun k => spec_cdOfRank.f k 0 (4 + 2 * (m : Int)) r t) q ∧ q.length ≤ 12 := by
  have h := of_decide_eq_true (List.all_eq_true.1 planeW_all m (List.mem_range.2 hm))
  have h2 := List.all_eq_true.1 planeW_val m (List.mem_range.2 hm)
  simp only [Bool.and_eq_true, decide_eq_true_eq, List.all_eq_true, List.mem_range] at h2
  refine ⟨_, h, h2.1, h2.2.1, fun r => ?_⟩
  obtain ⟨q, E, l⟩ := rank_total (planeW m) (m + 2) (4 + 2 * (m : Int)) 0 r (by omega) (by omega) (by omega) (by omega) ⟨by omega, fun j j0 j1 j2 => by
    have e := h2.2.2 (j / 2).toNat (by omega)
    rw [show (2 : Int) * ((j / 2).toNat : Int) = j by omega] at e
    exact e⟩
  exact ⟨q, E, by omega⟩
theorem chordsJ_ok {l : List Int} (hl : By l) (p : Int) (xs : List Ch) (b : Bool) {n a : Int} (s : Int) (ha : At n a) (hn : n ≤ 600000000) (hp : -1 ≤ p ∧ p ≤ 4611686018427387904) (hx : xs.length ≤ 50) :
    ∃ p' r a' s', Ev (fun k => spec_l1Cur_chords.j1 k p xs b l a s) (p', r, a', s') ∧ -1 ≤ p' ∧ p' ≤ 4611686018427387904 ∧ r.length ≤ 50 ∧ At (n + 4) a' := by
  cases b with
  | false =>
    refine ⟨p, xs, a, s, ?_, hp.1, hp.2, hx, ha.up (by omega)⟩
    refine Ev.step (fun k => by rw [spec_l1Cur_chords.j1]) ?_
    exact Ev.neg (by decide) (Ev.now _)
  | true =>
    obtain ⟨r1, a1, s1, e1, g0, g1, _, h1⟩ := pick_ok hl s ha (by omega) 5
    have g1 := g1 (by omega)
    obtain ⟨m, rfl⟩ : ∃ m : Nat, r1 = (m : Int) := ⟨r1.toNat, by omega⟩
    obtain ⟨t, et, ht, h2, hq⟩ := rank_ok m (by omega)
    obtain ⟨r2, a2, s2, e2, q0, q1, _, h3⟩ := pick_ok hl s1 h1 (by omega) (rd t (4 + 2 * (m : Int)))
    obtain ⟨q, hEq, hql⟩ := hq r2
    have hpl : Ev (fun k => spec_cdPlane.f k (4 + 2 * (m : Int))) t := Ev.of (fun k => spec_cdPlane.mono _ k) et
    refine ⟨4 + 2 * (m : Int), q, a2, s2, ?_, by omega, by omega, by omega, h3.up (by omega)⟩
    refine Ev.step (fun k => by rw [spec_l1Cur_chords.j1]) ?_
    refine Ev.pos rfl (Ev.bindc e1 ?_)
    simp only
    rw [w64 (x := 2 * (m : Int)) (by omega) (by omega), w64 (x := 4 + 2 * (m : Int)) (by omega) (by omega)]
    refine Ev.bindk hpl (Ev.pos (by omega) (Ev.pos (by omega) (Ev.bindc e2 (Ev.bindk hpl (Ev.bindk hEq (Ev.now _))))))
/-- Chords that are drawn: at most 50, of a number of points. -/
theorem chords_ok2 {l : List Int} (hl : By l) {n a : Int} (s : Int) (ha : At n a) (hn : n ≤ 500000000) :
    ∃ p r a' s', Ev (fun k => spec_l1Cur_chords.f k l a s) (p, r, a', s') ∧ -1 ≤ p ∧ p ≤ 4611686018427387904 ∧ r.length ≤ 50 ∧ At (n + 1000) a' := by
  obtain ⟨p, xs, a1, s1, hE, hp1, hp2, hx, h1⟩ := sureChords_ok hl s ha (by omega) 9 (by omega)
  obtain ⟨r, a2, s2, e2, _, _, _, h2⟩ := pick_ok hl s1 h1 (by omega) 18
  unfold spec_l1Cur_chords.f
  by_cases c0 : r = 0
  · obtain ⟨p3, a3, s3, e3, hm, h3⟩ := among_ok hl s2 h2 (by omega) [(-1), 2, 3, 60, 61, 4611686018427387904] (by simp)
    simp only [List.mem_cons, List.not_mem_nil, or_false] at hm
    refine ⟨p3, xs, a3, s3, ?_, by omega, by omega, by omega, h3.up (by omega)⟩
    exact Ev.bindk hE (Ev.bindc e2 (Ev.pos c0 (Ev.bindc e3 (Ev.now _))))
  by_cases c1 : r = 1
  · obtain ⟨p3, a3, s3, e3, _, h3⟩ := among_ok hl s2 h2 (by omega) [(-1), 0, 2, 59, 4611686018427387904] (by simp)
    obtain ⟨p4, a4, s4, e4, _, h4⟩ := among_ok hl s3 h3 (by omega) [(-1), 0, 3, 59, 60, 4611686018427387904] (by simp)
    refine ⟨p, xs ++ [⟨p3, p4⟩], a4, s4, ?_, by omega, by omega, by simp; omega, h4.up (by omega)⟩
    exact Ev.bindk hE (Ev.bindc e2 (Ev.neg c0 (Ev.pos c1 (Ev.bindc e3 (Ev.bindc e4 (Ev.pos (by simp only; omega) (Ev.now _)))))))
  by_cases c2 : r = 2
  · obtain ⟨q, a3, s3, hE3, hq, h3⟩ := manyLoop_ok hl 12 41 0 [] (n + 402) a2 s2 (by omega) (by simp) (h2.up (by omega)) (by omega)
    refine ⟨12, q, a3, s3, ?_, by omega, by omega, by omega, h3.up (by omega)⟩
    exact Ev.bindk hE (Ev.bindc e2 (Ev.neg c0 (Ev.neg c1 (Ev.pos c2 hE3))))
  by_cases c3 : r = 3
  · obtain ⟨n3, q3, a3, s3, e3, g1, g2, g3, g4, h3⟩ := sureStar_ok hl s2 h2 (by omega)
    have hlen : (setC (chsFrom n3 q3 n3.toNat 0)).length ≤ 14 := by
      refine Nat.le_trans (setC_length _) ?_
      rw [chsFrom_length]
      omega
    by_cases c : ((setC (chsFrom n3 q3 n3.toNat 0)).length : Int) > 12
    · refine ⟨n3, (setC (chsFrom n3 q3 n3.toNat 0)).take (12 : Int).toNat, a3, s3, ?_, by omega, by omega, by rw [List.length_take]; omega, h3.up (by omega)⟩
      exact Ev.bindk hE (Ev.bindc e2 (Ev.neg c0 (Ev.neg c1 (Ev.neg c2 (Ev.pos c3 (Ev.bindc e3 (Ev.bindk (srChords_ev n3 q3 (by omega) (by omega)) (Ev.pos c (Ev.pos (by omega) (Ev.now _))))))))))
    · refine ⟨n3, setC (chsFrom n3 q3 n3.toNat 0), a3, s3, ?_, by omega, by omega, by omega, h3.up (by omega)⟩
      exact Ev.bindk hE (Ev.bindc e2 (Ev.neg c0 (Ev.neg c1 (Ev.neg c2 (Ev.pos c3 (Ev.bindc e3 (Ev.bindk (srChords_ev n3 q3 (by omega) (by omega)) (Ev.neg c (Ev.now _)))))))))
  by_cases c4 : r = 4
  · obtain ⟨p', q, a3, s3, hE3, g1, g2, g3, h3⟩ := chordsJ_ok hl p xs (r == 4) s2 h2 (by omega) (by omega) (by omega)
    exact ⟨p', q, a3, s3, Ev.bindk hE (Ev.bindc e2 (Ev.neg c0 (Ev.neg c1 (Ev.neg c2 (Ev.neg c3 (Ev.pos c4 hE3)))))), g1, g2, g3, h3.up (by omega)⟩
  · obtain ⟨p', q, a3, s3, hE3, g1, g2, g3, h3⟩ := chordsJ_ok hl p xs (r == 5) s2 h2 (by omega) (by omega) (by omega)
    exact ⟨p', q, a3, s3, Ev.bindk hE (Ev.bindc e2 (Ev.neg c0 (Ev.neg c1 (Ev.neg c2 (Ev.neg c3 (Ev.neg c4 hE3)))))), g1, g2, g3, h3.up (by omega)⟩
end Go.Proofs.Ytdjbdpgdhpobfaa.M
/- Regions are as many as chords and crossings and one, pieces as chords and twice the crossings, and arcs are parted as shades tell: the plain law. -/
namespace Go.Proofs.Ytdjbdpgdhpobfaa.Pure
open Go.RowKit Go.Proofs.Ytdjbdpgdhpobfaa.Pr Go.Proofs.Ytdjbdpgdhpobfaa.M Go.Proofs.YtdjbdpgdhpobfaaW.PrintWords Go.Proofs.YtdjbdpgdhpobfaaW.PrintLast
theorem drawA {l : List Int} (hl : By l) : ∃ n xs i j, Ev (fun k => spec_DrawArcsParted.f k l) (n, xs, i, j) ∧ xs.length ≤ 50 := by
  obtain ⟨n, xs, a1, s1, hE, _, _, hx, h1⟩ := chords_ok2 hl 0 (n := 0) (a := 0) ⟨by omega, by omega⟩ (by omega)
  obtain ⟨m, hm⟩ : ∃ m, spec_l1Most.f 1 n = some m := by unfold spec_l1Most.f; split <;> exact ⟨_, rfl⟩
  obtain ⟨q, hq⟩ : ∃ q, spec_l1Least.f 60 m = some q := by unfold spec_l1Least.f; split <;> exact ⟨_, rfl⟩
  obtain ⟨r1, a2, s2, e1, _, _, _, h2⟩ := pick_ok hl s1 h1 (by omega) q
  obtain ⟨r2, a3, s3, e2, _, _, _, h3⟩ := pick_ok hl s2 h2 (by omega) 9
  obtain ⟨r3, a4, s4, e3, _, _, _, h4⟩ := pick_ok hl s3 h3 (by omega) q
  refine ⟨n, xs, wrap64 (r1 - wrap64 (Int.tdiv r2 8)), r3, ?_, hx⟩
  unfold spec_DrawArcsParted.f
  exact Ev.bindk hE (Ev.bindc hm (Ev.bindc hq (Ev.bindc e1 (Ev.bindc e2 (Ev.bindc e3 (Ev.now _))))))
theorem drawP {l : List Int} (hl : By l) : ∃ n xs i, Ev (fun k => spec_DrawPiecesOfChord.f k l) (n, xs, i) ∧ xs.length ≤ 50 := by
  obtain ⟨n, xs, a1, s1, hE, _, _, hx, h1⟩ := chords_ok2 hl 0 (n := 0) (a := 0) ⟨by omega, by omega⟩ (by omega)
  obtain ⟨r1, a2, s2, e1, _, _, _, h2⟩ := pick_ok hl s1 h1 (by omega) (wrap64 ((xs.length : Int) + 1))
  obtain ⟨r2, a3, s3, e2, _, _, _, h3⟩ := pick_ok hl s2 h2 (by omega) 9
  refine ⟨n, xs, wrap64 (r1 - wrap64 (Int.tdiv r2 8)), ?_, hx⟩
  unfold spec_DrawPiecesOfChord.f
  exact Ev.bindk hE (Ev.bindc e1 (Ev.bindc e2 (Ev.now _)))
theorem drawS {l : List Int} (hl : By l) : ∃ n s, spec_DrawRegionsOfStar.f l = some (n, s) := by
  obtain ⟨n, s, a1, s1, e, _⟩ := star_ok hl 0 (n := 0) (a := 0) ⟨by omega, by omega⟩ (by omega)
  unfold spec_DrawRegionsOfStar.f
  rw [e]
  exact ⟨_, _, rfl⟩
theorem drawM {l : List Int} (hl : By l) : ∃ p, spec_DrawMostRegions.f l = some p := by
  obtain ⟨r1, a2, s2, e1, _, _, _, h2⟩ := pick_ok hl 0 (n := 0) (a := 0) ⟨by omega, by omega⟩ (by omega) 21
  obtain ⟨r2, a3, s3, e2, _, _, _, h3⟩ := pick_ok hl s2 h2 (by omega) 9
  unfold spec_DrawMostRegions.f
  rw [e1]
  simp only [Option.bind_some]
  rw [e2]
  exact ⟨_, rfl⟩
theorem Ev.val' {α : Type} {g : Option α} {r : α} (h : g = some r) : Ev (fun _ => g) r := ⟨0, fun _ _ => h⟩
theorem m_ok (p : Int) : rpM p (mostR p) = some () := by
  unfold rpM
  by_cases h : (mostR p).2 = true ∧ p > 3
  · have hi : inB p 3 20 = true := by
      have h1 := h.1
      unfold mostR at h1
      split at h1
      · assumption
      · cases h1
    have hi2 := of_decide_eq_true hi
    rw [if_pos h, w64 (by omega) (by omega), mostR_impl, Option.bind_some]
    have h2 : inB (p - 1) 3 20 = true := decide_eq_true (by omega)
    have e1 : mostR (p - 1) = (mostE (p - 1), true) := by unfold mostR; rw [if_pos h2]
    have e2 : mostR p = (mostE p, true) := by unfold mostR; rw [if_pos hi]
    rw [e1, e2, if_pos ⟨rfl, mostE_less p (by omega)⟩]
  · rw [if_neg h]
theorem s_ok (n s : Int) : Ev (fun k => rpS k n s (starR n s)) () := by
  unfold rpS
  by_cases hg : okStar n s = true
  · obtain ⟨h1, h2, h3, h4⟩ := star_chs hg
    have hs : starR n s = (wrap64 (wrap64 (1 + ((setC (chsFrom n s n.toNat 0)).length : Int)) + (pairsN (setC (chsFrom n s n.toNat 0)) : Int)), true) := by unfold starR; rw [if_pos hg]
    have hc : Ev (fun k => impl_ChordsOf.f k n s) (setC (chsFrom n s n.toNat 0), true) := by
      unfold impl_ChordsOf.f
      exact Ev.bindc (isStar_eq n s) (Ev.pos hg (Ev.bindk (chords_ev n s ⟨by omega, by omega⟩ ⟨by omega, by omega⟩) (Ev.now _)))
    have hx : Ev (fun k => impl_CountCrossings.f k n s) ((pairsN (setC (chsFrom n s n.toNat 0)) : Int), true) := by
      unfold impl_CountCrossings.f
      exact Ev.bindc (isStar_eq n s) (Ev.pos hg (Ev.bindk (chords_ev n s ⟨by omega, by omega⟩ ⟨by omega, by omega⟩) (Ev.bindk (crossings_evB _ (by omega)) (Ev.now _))))
    refine Ev.pos (by rw [hs]) (Ev.bindk hc (Ev.bindk hx (Ev.pos ⟨rfl, rfl, by rw [hs]⟩ ?_)))
    by_cases hn : n ≤ 20
    · have hm : mostR n = (mostE n, true) := by unfold mostR; rw [if_pos (show inB n 3 20 = true from decide_eq_true (by omega))]
      refine Ev.pos hn (Ev.bindc (mostR_impl n) ?_)
      rw [hm]
      exact Ev.pos ⟨rfl, by have := star_most hg hn; simp only; omega⟩ (Ev.now _)
    · exact Ev.neg hn (Ev.now _)
  · exact Ev.neg (by unfold starR; rw [if_neg hg]; decide) (Ev.now _)
theorem b_ok {l : List Int} (hl : By l) : Ev (fun k => rpB k l) () := by
  obtain ⟨m, set, i, e1, hs⟩ := drawP hl
  obtain ⟨n, s, e2⟩ := drawS hl
  obtain ⟨p, e3⟩ := drawM hl
  unfold rpB
  refine Ev.bindk e1 (Ev.bindk (pieces_impl m set i (by omega)) (Ev.bindk (pieces_spec m set i (by omega)) (Ev.bindc e2 (Ev.bindk (starR_impl n s) (Ev.bindk (starR_spec n s) (Ev.bindc e3 (Ev.bindc (mostR_impl p) (Ev.bindc (mostR_spec p) ?_))))))))
  exact Ev.pos ⟨rfl, rfl, rfl⟩ (Ev.bindk (s_ok n s) (Ev.val' (m_ok p)))
theorem beq_shade (l : List Ch) (i j : Int) : ((Int.tmod (ptN i j l : Int) 2 == 0) != (shade l i == shade l j)) = false := by
  have hp := ptN_parity i j l
  unfold shade
  rw [Int.tmod_eq_emod_of_nonneg (by omega)]
  have h2 : ((ptN i j l : Int) % 2 == 0) = decide (ptN i j l % 2 = 0) := by
    rw [Bool.eq_iff_iff, beq_iff_eq, decide_eq_true_eq]
    omega
  rw [h2]
  by_cases a : ptN 0 i l % 2 = 0 <;> by_cases b : ptN 0 j l % 2 = 0
  · rw [if_pos a, if_pos b, decide_eq_true (by omega)]; rfl
  · rw [if_pos a, if_neg b, decide_eq_false (by omega)]; rfl
  · rw [if_neg a, if_pos b, decide_eq_false (by omega)]; rfl
  · rw [if_neg a, if_neg b, decide_eq_true (by omega)]; rfl
theorem i_ok (p : Int) (xs : List Ch) (i j : Int) (hx : xs.length ≤ 50) : Ev (fun k => rpI k p xs i j (arcsB p xs i j) (shadesB p xs).1) () := by
  unfold rpI
  by_cases h : goodB p xs = true ∧ (0 ≤ i ∧ i ≤ p - 1) ∧ (0 ≤ j ∧ j ≤ p - 1)
  · obtain ⟨hg, hi, hj⟩ := h
    have e1 : arcsB p xs i j = ((ptN i j xs : Int), true) := by unfold arcsB; rw [if_pos ⟨hg, hi, hj⟩]
    have e2 : arcsB p xs j i = ((ptN i j xs : Int), true) := by unfold arcsB; rw [if_pos ⟨hg, hj, hi⟩, ptN_comm]
    have e3 : (shadesB p xs).1 = strOfNums (shades xs 0 p.toNat) := by unfold shadesB; rw [if_pos hg]
    have hsz : ((strOfNums (shades xs 0 p.toNat)).size : Int) = p := by
      rw [str_size, shades_length]
      omega
    have hle := ptN_le i j xs
    rw [e1, e3]
    refine Ev.pos rfl (Ev.bindk (arcs_impl p xs j i (by omega)) ?_)
    rw [e2]
    refine Ev.pos ⟨rfl, ⟨by simp only; omega, by simp only; omega⟩, ?_, ⟨hi.1, by omega⟩, ⟨hj.1, by omega⟩, ?_⟩ (Ev.now _)
    · intro hij
      subst hij
      simp only [ptN_self]
      rfl
    · rw [shade_bt p xs i hi.1 (by omega), shade_bt p xs j hj.1 (by omega)]
      exact beq_shade xs i j
  · have e1 : arcsB p xs i j = (0, false) := by unfold arcsB; rw [if_neg h]
    rw [e1]
    exact Ev.neg (by decide) (Ev.now _)
def sN (xs : List Ch) (n : Nat) : Nat := ((xs.take n).map fun c => 1 + cnt c xs).sum
theorem sN_succ (xs : List Ch) (n : Nat) (h : n < xs.length) : sN xs (n + 1) = sN xs n + (1 + cnt xs[n] xs) := by
  unfold sN
  rw [List.take_succ_eq_append_getElem h, List.map_append, List.sum_append]
  simp
theorem l_ok (p : Int) (xs : List Ch) (hg : goodB p xs = true) (hx : xs.length ≤ 50) : ∀ (d c : Nat), c + d = xs.length → sN xs c ≤ c * 51 → Ev (fun k => rpL k p xs d (c : Int) (sN xs c : Int)) (sN xs xs.length : Int)
  | 0, c, h, _ => by
    unfold rpL
    rw [show c = xs.length by omega]
    exact Ev.now _
  | d + 1, c, h, hs => by
    have hc : c < xs.length := by omega
    have hcn := cnt_le xs[c] xs
    have hss := sN_succ xs c hc
    have hpv : piecesB p xs (c : Int) = (1 + (cnt xs[c] xs : Int), true) := by
      unfold piecesB
      rw [if_pos ⟨hg, by omega, by omega⟩, Int.toNat_natCast, List.getD_eq_getElem?_getD, List.getElem?_eq_getElem hc]
      rfl
    have ih := l_ok p xs hg hx d (c + 1) (by omega) (by rw [hss]; omega)
    refine Ev.congr (fun k => by rw [rpL]) ?_
    refine Ev.bindk (pieces_impl p xs c (by omega)) ?_
    rw [hpv]
    refine Ev.pos ⟨rfl, by simp only; omega⟩ ?_
    simp only
    rw [w64 (by omega) (by omega), show (sN xs c : Int) + (1 + (cnt xs[c] xs : Int)) = (sN xs (c + 1) : Int) by omega, show (c : Int) + 1 = ((c + 1 : Nat) : Int) by omega]
    exact ih
theorem one_ok3 (p : Int) (xs : List Ch) (hg : goodB p xs = true) (hx : xs.length ≤ 50) : Ev (fun k => rpOne k p xs (regionsB p xs).1 (piecesAll p xs).1 (shadesB p xs).1) () := by
  obtain ⟨hp, h40, hv⟩ := good_ok hg
  have hpr := pairsN_le xs
  have hmm : xs.length * xs.length ≤ 40 * 40 := Nat.mul_le_mul h40 h40
  have e1 : regionsB p xs = (1 + xs.length + (pairsN xs : Int), true) := by unfold regionsB; rw [if_pos hg]
  have e2 : piecesAll p xs = ((xs.length : Int) + 2 * (pairsN xs : Int), true) := by unfold piecesAll; rw [if_pos hg]
  have e3 : (shadesB p xs).1 = strOfNums (shades xs 0 p.toNat) := by unfold shadesB; rw [if_pos hg]
  have hsz : ((strOfNums (shades xs 0 p.toNat)).size : Int) = p := by
    rw [str_size, shades_length]
    omega
  have hsum : (piecesAll p xs).1 = (sN xs xs.length : Int) := by
    have h := pieces_sum xs
    unfold piecesAll sN
    rw [if_pos hg, List.take_length]
    simp only
    omega
  have hc : Ev (fun k => impl_CountPairsCrossing.f k p xs) ((pairsN xs : Int), true) := by
    unfold impl_CountPairsCrossing.f
    exact Ev.bindk (isSet_ev p xs (by omega)) (Ev.pos hg (Ev.bindk (crossings_ev xs h40) (Ev.now _)))
  unfold rpOne
  refine Ev.bindk hc (Ev.pos ⟨rfl, ?_, ?_, ?_, ?_, ?_, by omega⟩ (Ev.bindk (l_ok p xs hg hx xs.length 0 (by omega) (Nat.zero_le _)) (Ev.pos hsum.symm (Ev.now _))))
  · rw [e1]; simp only; rw [w64 (x := 1 + (xs.length : Int)) (by omega) (by omega), w64 (by omega) (by omega)]
  · rw [e2]; simp only; rw [w64 (x := 2 * (pairsN xs : Int)) (by omega) (by omega), w64 (by omega) (by omega)]
  · rw [e3]; exact hsz
  · rw [e3]; omega
  · rw [e3, shade_bt p xs 0 (by omega) (by omega)]
    unfold shade
    rw [ptN_self]
    rfl
theorem a_ok (n : Int) (xs : List Ch) (i j : Int) (hx : xs.length ≤ 50) : Ev (fun k => rpA k n xs i j) () := by
  unfold rpA
  have r2 : (regionsB n xs).2 = goodB n xs := by unfold regionsB; cases h : goodB n xs <;> simp
  have p2 : (piecesAll n xs).2 = goodB n xs := by unfold piecesAll; cases h : goodB n xs <;> simp
  have s2 : (shadesB n xs).2 = goodB n xs := by unfold shadesB; cases h : goodB n xs <;> simp
  refine Ev.bindk (arcs_impl n xs i j (by omega)) (Ev.bindk (arcs_spec n xs i j (by omega)) (Ev.bindk (regions_impl n xs (by omega)) (Ev.bindk (regions_spec n xs (by omega)) (Ev.bindk (all_impl n xs (by omega)) (Ev.bindk (all_spec n xs (by omega)) (Ev.bindk (shades_impl n xs (by omega)) (Ev.bindk (shades_spec n xs (by omega)) (Ev.bindk (areChords_ev n xs (by omega)) ?_))))))))
  refine Ev.pos ⟨rfl, rfl, rfl, rfl, r2, p2, s2, fun ha => ?_⟩ ?_
  · unfold arcsB at ha
    split at ha
    · rename_i h; exact h.1
    · cases ha
  · refine Ev.bindk (a := ()) ?_ (i_ok n xs i j hx)
    by_cases hg : goodB n xs = true
    · exact Ev.pos hg (one_ok3 n xs hg hx)
    · exact Ev.neg hg (Ev.now _)
theorem FnRegionsPart : ∀ (l0 : List Int) (l1 : List Int), l0.length ≤ maxLen → (∀ x ∈ l0, (Lit.int .u8 x).wf = true) → l1.length ≤ maxLen → (∀ x ∈ l1, (Lit.int .u8 x).wf = true) → ∃ k, laws_FnRegionsPart.f k l0 l1 = some true := by
  intro l0 l1 _ w0 _ w1
  have hl0 := by_wf w0
  have hl1 := by_wf w1
  refine Ev.rounds ?_
  unfold laws_FnRegionsPart.f
  obtain ⟨b, hb⟩ : ∃ b, laws_big.f l0 l1 = some b := by unfold laws_big.f; split <;> exact ⟨_, rfl⟩
  refine Ev.bindc hb ?_
  cases b with
  | true => exact Ev.pos rfl (Ev.now _)
  | false =>
    obtain ⟨n, xs, i, j, e1, hx⟩ := drawA hl0
    exact Ev.neg (by decide) (Ev.bindk e1 (Ev.bindk (a_ok n xs i j hx) (Ev.bindk (b_ok hl1) (Ev.now _))))
end Go.Proofs.Ytdjbdpgdhpobfaa.Pure
/- Shared steps of the rows: an argument that is a slice of structs of whole numbers, read as a list of lists of numbers. -/
namespace Go.Proofs.Ytdjbdpgdhpobfaa.RowA
open Go.ChangeShapes Go.WideShapes Go.Deep Go.RowKit Go.Proofs.YtdjbdpgdhpobfaaW.PrintWords
section
variable {H : Type} {enc : TypeId × Value → H} {P : Program} {w : World} {base : Nat} {spare : Nat → Bool} {held : Bool}
/-- A slice of structs whose fields are one cell each: nil, or an address with, for each element and each field, the cell and the field's own reading. -/
theorem open_cells {t e : TypeId} {fs : Array Field} {fuel : Nat} {cs : List Value} {x : DataW H × List MemPlace} (ht : P.underlying t = some (.slice e)) (he : P.underlying e = some (.struct fs))
    (hone : oneCellFields P fs = true) (hC : P.cellsOf e = fs.size) (h : DataW.trod enc P w base spare held fuel t cs = some x) :
    cs = [.slice none 0 0] ∨
    ∃ (a : Addr) (len cap : Nat), cs = [.slice (some a) len cap] ∧ len ≤ cap ∧ cap ≤ maxLen ∧
      ∀ i, i < len → ∃ n, ∀ (j : Nat) (f : Field), fs[j]? = some f → ∃ (v : Value) (y : DataW H × List MemPlace), w.cell? (a.add (i * fs.size + j)) = some v ∧ DataW.trod enc P w base spare held n f.type [v] = some y := by
  rcases open_slice ht h with h0 | ⟨a, len, cap, m, n, D, Pl, hcs, hb, hl, hm, hmm, hx, hi⟩
  · exact .inl h0.1
  · refine .inr ⟨a, len, cap, hcs, hl, hm, fun i hil => ?_⟩
    have him : i < m := by
      rw [hmm]
      split
      · omega
      · exact hil
    obtain ⟨cs', hc, ht'⟩ := hi i him
    rw [hC] at hc
    obtain ⟨ys, n', hn', hy, hlen, hyl, hf⟩ := DataW.trod_struct he ht'
    obtain ⟨_, hcl, hat⟩ := World.cells?_some hc
    refine ⟨n', fun j f hj => ?_⟩
    obtain ⟨ho, hk⟩ := hone_of hone j f hj
    have hjl : j < fs.size := (Array.getElem?_eq_some_iff.1 hj).1
    have hcell := hat j hjl
    have hv : cs'[j]? = some (cs'[j]'(by omega)) := List.getElem?_eq_getElem (by omega)
    have h1 := hf j f hj
    rw [ho, hk] at h1
    have hone' : (cs'.drop j).take 1 = [cs'[j]'(by omega)] := by
      rw [List.drop_eq_getElem_cons (by omega)]
      rfl
    rw [hone'] at h1
    have hys : ys[j]? = some (ys[j]'(by omega)) := List.getElem?_eq_getElem (by omega)
    refine ⟨_, _, ?_, h1.trans hys⟩
    rw [← Go.Deep.add_add, hcell, hv]
/-- One whole number's reading. -/
theorem read_i64 {t : TypeId} {n : Nat} {v : Value} {y : DataW H × List MemPlace} (hu : P.underlying t = some (.int .i64)) (h : DataW.trod enc P w base spare held n t [v] = some y) :
    ∃ z : Int, v = .int .i64 z ∧ (Lit.int .i64 z).wf = true := by
  obtain ⟨z, hz, _, hw⟩ := DataW.trod_int hu h
  simp at hz
  exact ⟨z, hz, hw⟩
/-- A slice of structs of m whole numbers, as it is handed over: the numbers by element and field. -/
theorem open_nums {t e : TypeId} {fs : Array Field} {a : Option Addr} {len cap : Nat} {d : DataW H} {ps : List MemPlace} (ht : P.underlying t = some (.slice e)) (he : P.underlying e = some (.struct fs))
    (hone : oneCellFields P fs = true) (hC : P.cellsOf e = fs.size) (hi : ∀ (j : Nat) (f : Field), fs[j]? = some f → P.underlying f.type = some (.int .i64))
    (h : DataW.Trod enc P w base spare held t (.slice a len cap) d ps) :
    len ≤ cap ∧ len ≤ maxLen ∧ ∃ z : Nat → Nat → Int, (∀ i j, i < len → j < fs.size → (Lit.int .i64 (z i j)).wf = true) ∧
      (0 < len → ∃ ad, a = some ad ∧ ∀ i j, i < len → j < fs.size → w.cell? (ad.add (i * fs.size + j)) = some (.int .i64 (z i j))) := by
  obtain ⟨fuel, hf⟩ := h
  rcases open_cells ht he hone hC hf with hcs | ⟨x, l, c, hcs, hl, hm, hcell⟩
  · simp [Value.cells] at hcs
    obtain ⟨rfl, rfl, rfl⟩ := hcs
    exact ⟨Nat.le_refl _, Nat.zero_le _, fun _ _ => 0, fun i j h => absurd h (Nat.not_lt_zero _), fun h => absurd h (Nat.not_lt_zero _)⟩
  · simp [Value.cells] at hcs
    obtain ⟨rfl, rfl, rfl⟩ := hcs
    refine ⟨hl, Nat.le_trans hl hm, ?_⟩
    have hz : ∀ i j, ∃ z : Int, i < len → j < fs.size → w.cell? (x.add (i * fs.size + j)) = some (.int .i64 z) ∧ (Lit.int .i64 z).wf = true := by
      intro i j
      by_cases h1 : i < len
      · by_cases h2 : j < fs.size
        · obtain ⟨n, hn⟩ := hcell i h1
          obtain ⟨v, y, hv, hy⟩ := hn j fs[j] (Array.getElem?_eq_getElem h2)
          obtain ⟨z, rfl, hw⟩ := read_i64 (hi j fs[j] (Array.getElem?_eq_getElem h2)) hy
          exact ⟨z, fun _ _ => ⟨hv, hw⟩⟩
        · exact ⟨0, fun _ h => absurd h h2⟩
      · exact ⟨0, fun h _ => absurd h h1⟩
    exact ⟨fun i j => (hz i j).choose, fun i j h1 h2 => ((hz i j).choose_spec h1 h2).2, fun _ => ⟨x, rfl, fun i j h1 h2 => ((hz i j).choose_spec h1 h2).1⟩⟩
/-- A row of whole numbers, as the walk reads it. -/
theorem open_row {t e : TypeId} {k : IntKind} {a : Option Addr} {len cap : Nat} {d : DataW H} {ps : List MemPlace} (ht : P.underlying t = some (.slice e)) (he : P.underlying e = some (.int k)) (hc : P.cellsOf e = 1)
    (h : DataW.Trod enc P w base spare held t (.slice a len cap) d ps) :
    len ≤ cap ∧ len ≤ maxLen ∧ ∃ l : List Int, (∀ x ∈ l, (Lit.int k x).wf = true) ∧ l.length = len ∧ (Kd.int k).C w a l.length l := by
  obtain ⟨fuel, hf⟩ := h
  rcases Go.ChangeShapes.open_ints ht he hc hf with ⟨hcs, _⟩ | ⟨x, l, c, zs, hcs, _, hl, hm, hz, _, hcell, hw⟩
  · simp [Value.cells] at hcs
    obtain ⟨rfl, rfl, rfl⟩ := hcs
    exact ⟨Nat.le_refl _, Nat.zero_le _, [], fun x hx => (List.not_mem_nil hx).elim, rfl, Kd.C_nil _ _⟩
  · simp [Value.cells] at hcs
    obtain ⟨rfl, rfl, rfl⟩ := hcs
    have hlz : len ≤ zs.length := by rw [hz]; split <;> omega
    have hlen : (zs.take len).length = len := by rw [List.length_take]; omega
    refine ⟨hl, Nat.le_trans hl hm, zs.take len, fun n hn => hw n (List.mem_of_mem_take hn), hlen, ?_⟩
    refine Kd.C_of_reads (d := (0 : Int)) ⟨rfl, by rw [hlen]; unfold maxLen at hm; omega, fun _ => ⟨x, rfl, fun j hj => ?_⟩⟩
    rw [hlen] at hj
    have e1 := hcell j (by omega)
    have e2 : (zs.take len).getD j 0 = zs.getD j 0 := by
      simp only [List.getD_eq_getElem?_getD, List.getElem?_take, if_pos hj]
    rw [e2]
    exact e1
/-- The same, of one reading. -/
theorem open_nums_at {t e : TypeId} {fs : Array Field} {a : Option Addr} {len cap fuel : Nat} {x : DataW H × List MemPlace} (ht : P.underlying t = some (.slice e)) (he : P.underlying e = some (.struct fs))
    (hone : oneCellFields P fs = true) (hC : P.cellsOf e = fs.size) (hi : ∀ (j : Nat) (f : Field), fs[j]? = some f → P.underlying f.type = some (.int .i64))
    (hf : DataW.trod enc P w base spare held fuel t [.slice a len cap] = some x) :
    len ≤ cap ∧ len ≤ maxLen ∧ ∃ z : Nat → Nat → Int, (∀ i j, i < len → j < fs.size → (Lit.int .i64 (z i j)).wf = true) ∧
      (0 < len → ∃ ad, a = some ad ∧ ∀ i j, i < len → j < fs.size → w.cell? (ad.add (i * fs.size + j)) = some (.int .i64 (z i j))) :=
  open_nums (d := x.1) (ps := x.2) ht he hone hC hi ⟨fuel, by simpa [Value.cells] using hf⟩
/-- A struct of one slice. -/
theorem open_one {r : Reach} {b0 : Nat} {t e : TypeId} {f0 : Field} {v : Value} {d : DataW H} {p : List MemPlace} (hs : P.underlying t = some (.struct #[f0])) (hf0 : P.underlying f0.type = some (.slice e)) (hone : oneCellFields P #[f0] = true) (hC : P.cellsOf t = 1)
    (hv : Value.okWide P w r b0 t v) (h : DataW.Trod enc P w base spare held t v d p) :
    ∃ (a : Option Addr) (len cap : Nat) (y : DataW H × List MemPlace) (n : Nat), v = .agg #[.slice a len cap] ∧ DataW.trod enc P w base spare held n f0.type [.slice a len cap] = some y := by
  obtain ⟨cs, rfl, hsz⟩ := okWide_struct hs hv
  rw [hC] at hsz
  obtain ⟨c0, rfl⟩ : ∃ c, cs = #[c] := Array.size_eq_one_iff.mp hsz
  obtain ⟨fuel, hf⟩ := h
  obtain ⟨ys, n', hn', hy, hlen, hyl, hg⟩ := DataW.trod_struct hs hf
  obtain ⟨o0, k0⟩ := hone_of hone 0 f0 rfl
  have h1 := hg 0 f0 rfl
  rw [o0, k0] at h1
  have hv1 : (List.drop 0 (Value.agg #[c0]).cells.toList).take 1 = [c0] := rfl
  have h2 : DataW.trod enc P w base spare held n' f0.type [c0] = ys[0]? := h1
  have hys : ys[0]? = some (ys[0]'(by rw [hyl]; exact Nat.zero_lt_one)) := List.getElem?_eq_getElem _
  rw [hys] at h2
  rcases open_slice hf0 h2 with h0 | ⟨a, len, cap, m, n, D, Pl, hcs, _⟩
  · have := h0.1
    simp at this
    subst this
    exact ⟨none, 0, 0, _, n', rfl, h2⟩
  · simp at hcs
    subst hcs
    exact ⟨some a, len, cap, _, n', rfl, h2⟩
/-- A desk: a struct of two whole numbers, a whole number and a text. -/
theorem open_desk {r : Reach} {b0 : Nat} {t : TypeId} {F0 F1 F2 G0 G1 : Field} {v : Value} {d : DataW H} {p : List MemPlace} (hs : P.underlying t = some (.struct #[F0, F1, F2])) (hs0 : P.underlying F0.type = some (.struct #[G0, G1]))
    (g0 : P.underlying G0.type = some (.int .i64)) (g1 : P.underlying G1.type = some (.int .i64)) (f1 : P.underlying F1.type = some (.int .i64)) (f2 : P.underlying F2.type = some .string) (hone : oneCellFields P #[G0, G1] = true)
    (hC : (P.cellsOf t == 4 && F0.offset == 0 && P.cellsOf F0.type == 2 && F1.offset == 2 && P.cellsOf F1.type == 1 && F2.offset == 3 && P.cellsOf F2.type == 1) = true)
    (hv : Value.okWide P w r b0 t v) (h : DataW.Trod enc P w base spare held t v d p) :
    ∃ (x0 x1 x2 : Int) (s : ByteArray), v = .agg #[.int .i64 x0, .int .i64 x1, .int .i64 x2, .string s] ∧ (Lit.int .i64 x0).wf = true ∧ (Lit.int .i64 x1).wf = true ∧ (Lit.int .i64 x2).wf = true ∧ s.size ≤ maxLen := by
  simp only [Bool.and_eq_true, beq_iff_eq] at hC
  obtain ⟨⟨⟨⟨⟨⟨q0, q1⟩, q2⟩, q3⟩, q4⟩, q5⟩, q6⟩ := hC
  obtain ⟨cs, rfl, hsz⟩ := okWide_struct hs hv
  obtain ⟨l⟩ := cs
  have hl4 : l.length = 4 := hsz.trans q0
  obtain ⟨c0, c1, c2, c3, rfl⟩ : ∃ c0 c1 c2 c3, l = [c0, c1, c2, c3] := by
    match l, hl4 with
    | [c0, c1, c2, c3], _ => exact ⟨c0, c1, c2, c3, rfl⟩
  obtain ⟨fuel, hf⟩ := h
  obtain ⟨ys, n', hn', hy, hlen, hyl, hg⟩ := DataW.trod_struct hs hf
  have hyl3 : ys.length = 3 := hyl
  have k0 := hg 0 F0 rfl
  have k1 := hg 1 F1 rfl
  have k2 := hg 2 F2 rfl
  rw [q1, q2] at k0
  rw [q3, q4] at k1
  rw [q5, q6] at k2
  have k0' : DataW.trod enc P w base spare held n' F0.type [c0, c1] = ys[0]? := k0
  have k1' : DataW.trod enc P w base spare held n' F1.type [c2] = ys[1]? := k1
  have k2' : DataW.trod enc P w base spare held n' F2.type [c3] = ys[2]? := k2
  rw [List.getElem?_eq_getElem (show 0 < ys.length by omega)] at k0'
  rw [List.getElem?_eq_getElem (show 1 < ys.length by omega)] at k1'
  rw [List.getElem?_eq_getElem (show 2 < ys.length by omega)] at k2'
  obtain ⟨x2, rfl, w2⟩ := read_i64 f1 k1'
  obtain ⟨s, hs1, _, hs2⟩ := DataW.trod_string f2 k2'
  simp only [List.cons.injEq, and_true] at hs1
  subst hs1
  obtain ⟨zs, n2, _, _, _, hzl, hz⟩ := DataW.trod_struct hs0 k0'
  have hzl2 : zs.length = 2 := hzl
  obtain ⟨o0, u0⟩ := hone_of hone 0 G0 rfl
  obtain ⟨o1, u1⟩ := hone_of hone 1 G1 rfl
  have m0 := hz 0 G0 rfl
  have m1 := hz 1 G1 rfl
  rw [o0, u0] at m0
  rw [o1, u1] at m1
  have m0' : DataW.trod enc P w base spare held n2 G0.type [c0] = zs[0]? := m0
  have m1' : DataW.trod enc P w base spare held n2 G1.type [c1] = zs[1]? := m1
  rw [List.getElem?_eq_getElem (show 0 < zs.length by omega)] at m0'
  rw [List.getElem?_eq_getElem (show 1 < zs.length by omega)] at m1'
  obtain ⟨x0, rfl, w0⟩ := read_i64 g0 m0'
  obtain ⟨x1, rfl, w1⟩ := read_i64 g1 m1'
  exact ⟨x0, x1, x2, s, rfl, w0, w1, w2, hs2⟩
end
end Go.Proofs.Ytdjbdpgdhpobfaa.RowA
/- The row of the law FnRegionsPart: Regions are as many as chords and crossings and one, pieces as chords and twice the crossings, and arcs are parted as shades tell. -/
namespace Go.Proofs.Ytdjbdpgdhpobfaa.fnRegionsPart
open Go.ChangeShapes Go.WideShapes Go.ChangeAt Go.RowKit Go.Proofs.Ytdjbdpgdhpobfaa.Pr Go.Proofs.YtdjbdpgdhpobfaaW.PrintWords
open Go.ChangeMaps (open_string shut_string)
theorem own : ownKnob Try.prog.godebug = none := by kernel_rfl
theorem laidOut : laidOutB Try.prog = true := by kernel_rfl
set_option maxRecDepth 100000 in
theorem lifted (os : Os) (started : os.Started) (H : Type) (enc : TypeId × Value → H) :
    ReturnsInHanded {} Try.checked os 3 .any (Rows.fnRegionsPartSpec.pre6 enc Try.prog Try.f3 Rows.fnRegionsPartRow.domain false) (Rows.fnRegionsPartSpec.post enc Try.prog Try.f3 false true false false) := by
  refine returnsInHanded_of_change_sized (C := Try.checked) own started (by kernel_rfl) Try.func3
    (ChangeSpec.witness6 (enc := enc) (C := Try.checked) false ⟨#[], #[.slice none 0 0, .slice none 0 0], []⟩ 8 (by kernel_rfl) (by kernel_rfl) (by kernel_rfl) (by kernel_rfl)) ?_
  intro W base args ds gs before hval0 hW hcnd hsz0 _
  have hsz : (DataW.weightsEach Try.prog (Try.f3.params.toList ++ Rows.fnRegionsPartSpec.plain.varTypes Try.prog) (ds ++ gs)).all (· ≤ reachBytes) = true := hsz0
  have hval : ∀ (j : Nat) t v, Try.f3.params[j]? = some t → args[j]? = some v → Value.okWide Try.prog W .any base t v := hval0
  have hW' := hW
  obtain ⟨p, q, hA0, hV, rfl, hfz, hnd⟩ := hW
  have hA : DataW.TrodAll enc Try.prog W 0 (fun _ => true) true Try.f3.params.toList args.toList ds p := hA0
  rw [Try.params3] at hA hval hsz
  obtain ⟨v0, vs0, d0, ds0, p0, q0, hargs, rfl, rfl, h0, r0⟩ := trodAll_cons hA
  obtain ⟨v1, vs1, d1, ds1, p1, q1, rfl, rfl, rfl, h1, r1⟩ := trodAll_cons r0
  obtain ⟨rfl, rfl, rfl⟩ := trodAll_nil r1
  obtain rfl : args = #[v0, v1] := by cases args; simp_all
  obtain ⟨rfl, rfl⟩ := trodVars_none hV
  obtain ⟨b0, len0, cap0, rfl⟩ := okWide_slice Try.underlying22 (hval 0 22 v0 rfl rfl)
  have lt0 : ∀ x ∈ p0, x.block < W.heap.size := by obtain ⟨m, hm⟩ := h0; exact DataW.trod_lt m _ _ _ hm
  obtain ⟨hl0, hm0, l0, hw0, hn0, hr0⟩ := RowA.open_row (k := .u8) Try.underlying22 Try.underlying5 (by kernel_rfl) h0
  subst hn0
  obtain ⟨b1, len1, cap1, rfl⟩ := okWide_slice Try.underlying22 (hval 1 22 v1 rfl rfl)
  have lt1 : ∀ x ∈ p1, x.block < W.heap.size := by obtain ⟨m, hm⟩ := h1; exact DataW.trod_lt m _ _ _ hm
  obtain ⟨hl1, hm1, l1, hw1, hn1, hr1⟩ := RowA.open_row (k := .u8) Try.underlying22 Try.underlying5 (by kernel_rfl) h1
  subst hn1
  clear hA0 hval0 hsz0 hsz
  obtain ⟨k, hk⟩ := Pure.FnRegionsPart l0 l1 hm0 hw0 hm1 hw1
  refine (laws_FnRegionsPart.calls k _ _ l0 _ _ l1 true W hr0 hl0 hr1 hl1 hk).mono fun e W' he => ?_
  obtain ⟨he, bel0⟩ := he
  have bel : Below W.heap.size W W' := bel0
  subst he
  exact ⟨_, rfl, _, _, _, [], _, [], hW', trodAll_mk1 (shut_bool Try.underlying4 _), (trodAll_cons_mk (Below.trod laidOut (by kernel_rfl) (of_decide_eq_true (by kernel_rfl)) h0 bel lt0) (trodAll_cons_mk (Below.trod laidOut (by kernel_rfl) (of_decide_eq_true (by kernel_rfl)) h1 bel lt1) trodAll_mk0)), rfl, bel.frame _, fun h => by cases h⟩
theorem over : Rows.fnRegionsPartRow.holds Try.pinned (OpenSpec.ofChange Rows.fnRegionsPartSpec) :=
  OpenClaim.holds_of_wide 3 Try.f3 rfl rfl rfl rfl rfl rfl rfl ⟨rfl, rfl, rfl, rfl, rfl⟩ rfl rfl rfl rfl rfl (by kernel_rfl) Try.func3 (by kernel_rfl)
    (of_decide_eq_true (by kernel_rfl)) (by unfold Func.isWrapper; first | (rw [if_pos (by decide +kernel)]; kernel_rfl) | (rw [if_neg (by decide +kernel)]; exact ⟨rfl, rfl⟩))
    (fun os started H enc _ => lifted os started H enc)
theorem proved : Rows.FnRegionsPartSaid := over
end Go.Proofs.Ytdjbdpgdhpobfaa.fnRegionsPart
namespace Go.Proofs.Ytdjbdpgdhpobfaa
/-- The row, under a short name, for the claim. -/
theorem fnRegionsPart_holds : Rows.FnRegionsPartSaid := fnRegionsPart.proved
#print axioms fnRegionsPart_holds
end Go.Proofs.Ytdjbdpgdhpobfaa
