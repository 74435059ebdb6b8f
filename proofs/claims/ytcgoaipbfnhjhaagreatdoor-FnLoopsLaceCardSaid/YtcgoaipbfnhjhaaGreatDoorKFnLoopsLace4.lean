/- Letters are interlaced both ways, loops that are turned and told back are the same and drawn alike, and crossings are taken out. (Part 5 of 6.) -/
import Derived.Deep.CutRange
import Derived.OwnWalk
import Derived.BigFrame
import Derived.Deep.CutBlock
import Derived.Lib.LastIndexByte
import Derived.Lib.Walk
import Derived.Shelf.Strings.SlTrimAscii
import Derived.Lib.MinMaxS
import Derived.Test.YtcgoaipbfnhjhaaGreatDoorKFnLoopsLace0
import Derived.Test.YtcgoaipbfnhjhaaGreatDoorKFnLoopsLace1
import Derived.Test.YtcgoaipbfnhjhaaGreatDoorKFnLoopsLace2
import Derived.Test.YtcgoaipbfnhjhaaGreatDoorKFnLoopsLace3
-- Written by a program for this claim.
namespace Go.Proofs.YtcgoaipbfnhjhaaGreatDoor.Pr
open Go.RowKit Go.Proofs.YtcgoaipbfnhjhaaGreatDoorW.PrintWords Go.Proofs.YtcgoaipbfnhjhaaGreatDoorW.PrintLast Go.Proofs.YtcgoaipbfnhjhaaGreatDoorW.PrintMore
attribute [local go_sem] max2_int min2_int max_two min_two max_three min_three max_four min_four   -- for this text's walks alone
set_option linter.unusedVariables false
set_option linter.unusedSimpArgs false

/-! ### spec_DrawTurnLoop: function 50 -/
def spec_DrawTurnLoop.f (k : Nat) (l0 : List Int) : Option (ByteArray × Int) := (spec_l1Cur_loop.f k l0 0 0).bind fun bt251 => ((spec_l1Cur_pick.f l0 bt251.2.1 bt251.2.2 (wrap64 ((bt251.1.size : Int) + 2))).bind fun bt254 => (some (bt251.1, wrap64 (bt254.1 - 1))))
theorem spec_DrawTurnLoop.mono : ∀ a0 k, LeO (spec_DrawTurnLoop.f k a0) (spec_DrawTurnLoop.f (k + 1) a0) := by
  intro a0 k
  unfold spec_DrawTurnLoop.f
  repeat' first
      | (with_reducible exact spec_l1Cur_loop.mono _ _ _ _)
      | (with_reducible exact LeO.refl _)
      | (with_reducible exact LeO.none _)
      | (with_reducible refine LeO.ite ?_ ?_)
      | (with_reducible refine LeO.bind ?_ (fun _ => ?_))
      | exact spec_l1Cur_loop.mono _ _ _ _
      | exact LeO.none _
      | refine LeO.ite ?_ ?_
      | refine LeO.bind ?_ (fun _ => ?_)
set_option maxHeartbeats 8000000 in
set_option maxRecDepth 100000 in
theorem spec_DrawTurnLoop.calls (k : Nat) (A0 : Option Addr) (c0 : Nat) (l0 : List Int) (r1 : ByteArray) (r2 : Int) (w : World) (hr0 : Kd.C (Kd.int .u8) w A0 l0.length l0) (hc0 : l0.length ≤ c0) (h : spec_DrawTurnLoop.f k l0 = some (r1, r2)) :
    Calls Tryz.prog 50 #[.slice A0 l0.length c0] w fun e w' => e = .returned (.tuple #[.string r1, .int .i64 r2]) ∧ Below w.heap.size w w' := by
  have hu54 := Tryz.underlying54
  have HR0 := Aside0.mk hr0
  have HC0 := Aside0.mk hc0
  clear hr0 hc0
  have HB := Aside0.mk (Below.refl w.heap.size w)
  have H : ((spec_l1Cur_loop.f k l0 0 0).bind fun bt251 => ((spec_l1Cur_pick.f l0 bt251.2.1 bt251.2.2 (wrap64 ((bt251.1.size : Int) + 2))).bind fun bt254 => (some (bt251.1, wrap64 (bt254.1 - 1))))) = some (r1, r2) := h
  clear h
  replace H := Option.bind_eq_some_iff.mp H
  obtain ⟨⟨t251, t252, t253⟩, A20, H⟩ := H
  replace H : ((spec_l1Cur_pick.f l0 t252 t253 (wrap64 ((t251.size : Int) + 2))).bind fun bt254 => (some (t251, wrap64 (bt254.1 - 1)))) = some (r1, r2) := H
  have A2 := Aside0.mk A20
  clear A20
  replace H := Option.bind_eq_some_iff.mp H
  obtain ⟨⟨t254, t255, t256⟩, A30, H⟩ := H
  replace H : (some (t251, wrap64 (t254 - 1))) = some (r1, r2) := H
  have A3 := Aside0.mk A30
  clear A30
  simp only [Option.some.injEq, Prod.mk.injEq] at H
  obtain ⟨rfl, rfl⟩ := H
  go_enter Tryz.func50, Tryz.ntmps50
  go_wp2_with (first | ((with_reducible refine gate_dst (N := 8) rfl ?_); refine box_event ?hg (N := 8) ?hd (cs := #[.slice A0 l0.length c0, .int .i64 0, .int .u64 0]) (t := 54) ?hr ?_; (case hd => rfl); (case hg => rfl); (case hr => first | (go_simp; done) | (go_simp; rfl)); intro gb250 hg w4 hbox hb; have n0_ := Aside0.mk (below_step (by repeat (first | (with_reducible first | exact HB.out | apply below_alloc | apply pw_below_drewN | apply below_drew1) | exact HB.out)) hb); have n1_ := Aside0.mk ((by rw [hg]; exact (below_size (by repeat (first | (with_reducible first | exact HB.out | apply below_alloc | apply pw_below_drewN | apply below_drew1) | exact HB.out))) : w.heap.size ≤ gb250)); have n2_ := Aside0.mk ((by rw [hg]; exact (below_size (by repeat (first | (with_reducible first | exact HB.out | apply below_alloc | apply pw_below_drewN | apply below_drew1) | exact HB.out))) : w.heap.size ≤ gb250)); have n3_ := Aside0.mk ((show IsS54 w _ gb250 l0 0 0 from ⟨_, _, hbox, (by rw [hg]; exact (below_size (by repeat (first | (with_reducible first | exact HB.out | apply below_alloc | apply pw_below_drewN | apply below_drew1) | exact HB.out))) : w.heap.size ≤ gb250), HR0.out⟩)); clear HB; have HB := n0_; have GW250 := n1_; have GE250 := n2_; have HI250 := n3_; clear n0_ n1_ n2_ n3_; clear hb hbox hg) | ((with_reducible refine gate_callee (f := 70) rfl ?_); refine goesL_ (some 10) rfl rfl Tryz.func70 (by kernel_rfl) rfl #[.pointer (some ⟨gb250, 0, none⟩)] rfl (by (try simp only [List.map_toArray, List.map_cons, List.map_nil]); first | done | rfl | (simp only [List.length_drop, List.length_take]; rfl)) ?_; (with_reducible refine (spec_l1Cur_loop.calls k gb250 l0 0 0 t251 t252 t253 w _ ?side1 ?side2 A2.out).mono ?_); (case side1 => repeat (first | (with_reducible first | exact HI250.out | apply IsS54.alloc | apply IsS54.drewN | apply IsS54.drew | apply IsS54.set_1 | apply IsS54.set_2) | exact HI250.out)); (case side2 => repeat (first | (with_reducible first | exact HB.out | apply below_alloc | apply pw_below_drewN | apply below_drew1 | refine below_set ?_ (IsS54.ge HI250.out)) | exact HB.out)); rintro e w5 ⟨rfl, hi, hb, hk⟩; refine ⟨_, rfl, ?_⟩; have n0_ := Aside0.mk (hb); have n1_ := Aside0.mk (hi); clear HB; clear HI250; have HB := n0_; have HI250 := n1_; clear n0_ n1_; (try clear hb); (try clear hb2); (try clear hk); (try clear hi)) | ((with_reducible refine gate_callee (f := 73) rfl ?_); refine goesL_ (some 16) rfl rfl Tryz.func73 (by kernel_rfl) rfl #[.pointer (some ⟨gb250, 0, none⟩), .int .i64 (wrap64 ((t251.size : Int) + 2))] rfl (by (try simp only [List.map_toArray, List.map_cons, List.map_nil]); first | done | rfl | (simp only [List.length_drop, List.length_take]; rfl)) ?_; (with_reducible refine (spec_l1Cur_pick.calls gb250 l0 t252 t253 (wrap64 ((t251.size : Int) + 2)) t254 t255 t256 w _ ?side1 ?side2 A3.out).mono ?_); (case side1 => repeat (first | (with_reducible first | exact HI250.out | apply IsS54.alloc | apply IsS54.drewN | apply IsS54.drew | apply IsS54.set_1 | apply IsS54.set_2) | exact HI250.out)); (case side2 => repeat (first | (with_reducible first | exact HB.out | apply below_alloc | apply pw_below_drewN | apply below_drew1 | refine below_set ?_ (IsS54.ge HI250.out)) | exact HB.out)); rintro e w6 ⟨rfl, hi, hb, hk⟩; refine ⟨_, rfl, ?_⟩; have n0_ := Aside0.mk (hb); have n1_ := Aside0.mk (hi); clear HB; clear HI250; have HB := n0_; have HI250 := n1_; clear n0_ n1_; (try clear hb); (try clear hb2); (try clear hk); (try clear hi)))
  go_ret2
  exact ⟨by first | rfl | (simp [errW_none, errW_some] <;> rfl) | (simp [*, errW_none, errW_some] <;> rfl), by repeat (first | (with_reducible first | exact HB.out | apply below_alloc | apply pw_below_drewN | apply below_drew1 | refine below_set ?_ (IsS54.ge HI250.out)) | exact HB.out)⟩

end Go.Proofs.YtcgoaipbfnhjhaaGreatDoor.Pr

-- Written by a program for this claim.
namespace Go.Proofs.YtcgoaipbfnhjhaaGreatDoor.Pr
open Go.RowKit Go.Proofs.YtcgoaipbfnhjhaaGreatDoorW.PrintWords Go.Proofs.YtcgoaipbfnhjhaaGreatDoorW.PrintLast Go.Proofs.YtcgoaipbfnhjhaaGreatDoorW.PrintMore
attribute [local go_sem] max2_int min2_int max_two min_two max_three min_three max_four min_four   -- for this text's walks alone
set_option linter.unusedVariables false
set_option linter.unusedSimpArgs false

/-! ### laws_big: function 5 -/
def laws_big.f (l0 : List Int) (l1 : List Int) : Option (Bool) := if (l0.length : Int) > 1048576 then (some true) else (some (decide ((l1.length : Int) > (wrap64 (1048576 - (l0.length : Int))))))
set_option maxHeartbeats 8000000 in
set_option maxRecDepth 100000 in
theorem laws_big.calls (A0 : Option Addr) (c0 : Nat) (l0 : List Int) (A1 : Option Addr) (c1 : Nat) (l1 : List Int) (r : Bool) (w : World) (hr0 : Kd.C (Kd.int .u8) w A0 l0.length l0) (hc0 : l0.length ≤ c0) (hr1 : Kd.C (Kd.int .u8) w A1 l1.length l1) (hc1 : l1.length ≤ c1) (h : laws_big.f l0 l1 = some r) :
    Calls Tryz.prog 5 #[.slice A0 l0.length c0, .slice A1 l1.length c1] w fun e w' => e = .returned (.bool r) ∧ Drawn0 w w' := by
  have HR0 := Aside0.mk hr0
  have HC0 := Aside0.mk hc0
  clear hr0 hc0
  have HR1 := Aside0.mk hr1
  have HC1 := Aside0.mk hc1
  clear hr1 hc1
  have H : (if (l0.length : Int) > 1048576 then (some true) else (some (decide ((l1.length : Int) > (wrap64 (1048576 - (l0.length : Int))))))) = some r := h
  clear h
  by_cases c3 : (l0.length : Int) > 1048576
  · rw [if_pos c3] at H
    have c3b0 : decide (1048576 < (l0.length : Int)) = true := decide_eq_true c3
    have c3b1 : decide (1048576 < l0.length) = true := decide_eq_true (by omega)
    clear c3
    obtain rfl := Option.some.inj H
    go_enter Tryz.func5, Tryz.ntmps5
    go_wp2
    go_ret
    exact ⟨by first | rfl | (simp; done) | (simp [*]; done), by repeat (first | exact Drawn0.refl _ | apply Drawn0.step)⟩
  · rw [if_neg c3] at H
    have c3b0 : decide (1048576 < (l0.length : Int)) = false := decide_eq_false c3
    have c3b1 : decide (1048576 < l0.length) = false := decide_eq_false (by omega)
    clear c3
    obtain rfl := Option.some.inj H
    go_enter Tryz.func5, Tryz.ntmps5
    go_wp2
    go_ret
    exact ⟨by first | rfl | (simp; done) | (simp [*]; done), by repeat (first | exact Drawn0.refl _ | apply Drawn0.step)⟩

end Go.Proofs.YtcgoaipbfnhjhaaGreatDoor.Pr

/- What the law of laced loops computes: true, where each test holds. The functions alone. -/
namespace Go.Proofs.YtcgoaipbfnhjhaaGreatDoor.Pr
open Go.RowKit Go.Proofs.YtcgoaipbfnhjhaaGreatDoorW.PrintWords Go.Proofs.YtcgoaipbfnhjhaaGreatDoorW.PrintLast Go.Proofs.YtcgoaipbfnhjhaaGreatDoorW.PrintMore
set_option linter.unusedVariables false
set_option linter.unusedSimpArgs false

/-- Is a text one of the signs of a text, from a place on? -/
def hasF (s b : ByteArray) : Nat → Nat → Bool → Bool
  | 0, _, t => t
  | d + 1, j, t => hasF s b d (j + 1) (t || ((s.extract j (j + 1)).toList == b.toList))
def letS (i : Nat) : ByteArray := (⟨#[97, 98, 99, 100, 101, 102, 103, 104]⟩ : ByteArray).extract i (i + 1)
def atS (_w : ByteArray) (i : Nat) : ByteArray := letS i
def lcI (k : Nat) (w a wi : ByteArray) : Nat → Nat → Option Unit
  | 0, _ => some ()
  | n + 1, i => (impl_AreInterlaced.f k w a (letS i)).bind fun x => (impl_AreInterlaced.f k w (letS i) a).bind fun y =>
    if x.2 = true ∧ y = x ∧ hasF wi (letS i) wi.size 0 false = x.1 ∧ ((a.toList == (letS i).toList) && x.1) = false ∧ asciiB wi = true then lcI k w a wi n (i + 1) else none
def lcK (k : Nat) (w c : ByteArray) (d e : Bool) (N : Nat) : Nat → Nat → Option Unit
  | 0, _ => some ()
  | n + 1, i => (impl_InterlacedWith.f k w (atS w i)).bind fun wi => (lcI k w (atS w i) wi.1 N 0).bind fun _ => (impl_DropCrossing.f k w (atS w i)).bind fun le => (impl_CanBeDrawn.f k le.1).bind fun st =>
    if wi.2 = true ∧ (e = true → (wi.1.size : Int) % 2 = 0) ∧ wi.1.size ≤ 16 ∧ le.2 = true ∧ st.2 = true ∧ (hasF c (atS w i) c.size 0 false = true → st.1 = d ∧ wi.1 = ⟨#[]⟩) then lcK k w c d e N n (i + 1) else none
def lcB (k : Nat) (w : ByteArray) (d e : Bool) (f c : ByteArray) (s : Bool) (b : ByteArray) (n : Int) : Option Unit :=
  (impl_BackLoop.f k b).bind fun t => (impl_FirstLoop.f k b).bind fun o => (impl_CanBeDrawn.f k f).bind fun a => (impl_SameLoops.f k w f).bind fun m =>
  if t = (w, true) ∧ o = (f, true) ∧ a = (d, true) ∧ m = (true, true) ∧ (Op.bytesLess f.toList w.toList || f.toList == w.toList) = true ∧ (d = true → e = true) ∧ 0 ≤ n ∧ n ≤ 8 ∧ (w.size : Int) = 2 * n ∧ (c.size : Int) ≤ n ∧ (s = true → 0 < c.size → n ≤ 1) ∧ asciiB c = true then lcK k w c d e n.toNat n.toNat 0 else none
def lcA (k : Nat) (w : ByteArray) : Option Unit :=
  (impl_CanBeDrawn.f k w).bind fun d => (spec_CanBeDrawn.f k w).bind fun d' => (impl_IsEvenLoop.f k w).bind fun e => (spec_IsEvenLoop.f k w).bind fun e' => (impl_FirstLoop.f k w).bind fun f => (spec_FirstLoop.f k w).bind fun f' =>
  (impl_CurlsOf.f k w).bind fun c => (spec_CurlsOf.f k w).bind fun c' => (impl_IsOneLoop.f k w).bind fun s => (spec_IsOneLoop.f k w).bind fun s' => (impl_BackLoop.f k w).bind fun b => (spec_BackLoop.f k w).bind fun b' =>
  (impl_CountLoopCrossings.f k w).bind fun n => (spec_CountLoopCrossings.f k w).bind fun n' => (impl_IsLoop.f k w).bind fun g => (spec_IsLoop.f k w).bind fun g' =>
  if d' = d ∧ e' = e ∧ f' = f ∧ c' = c ∧ s' = s ∧ b' = b ∧ n' = n ∧ g' = g ∧ d.2 = g ∧ e.2 = g ∧ f.2 = g ∧ c.2 = g ∧ s.2 = g ∧ b.2 = g ∧ n.2 = g then (if g = true then lcB k w d.1 e.1 f.1 c.1 s.1 b.1 n.1 else some ()) else none
def lcV (k : Nat) (l1 : List Int) : Option Unit :=
  (spec_DrawAreInterlaced.f k l1).bind fun v => (impl_AreInterlaced.f k v.1 v.2.1 v.2.2).bind fun x => (spec_AreInterlaced.f k v.1 v.2.1 v.2.2).bind fun x' => (impl_InterlacedWith.f k v.1 v.2.1).bind fun y => (spec_InterlacedWith.f k v.1 v.2.1).bind fun y' =>
  (impl_DropCrossing.f k v.1 v.2.1).bind fun z => (spec_DropCrossing.f k v.1 v.2.1).bind fun z' => (spec_DrawTurnLoop.f k l1).bind fun u => (impl_TurnLoop.f k u.1 u.2).bind fun t => (spec_TurnLoop.f k u.1 u.2).bind fun t' =>
  if x' = x ∧ y' = y ∧ z' = z ∧ z.2 = y.2 ∧ t' = t then
    (if t.2 = true then (impl_SameLoops.f k u.1 t.1).bind fun m => (impl_CanBeDrawn.f k u.1).bind fun p => (impl_CanBeDrawn.f k t.1).bind fun q => if m = (true, true) ∧ p.2 = true ∧ q = p then some () else none else some ()) else none
def laws_FnLoopsLace.f (k : Nat) (l0 : List Int) (l1 : List Int) : Option (Bool) := (laws_big.f l0 l1).bind fun t => if t = true then some true else
  (spec_DrawCanBeDrawn.f k l0).bind fun w => (lcA k w).bind fun _ => (lcV k l1).bind fun _ => some true
end Go.Proofs.YtcgoaipbfnhjhaaGreatDoor.Pr

/- Frames of the law of laced loops: what a cut or a loop keeps. -/
namespace Go.Proofs.YtcgoaipbfnhjhaaGreatDoor.Pr
open Go.RowKit
set_option linter.unusedVariables false

/-- A frame in which only the slots 1, 5, 6, 7, 10, 14, 18, 22, 26, 30, 272 are told. -/
def laA (f : Nat → Value) (v1 v5 v6 v7 v10 v14 v18 v22 v26 v30 v272 : Value) : List Value := [
  f 0, v1, f 2, f 3, f 4, v5, v6, v7, f 8, f 9, v10, f 11, f 12, f 13, v14, f 15, f 16, f 17, v18, f 19, f 20, f 21, v22, f 23, f 24, f 25, v26, f 27, f 28, f 29, v30, f 31, f 32, f 33, undef, undef, undef, undef, undef, undef,
  undef, undef, undef, undef, undef, undef, undef, undef, undef, undef, undef, undef, undef, undef, undef, undef, undef, undef, undef, undef, undef, undef, undef, undef, undef, undef, undef, undef, undef, undef, undef, undef, undef, undef, undef, undef, undef, undef, undef, undef,
  undef, undef, undef, undef, undef, undef, undef, f 87, f 88, f 89, f 90, f 91, f 92, f 93, f 94, f 95, f 96, f 97, f 98, f 99, f 100, f 101, f 102, f 103, f 104, f 105, f 106, f 107, f 108, f 109, f 110, f 111, f 112, f 113, f 114, f 115, f 116, f 117, f 118, f 119,
  f 120, f 121, f 122, f 123, f 124, f 125, f 126, f 127, f 128, f 129, f 130, f 131, f 132, f 133, f 134, f 135, f 136, f 137, f 138, f 139, f 140, f 141, f 142, f 143, f 144, f 145, f 146, f 147, f 148, f 149, f 150, f 151, f 152, f 153, f 154, f 155, f 156, f 157, f 158, f 159,
  f 160, f 161, f 162, f 163, f 164, f 165, f 166, f 167, f 168, f 169, f 170, f 171, f 172, f 173, f 174, f 175, f 176, f 177, f 178, f 179, f 180, f 181, f 182, f 183, f 184, f 185, f 186, f 187, f 188, f 189, f 190, f 191, f 192, f 193, f 194, f 195, f 196, f 197, f 198, f 199,
  f 200, f 201, f 202, f 203, f 204, f 205, f 206, f 207, f 208, f 209, f 210, f 211, f 212, f 213, f 214, f 215, f 216, f 217, f 218, f 219, f 220, f 221, f 222, f 223, f 224, f 225, f 226, f 227, f 228, f 229, f 230, f 231, f 232, f 233, f 234, f 235, f 236, f 237, f 238, f 239,
  f 240, f 241, f 242, f 243, f 244, f 245, f 246, f 247, f 248, f 249, f 250, f 251, f 252, f 253, f 254, f 255, f 256, f 257, f 258, f 259, f 260, f 261, f 262, f 263, f 264, f 265, f 266, f 267, f 268, f 269, f 270, f 271, v272, undef, undef, undef, undef, undef, undef, undef,
  undef, undef, undef, undef, undef, undef, undef, undef, undef, undef, undef, undef, undef, undef, undef, undef, undef, undef, undef, undef, undef, undef, undef, undef, undef, undef, undef, undef, undef, undef, undef, undef, undef, undef, undef, undef, undef, undef, undef, undef,
  undef, undef, undef, undef, undef, undef, undef, undef, undef, undef, undef, undef, undef, undef, undef, undef, undef, undef, undef, undef, undef, undef, undef, undef, undef, undef, undef, undef, undef, undef, undef, undef, undef, undef, undef, undef, undef, undef, undef, undef,
  undef, undef, undef, undef, undef, undef, undef, undef, undef, undef, undef, undef, undef, undef, undef, undef, undef, undef, undef, undef, undef, undef, undef, undef, undef, undef, undef, undef, undef, undef, undef, undef, undef, undef, undef, undef, undef, undef, undef, undef,
  undef, undef, undef, undef, undef, undef, undef, undef, undef, undef, undef, undef, undef, undef, undef, undef, undef, undef, undef, undef, undef, undef, undef, undef, undef, undef, undef, undef, undef, undef, undef, undef, undef, undef, undef, undef, undef, undef, undef, undef,
  undef, undef, undef, undef, undef, undef, undef, undef, undef, undef, undef, undef, undef, undef, undef, undef, undef, undef, undef, undef, undef, undef, undef, undef, undef, undef, undef, undef, undef, undef, undef, undef, undef, undef, undef, undef, undef, undef, undef, undef,
  undef, undef, undef, undef, undef, undef, undef, undef, undef, undef, undef, undef, undef, undef, undef, undef, undef, undef, undef, undef, undef, undef, undef, undef, undef, undef, undef, undef, undef, undef, undef, undef, undef, undef, undef, undef, undef, undef, undef, undef,
  undef, undef, undef, undef, undef, undef, undef, undef, undef, undef, undef, undef, undef, undef, undef, undef, undef, undef, undef, undef, undef, undef, undef, undef, undef, undef, undef, undef, undef, undef, undef, undef, undef, undef, undef, undef, undef, undef, undef, undef,
  undef, undef, undef, undef, undef, undef, undef, undef, undef, undef, undef, undef, undef, undef, undef, undef, undef, undef, undef, undef, undef, undef, undef, undef, undef, undef, undef, undef, undef, undef, undef, undef, undef, undef, undef, undef, undef, undef, undef, undef,
  undef, undef, undef, undef, undef, undef, undef, undef, undef, undef, undef, undef, undef, undef, undef, undef, undef, undef, undef, undef, undef, undef, undef, undef, undef, undef, undef, undef, undef, undef, undef, undef, undef, undef, undef, undef, undef, undef, undef]
theorem laA_ex {x0 x1 x2 x3 x4 x5 x6 x7 x8 x9 x10 x11 x12 x13 x14 x15 x16 x17 x18 x19 x20 x21 x22 x23 x24 x25 x26 x27 x28 x29 x30 x31 x32 x33 x87 x88 x89 x90 x91 x92 x93 x94 x95 x96 x97 x98 x99 x100 x101 x102 x103 x104 x105 x106 x107 x108 x109 x110 x111 x112 x113 x114 x115 x116 x117 x118 x119 x120 x121 x122 x123 x124 x125 x126 x127 x128 x129 x130 x131 x132 x133 x134 x135 x136 x137 x138 x139 x140 x141 x142 x143 x144 x145 x146 x147 x148 x149 x150 x151 x152 x153 x154 x155 x156 x157 x158 x159 x160 x161 x162 x163 x164 x165 x166 x167 x168 x169 x170 x171 x172 x173 x174 x175 x176 x177 x178 x179 x180 x181 x182 x183 x184 x185 x186 x187 x188 x189 x190 x191 x192 x193 x194 x195 x196 x197 x198 x199 x200 x201 x202 x203 x204 x205 x206 x207 x208 x209 x210 x211 x212 x213 x214 x215 x216 x217 x218 x219 x220 x221 x222 x223 x224 x225 x226 x227 x228 x229 x230 x231 x232 x233 x234 x235 x236 x237 x238 x239 x240 x241 x242 x243 x244 x245 x246 x247 x248 x249 x250 x251 x252 x253 x254 x255 x256 x257 x258 x259 x260 x261 x262 x263 x264 x265 x266 x267 x268 x269 x270 x271 x272 : Value} : ∃ f, (⟨([x0, x1, x2, x3, x4, x5, x6, x7, x8, x9, x10, x11, x12, x13, x14, x15, x16, x17, x18, x19, x20, x21, x22, x23, x24, x25, x26, x27, x28, x29, x30, x31, x32, x33, undef, undef, undef, undef, undef, undef, undef, undef, undef, undef, undef, undef, undef, undef, undef, undef, undef, undef, undef, undef, undef, undef, undef, undef, undef, undef, undef, undef, undef, undef, undef, undef, undef, undef, undef, undef, undef, undef, undef, undef, undef, undef, undef, undef, undef, undef, undef, undef, undef, undef, undef, undef, undef, x87, x88, x89, x90, x91, x92, x93, x94, x95, x96, x97, x98, x99, x100, x101, x102, x103, x104, x105, x106, x107, x108, x109, x110, x111, x112, x113, x114, x115, x116, x117, x118, x119, x120, x121, x122, x123, x124, x125, x126, x127, x128, x129, x130, x131, x132, x133, x134, x135, x136, x137, x138, x139, x140, x141, x142, x143, x144, x145, x146, x147, x148, x149, x150, x151, x152, x153, x154, x155, x156, x157, x158, x159, x160, x161, x162, x163, x164, x165, x166, x167, x168, x169, x170, x171, x172, x173, x174, x175, x176, x177, x178, x179, x180, x181, x182, x183, x184, x185, x186, x187, x188, x189, x190, x191, x192, x193, x194, x195, x196, x197, x198, x199, x200, x201, x202, x203, x204, x205, x206, x207, x208, x209, x210, x211, x212, x213, x214, x215, x216, x217, x218, x219, x220, x221, x222, x223, x224, x225, x226, x227, x228, x229, x230, x231, x232, x233, x234, x235, x236, x237, x238, x239, x240, x241, x242, x243, x244, x245, x246, x247, x248, x249, x250, x251, x252, x253, x254, x255, x256, x257, x258, x259, x260, x261, x262, x263, x264, x265, x266, x267, x268, x269, x270, x271, x272, undef, undef, undef, undef, undef, undef, undef, undef, undef, undef, undef, undef, undef, undef, undef, undef, undef, undef, undef, undef, undef, undef, undef, undef, undef, undef, undef, undef, undef, undef, undef, undef, undef, undef, undef, undef, undef, undef, undef, undef, undef, undef, undef, undef, undef, undef, undef, undef, undef, undef, undef, undef, undef, undef, undef, undef, undef, undef, undef, undef, undef, undef, undef, undef, undef, undef, undef, undef, undef, undef, undef, undef, undef, undef, undef, undef, undef, undef, undef, undef, undef, undef, undef, undef, undef, undef, undef, undef, undef, undef, undef, undef, undef, undef, undef, undef, undef, undef, undef, undef, undef, undef, undef, undef, undef, undef, undef, undef, undef, undef, undef, undef, undef, undef, undef, undef, undef, undef, undef, undef, undef, undef, undef, undef, undef, undef, undef, undef, undef, undef, undef, undef, undef, undef, undef, undef, undef, undef, undef, undef, undef, undef, undef, undef, undef, undef, undef, undef, undef, undef, undef, undef, undef, undef, undef, undef, undef, undef, undef, undef, undef, undef, undef, undef, undef, undef, undef, undef, undef, undef, undef, undef, undef, undef, undef, undef, undef, undef, undef, undef, undef, undef, undef, undef, undef, undef, undef, undef, undef, undef, undef, undef, undef, undef, undef, undef, undef, undef, undef, undef, undef, undef, undef, undef, undef, undef, undef, undef, undef, undef, undef, undef, undef, undef, undef, undef, undef, undef, undef, undef, undef, undef, undef, undef, undef, undef, undef, undef, undef, undef, undef, undef, undef, undef, undef, undef, undef, undef, undef, undef, undef, undef, undef, undef, undef, undef, undef, undef, undef, undef, undef, undef, undef, undef, undef, undef, undef, undef, undef, undef, undef, undef, undef, undef, undef, undef, undef, undef, undef, undef, undef, undef, undef, undef, undef, undef, undef, undef, undef, undef, undef, undef, undef, undef, undef, undef, undef, undef, undef, undef, undef, undef, undef, undef, undef, undef, undef, undef, undef, undef, undef, undef, undef, undef, undef, undef, undef, undef, undef, undef, undef, undef, undef, undef, undef, undef, undef, undef, undef, undef, undef, undef, undef, undef, undef, undef, undef, undef, undef, undef, undef, undef, undef, undef, undef, undef, undef, undef, undef, undef, undef, undef, undef, undef, undef, undef, undef, undef, undef, undef, undef, undef, undef, undef, undef, undef, undef, undef, undef, undef, undef, undef, undef, undef, undef, undef]).toArray, []⟩ : Act) = ⟨(laA f x1 x5 x6 x7 x10 x14 x18 x22 x26 x30 x272).toArray, []⟩ := ⟨fun n => (([[x0, x1, x2, x3, x4, x5, x6, x7, x8, x9, x10, x11, x12, x13, x14, x15, x16, x17, x18, x19, x20, x21, x22, x23, x24], [x25, x26, x27, x28, x29, x30, x31, x32, x33, undef, undef, undef, undef, undef, undef, undef, undef, undef, undef, undef, undef, undef, undef, undef, undef], [undef, undef, undef, undef, undef, undef, undef, undef, undef, undef, undef, undef, undef, undef, undef, undef, undef, undef, undef, undef, undef, undef, undef, undef, undef], [undef, undef, undef, undef, undef, undef, undef, undef, undef, undef, undef, undef, x87, x88, x89, x90, x91, x92, x93, x94, x95, x96, x97, x98, x99], [x100, x101, x102, x103, x104, x105, x106, x107, x108, x109, x110, x111, x112, x113, x114, x115, x116, x117, x118, x119, x120, x121, x122, x123, x124], [x125, x126, x127, x128, x129, x130, x131, x132, x133, x134, x135, x136, x137, x138, x139, x140, x141, x142, x143, x144, x145, x146, x147, x148, x149], [x150, x151, x152, x153, x154, x155, x156, x157, x158, x159, x160, x161, x162, x163, x164, x165, x166, x167, x168, x169, x170, x171, x172, x173, x174], [x175, x176, x177, x178, x179, x180, x181, x182, x183, x184, x185, x186, x187, x188, x189, x190, x191, x192, x193, x194, x195, x196, x197, x198, x199], [x200, x201, x202, x203, x204, x205, x206, x207, x208, x209, x210, x211, x212, x213, x214, x215, x216, x217, x218, x219, x220, x221, x222, x223, x224], [x225, x226, x227, x228, x229, x230, x231, x232, x233, x234, x235, x236, x237, x238, x239, x240, x241, x242, x243, x244, x245, x246, x247, x248, x249], [x250, x251, x252, x253, x254, x255, x256, x257, x258, x259, x260, x261, x262, x263, x264, x265, x266, x267, x268, x269, x270, x271, x272, undef, undef], [undef, undef, undef, undef, undef, undef, undef, undef, undef, undef, undef, undef, undef, undef, undef, undef, undef, undef, undef, undef, undef, undef, undef, undef, undef], [undef, undef, undef, undef, undef, undef, undef, undef, undef, undef, undef, undef, undef, undef, undef, undef, undef, undef, undef, undef, undef, undef, undef, undef, undef], [undef, undef, undef, undef, undef, undef, undef, undef, undef, undef, undef, undef, undef, undef, undef, undef, undef, undef, undef, undef, undef, undef, undef, undef, undef], [undef, undef, undef, undef, undef, undef, undef, undef, undef, undef, undef, undef, undef, undef, undef, undef, undef, undef, undef, undef, undef, undef, undef, undef, undef], [undef, undef, undef, undef, undef, undef, undef, undef, undef, undef, undef, undef, undef, undef, undef, undef, undef, undef, undef, undef, undef, undef, undef, undef, undef], [undef, undef, undef, undef, undef, undef, undef, undef, undef, undef, undef, undef, undef, undef, undef, undef, undef, undef, undef, undef, undef, undef, undef, undef, undef], [undef, undef, undef, undef, undef, undef, undef, undef, undef, undef, undef, undef, undef, undef, undef, undef, undef, undef, undef, undef, undef, undef, undef, undef, undef], [undef, undef, undef, undef, undef, undef, undef, undef, undef, undef, undef, undef, undef, undef, undef, undef, undef, undef, undef, undef, undef, undef, undef, undef, undef], [undef, undef, undef, undef, undef, undef, undef, undef, undef, undef, undef, undef, undef, undef, undef, undef, undef, undef, undef, undef, undef, undef, undef, undef, undef], [undef, undef, undef, undef, undef, undef, undef, undef, undef, undef, undef, undef, undef, undef, undef, undef, undef, undef, undef, undef, undef, undef, undef, undef, undef], [undef, undef, undef, undef, undef, undef, undef, undef, undef, undef, undef, undef, undef, undef, undef, undef, undef, undef, undef, undef, undef, undef, undef, undef, undef], [undef, undef, undef, undef, undef, undef, undef, undef, undef, undef, undef, undef, undef, undef, undef, undef, undef, undef, undef, undef, undef, undef, undef, undef, undef], [undef, undef, undef, undef, undef, undef, undef, undef, undef, undef, undef, undef, undef, undef, undef, undef, undef, undef, undef, undef, undef, undef, undef, undef, undef], [undef, undef, undef, undef, undef, undef, undef, undef, undef, undef, undef, undef, undef, undef, undef, undef, undef, undef, undef, undef, undef, undef, undef, undef, undef], [undef, undef, undef, undef, undef, undef, undef, undef, undef, undef, undef, undef, undef, undef]] : List (List Value)).getD (n / 25) []).getD (n % 25) (.bool false), by kernel_rfl⟩
/-- A frame in which only the slots 1, 5, 6, 10, 18, 30, 364 are told. -/
def laB (f : Nat → Value) (v1 v5 v6 v10 v18 v30 v364 : Value) : List Value := [
  f 0, v1, f 2, f 3, f 4, v5, v6, f 7, f 8, f 9, v10, f 11, f 12, f 13, f 14, f 15, f 16, f 17, v18, f 19, f 20, f 21, f 22, f 23, f 24, f 25, f 26, f 27, f 28, f 29, v30, f 31, f 32, f 33, f 34, f 35, f 36, f 37, f 38, f 39,
  f 40, f 41, undef, undef, undef, undef, undef, undef, undef, undef, undef, undef, undef, undef, undef, undef, undef, undef, undef, undef, undef, undef, undef, undef, undef, undef, undef, undef, undef, undef, undef, undef, undef, undef, undef, undef, undef, undef, undef, undef,
  undef, undef, undef, undef, undef, undef, undef, f 87, f 88, f 89, f 90, f 91, f 92, f 93, f 94, f 95, f 96, f 97, f 98, f 99, f 100, f 101, f 102, f 103, f 104, f 105, f 106, f 107, f 108, f 109, f 110, f 111, f 112, f 113, f 114, f 115, f 116, f 117, f 118, f 119,
  f 120, f 121, f 122, f 123, f 124, f 125, f 126, f 127, f 128, f 129, f 130, f 131, f 132, f 133, f 134, f 135, f 136, f 137, f 138, f 139, f 140, f 141, f 142, f 143, f 144, f 145, f 146, f 147, f 148, f 149, f 150, f 151, f 152, f 153, f 154, f 155, f 156, f 157, f 158, f 159,
  f 160, f 161, f 162, f 163, f 164, f 165, f 166, f 167, f 168, f 169, f 170, f 171, f 172, f 173, f 174, f 175, f 176, f 177, f 178, f 179, f 180, f 181, f 182, f 183, f 184, f 185, f 186, f 187, f 188, f 189, f 190, f 191, f 192, f 193, f 194, f 195, f 196, f 197, f 198, f 199,
  f 200, f 201, f 202, f 203, f 204, f 205, f 206, f 207, f 208, f 209, f 210, f 211, f 212, f 213, f 214, f 215, f 216, f 217, f 218, f 219, f 220, f 221, f 222, f 223, f 224, f 225, f 226, f 227, f 228, f 229, f 230, f 231, f 232, f 233, f 234, f 235, f 236, f 237, f 238, f 239,
  f 240, f 241, f 242, f 243, f 244, f 245, f 246, f 247, f 248, f 249, f 250, f 251, f 252, f 253, f 254, f 255, f 256, f 257, f 258, f 259, f 260, f 261, f 262, f 263, f 264, f 265, f 266, f 267, f 268, f 269, f 270, f 271, f 272, f 273, f 274, f 275, f 276, f 277, f 278, f 279,
  f 280, f 281, f 282, f 283, f 284, f 285, f 286, f 287, f 288, f 289, f 290, f 291, f 292, f 293, f 294, f 295, f 296, f 297, f 298, f 299, f 300, f 301, f 302, f 303, f 304, f 305, f 306, f 307, f 308, f 309, f 310, f 311, f 312, f 313, f 314, f 315, f 316, f 317, f 318, f 319,
  f 320, f 321, f 322, f 323, f 324, f 325, f 326, f 327, f 328, f 329, f 330, f 331, f 332, f 333, f 334, f 335, f 336, f 337, f 338, f 339, f 340, f 341, f 342, f 343, f 344, f 345, f 346, f 347, f 348, f 349, f 350, f 351, f 352, f 353, f 354, f 355, f 356, f 357, f 358, f 359,
  f 360, f 361, f 362, f 363, v364, undef, undef, undef, undef, undef, undef, undef, undef, undef, undef, undef, undef, undef, undef, undef, undef, undef, undef, undef, undef, undef, undef, undef, undef, undef, undef, undef, undef, undef, undef, undef, undef, undef, undef, undef,
  undef, undef, undef, undef, undef, undef, undef, undef, undef, undef, undef, undef, undef, undef, undef, undef, undef, undef, undef, undef, undef, undef, undef, undef, undef, undef, undef, undef, undef, undef, undef, undef, undef, undef, undef, undef, undef, undef, undef, undef,
  undef, undef, undef, undef, undef, undef, undef, undef, undef, undef, undef, undef, undef, undef, undef, undef, undef, undef, undef, undef, undef, undef, undef, undef, undef, undef, undef, undef, undef, undef, undef, undef, undef, undef, undef, undef, undef, undef, undef, undef,
  undef, undef, undef, undef, undef, undef, undef, undef, undef, undef, undef, undef, undef, undef, undef, undef, undef, undef, undef, undef, undef, undef, undef, undef, undef, undef, undef, undef, undef, undef, undef, undef, undef, undef, undef, undef, undef, undef, undef, undef,
  undef, undef, undef, undef, undef, undef, undef, undef, undef, undef, undef, undef, undef, undef, undef, undef, undef, undef, undef, undef, undef, undef, undef, undef, undef, undef, undef, undef, undef, undef, undef, undef, undef, undef, undef, undef, undef, undef, undef, undef,
  undef, undef, undef, undef, undef, undef, undef, undef, undef, undef, undef, undef, undef, undef, undef, undef, undef, undef, undef, undef, undef, undef, undef, undef, undef, undef, undef, undef, undef, undef, undef, undef, undef, undef, undef, undef, undef, undef, undef, undef,
  undef, undef, undef, undef, undef, undef, undef, undef, undef, undef, undef, undef, undef, undef, undef, undef, undef, undef, undef, undef, undef, undef, undef, undef, undef, undef, undef, undef, undef, undef, undef, undef, undef, undef, undef, undef, undef, undef, undef]
theorem laB_ex {x0 x1 x2 x3 x4 x5 x6 x7 x8 x9 x10 x11 x12 x13 x14 x15 x16 x17 x18 x19 x20 x21 x22 x23 x24 x25 x26 x27 x28 x29 x30 x31 x32 x33 x34 x35 x36 x37 x38 x39 x40 x41 x87 x88 x89 x90 x91 x92 x93 x94 x95 x96 x97 x98 x99 x100 x101 x102 x103 x104 x105 x106 x107 x108 x109 x110 x111 x112 x113 x114 x115 x116 x117 x118 x119 x120 x121 x122 x123 x124 x125 x126 x127 x128 x129 x130 x131 x132 x133 x134 x135 x136 x137 x138 x139 x140 x141 x142 x143 x144 x145 x146 x147 x148 x149 x150 x151 x152 x153 x154 x155 x156 x157 x158 x159 x160 x161 x162 x163 x164 x165 x166 x167 x168 x169 x170 x171 x172 x173 x174 x175 x176 x177 x178 x179 x180 x181 x182 x183 x184 x185 x186 x187 x188 x189 x190 x191 x192 x193 x194 x195 x196 x197 x198 x199 x200 x201 x202 x203 x204 x205 x206 x207 x208 x209 x210 x211 x212 x213 x214 x215 x216 x217 x218 x219 x220 x221 x222 x223 x224 x225 x226 x227 x228 x229 x230 x231 x232 x233 x234 x235 x236 x237 x238 x239 x240 x241 x242 x243 x244 x245 x246 x247 x248 x249 x250 x251 x252 x253 x254 x255 x256 x257 x258 x259 x260 x261 x262 x263 x264 x265 x266 x267 x268 x269 x270 x271 x272 x273 x274 x275 x276 x277 x278 x279 x280 x281 x282 x283 x284 x285 x286 x287 x288 x289 x290 x291 x292 x293 x294 x295 x296 x297 x298 x299 x300 x301 x302 x303 x304 x305 x306 x307 x308 x309 x310 x311 x312 x313 x314 x315 x316 x317 x318 x319 x320 x321 x322 x323 x324 x325 x326 x327 x328 x329 x330 x331 x332 x333 x334 x335 x336 x337 x338 x339 x340 x341 x342 x343 x344 x345 x346 x347 x348 x349 x350 x351 x352 x353 x354 x355 x356 x357 x358 x359 x360 x361 x362 x363 x364 : Value} : ∃ f, (⟨([x0, x1, x2, x3, x4, x5, x6, x7, x8, x9, x10, x11, x12, x13, x14, x15, x16, x17, x18, x19, x20, x21, x22, x23, x24, x25, x26, x27, x28, x29, x30, x31, x32, x33, x34, x35, x36, x37, x38, x39, x40, x41, undef, undef, undef, undef, undef, undef, undef, undef, undef, undef, undef, undef, undef, undef, undef, undef, undef, undef, undef, undef, undef, undef, undef, undef, undef, undef, undef, undef, undef, undef, undef, undef, undef, undef, undef, undef, undef, undef, undef, undef, undef, undef, undef, undef, undef, x87, x88, x89, x90, x91, x92, x93, x94, x95, x96, x97, x98, x99, x100, x101, x102, x103, x104, x105, x106, x107, x108, x109, x110, x111, x112, x113, x114, x115, x116, x117, x118, x119, x120, x121, x122, x123, x124, x125, x126, x127, x128, x129, x130, x131, x132, x133, x134, x135, x136, x137, x138, x139, x140, x141, x142, x143, x144, x145, x146, x147, x148, x149, x150, x151, x152, x153, x154, x155, x156, x157, x158, x159, x160, x161, x162, x163, x164, x165, x166, x167, x168, x169, x170, x171, x172, x173, x174, x175, x176, x177, x178, x179, x180, x181, x182, x183, x184, x185, x186, x187, x188, x189, x190, x191, x192, x193, x194, x195, x196, x197, x198, x199, x200, x201, x202, x203, x204, x205, x206, x207, x208, x209, x210, x211, x212, x213, x214, x215, x216, x217, x218, x219, x220, x221, x222, x223, x224, x225, x226, x227, x228, x229, x230, x231, x232, x233, x234, x235, x236, x237, x238, x239, x240, x241, x242, x243, x244, x245, x246, x247, x248, x249, x250, x251, x252, x253, x254, x255, x256, x257, x258, x259, x260, x261, x262, x263, x264, x265, x266, x267, x268, x269, x270, x271, x272, x273, x274, x275, x276, x277, x278, x279, x280, x281, x282, x283, x284, x285, x286, x287, x288, x289, x290, x291, x292, x293, x294, x295, x296, x297, x298, x299, x300, x301, x302, x303, x304, x305, x306, x307, x308, x309, x310, x311, x312, x313, x314, x315, x316, x317, x318, x319, x320, x321, x322, x323, x324, x325, x326, x327, x328, x329, x330, x331, x332, x333, x334, x335, x336, x337, x338, x339, x340, x341, x342, x343, x344, x345, x346, x347, x348, x349, x350, x351, x352, x353, x354, x355, x356, x357, x358, x359, x360, x361, x362, x363, x364, undef, undef, undef, undef, undef, undef, undef, undef, undef, undef, undef, undef, undef, undef, undef, undef, undef, undef, undef, undef, undef, undef, undef, undef, undef, undef, undef, undef, undef, undef, undef, undef, undef, undef, undef, undef, undef, undef, undef, undef, undef, undef, undef, undef, undef, undef, undef, undef, undef, undef, undef, undef, undef, undef, undef, undef, undef, undef, undef, undef, undef, undef, undef, undef, undef, undef, undef, undef, undef, undef, undef, undef, undef, undef, undef, undef, undef, undef, undef, undef, undef, undef, undef, undef, undef, undef, undef, undef, undef, undef, undef, undef, undef, undef, undef, undef, undef, undef, undef, undef, undef, undef, undef, undef, undef, undef, undef, undef, undef, undef, undef, undef, undef, undef, undef, undef, undef, undef, undef, undef, undef, undef, undef, undef, undef, undef, undef, undef, undef, undef, undef, undef, undef, undef, undef, undef, undef, undef, undef, undef, undef, undef, undef, undef, undef, undef, undef, undef, undef, undef, undef, undef, undef, undef, undef, undef, undef, undef, undef, undef, undef, undef, undef, undef, undef, undef, undef, undef, undef, undef, undef, undef, undef, undef, undef, undef, undef, undef, undef, undef, undef, undef, undef, undef, undef, undef, undef, undef, undef, undef, undef, undef, undef, undef, undef, undef, undef, undef, undef, undef, undef, undef, undef, undef, undef, undef, undef, undef, undef, undef, undef, undef, undef, undef, undef, undef, undef, undef, undef, undef, undef, undef, undef, undef, undef, undef, undef, undef, undef, undef, undef, undef, undef, undef, undef, undef, undef, undef, undef, undef, undef, undef, undef, undef, undef, undef, undef, undef, undef, undef, undef, undef, undef, undef, undef, undef, undef, undef, undef, undef, undef, undef, undef, undef, undef, undef, undef, undef, undef, undef, undef, undef, undef, undef]).toArray, []⟩ : Act) = ⟨(laB f x1 x5 x6 x10 x18 x30 x364).toArray, []⟩ := ⟨fun n => (([[x0, x1, x2, x3, x4, x5, x6, x7, x8, x9, x10, x11, x12, x13, x14, x15, x16, x17, x18, x19, x20, x21, x22, x23, x24], [x25, x26, x27, x28, x29, x30, x31, x32, x33, x34, x35, x36, x37, x38, x39, x40, x41, undef, undef, undef, undef, undef, undef, undef, undef], [undef, undef, undef, undef, undef, undef, undef, undef, undef, undef, undef, undef, undef, undef, undef, undef, undef, undef, undef, undef, undef, undef, undef, undef, undef], [undef, undef, undef, undef, undef, undef, undef, undef, undef, undef, undef, undef, x87, x88, x89, x90, x91, x92, x93, x94, x95, x96, x97, x98, x99], [x100, x101, x102, x103, x104, x105, x106, x107, x108, x109, x110, x111, x112, x113, x114, x115, x116, x117, x118, x119, x120, x121, x122, x123, x124], [x125, x126, x127, x128, x129, x130, x131, x132, x133, x134, x135, x136, x137, x138, x139, x140, x141, x142, x143, x144, x145, x146, x147, x148, x149], [x150, x151, x152, x153, x154, x155, x156, x157, x158, x159, x160, x161, x162, x163, x164, x165, x166, x167, x168, x169, x170, x171, x172, x173, x174], [x175, x176, x177, x178, x179, x180, x181, x182, x183, x184, x185, x186, x187, x188, x189, x190, x191, x192, x193, x194, x195, x196, x197, x198, x199], [x200, x201, x202, x203, x204, x205, x206, x207, x208, x209, x210, x211, x212, x213, x214, x215, x216, x217, x218, x219, x220, x221, x222, x223, x224], [x225, x226, x227, x228, x229, x230, x231, x232, x233, x234, x235, x236, x237, x238, x239, x240, x241, x242, x243, x244, x245, x246, x247, x248, x249], [x250, x251, x252, x253, x254, x255, x256, x257, x258, x259, x260, x261, x262, x263, x264, x265, x266, x267, x268, x269, x270, x271, x272, x273, x274], [x275, x276, x277, x278, x279, x280, x281, x282, x283, x284, x285, x286, x287, x288, x289, x290, x291, x292, x293, x294, x295, x296, x297, x298, x299], [x300, x301, x302, x303, x304, x305, x306, x307, x308, x309, x310, x311, x312, x313, x314, x315, x316, x317, x318, x319, x320, x321, x322, x323, x324], [x325, x326, x327, x328, x329, x330, x331, x332, x333, x334, x335, x336, x337, x338, x339, x340, x341, x342, x343, x344, x345, x346, x347, x348, x349], [x350, x351, x352, x353, x354, x355, x356, x357, x358, x359, x360, x361, x362, x363, x364, undef, undef, undef, undef, undef, undef, undef, undef, undef, undef], [undef, undef, undef, undef, undef, undef, undef, undef, undef, undef, undef, undef, undef, undef, undef, undef, undef, undef, undef, undef, undef, undef, undef, undef, undef], [undef, undef, undef, undef, undef, undef, undef, undef, undef, undef, undef, undef, undef, undef, undef, undef, undef, undef, undef, undef, undef, undef, undef, undef, undef], [undef, undef, undef, undef, undef, undef, undef, undef, undef, undef, undef, undef, undef, undef, undef, undef, undef, undef, undef, undef, undef, undef, undef, undef, undef], [undef, undef, undef, undef, undef, undef, undef, undef, undef, undef, undef, undef, undef, undef, undef, undef, undef, undef, undef, undef, undef, undef, undef, undef, undef], [undef, undef, undef, undef, undef, undef, undef, undef, undef, undef, undef, undef, undef, undef, undef, undef, undef, undef, undef, undef, undef, undef, undef, undef, undef], [undef, undef, undef, undef, undef, undef, undef, undef, undef, undef, undef, undef, undef, undef, undef, undef, undef, undef, undef, undef, undef, undef, undef, undef, undef], [undef, undef, undef, undef, undef, undef, undef, undef, undef, undef, undef, undef, undef, undef, undef, undef, undef, undef, undef, undef, undef, undef, undef, undef, undef], [undef, undef, undef, undef, undef, undef, undef, undef, undef, undef, undef, undef, undef, undef, undef, undef, undef, undef, undef, undef, undef, undef, undef, undef, undef], [undef, undef, undef, undef, undef, undef, undef, undef, undef, undef, undef, undef, undef, undef, undef, undef, undef, undef, undef, undef, undef, undef, undef, undef, undef], [undef, undef, undef, undef, undef, undef, undef, undef, undef, undef, undef, undef, undef, undef, undef, undef, undef, undef, undef, undef, undef, undef, undef, undef, undef], [undef, undef, undef, undef, undef, undef, undef, undef, undef, undef, undef, undef, undef, undef]] : List (List Value)).getD (n / 25) []).getD (n % 25) (.bool false), by kernel_rfl⟩
/-- A frame in which only the slots 1, 5, 6, 10, 18, 30, 42 are told. -/
def laK (f : Nat → Value) (v1 v5 v6 v10 v18 v30 v42 : Value) : List Value := [
  f 0, v1, f 2, f 3, f 4, v5, v6, f 7, f 8, f 9, v10, f 11, f 12, f 13, f 14, f 15, f 16, f 17, v18, f 19, f 20, f 21, f 22, f 23, f 24, f 25, f 26, f 27, f 28, f 29, v30, f 31, f 32, f 33, f 34, f 35, f 36, f 37, f 38, f 39,
  f 40, f 41, v42, f 43, f 44, f 45, f 46, f 47, f 48, f 49, f 50, f 51, f 52, f 53, f 54, f 55, f 56, f 57, f 58, f 59, undef, undef, undef, undef, undef, undef, undef, undef, undef, undef, undef, undef, undef, undef, undef, undef, undef, undef, undef, undef,
  undef, undef, undef, undef, undef, undef, undef, f 87, f 88, f 89, f 90, f 91, f 92, f 93, f 94, f 95, f 96, f 97, f 98, f 99, f 100, f 101, f 102, f 103, f 104, f 105, f 106, f 107, f 108, f 109, f 110, f 111, f 112, f 113, f 114, f 115, f 116, f 117, f 118, f 119,
  f 120, f 121, f 122, f 123, f 124, f 125, f 126, f 127, f 128, f 129, f 130, f 131, f 132, f 133, f 134, f 135, f 136, f 137, f 138, f 139, f 140, f 141, f 142, f 143, f 144, f 145, f 146, f 147, f 148, f 149, f 150, f 151, f 152, f 153, f 154, f 155, f 156, f 157, f 158, f 159,
  f 160, f 161, f 162, f 163, f 164, f 165, f 166, f 167, f 168, f 169, f 170, f 171, f 172, f 173, f 174, f 175, f 176, f 177, f 178, f 179, f 180, f 181, f 182, f 183, f 184, f 185, f 186, f 187, f 188, f 189, f 190, f 191, f 192, f 193, f 194, f 195, f 196, f 197, f 198, f 199,
  f 200, f 201, f 202, f 203, f 204, f 205, f 206, f 207, f 208, f 209, f 210, f 211, f 212, f 213, f 214, f 215, f 216, f 217, f 218, f 219, f 220, f 221, f 222, f 223, f 224, f 225, f 226, f 227, f 228, f 229, f 230, f 231, f 232, f 233, f 234, f 235, f 236, f 237, f 238, f 239,
  f 240, f 241, f 242, f 243, f 244, f 245, f 246, f 247, f 248, f 249, f 250, f 251, f 252, f 253, f 254, f 255, f 256, f 257, f 258, f 259, f 260, f 261, f 262, f 263, f 264, f 265, f 266, f 267, f 268, f 269, f 270, f 271, f 272, f 273, f 274, f 275, f 276, f 277, f 278, f 279,
  f 280, f 281, f 282, f 283, f 284, f 285, f 286, f 287, f 288, f 289, f 290, f 291, f 292, f 293, f 294, f 295, f 296, f 297, f 298, f 299, f 300, f 301, f 302, f 303, f 304, f 305, f 306, f 307, f 308, f 309, f 310, f 311, f 312, f 313, f 314, f 315, f 316, f 317, f 318, f 319,
  f 320, f 321, f 322, f 323, f 324, f 325, f 326, f 327, f 328, f 329, f 330, f 331, f 332, f 333, f 334, f 335, f 336, f 337, f 338, f 339, f 340, f 341, f 342, f 343, f 344, f 345, f 346, f 347, f 348, f 349, f 350, f 351, f 352, f 353, f 354, f 355, f 356, f 357, f 358, f 359,
  f 360, f 361, f 362, f 363, f 364, f 365, f 366, f 367, f 368, f 369, f 370, f 371, f 372, f 373, f 374, f 375, f 376, f 377, f 378, f 379, f 380, f 381, f 382, f 383, f 384, f 385, f 386, f 387, f 388, f 389, f 390, f 391, f 392, f 393, f 394, f 395, f 396, f 397, f 398, f 399,
  f 400, f 401, f 402, f 403, f 404, f 405, f 406, f 407, f 408, f 409, f 410, f 411, f 412, f 413, f 414, f 415, f 416, f 417, f 418, f 419, f 420, f 421, f 422, f 423, f 424, f 425, f 426, f 427, f 428, f 429, f 430, f 431, f 432, f 433, f 434, f 435, f 436, f 437, f 438, f 439,
  f 440, f 441, f 442, f 443, f 444, f 445, f 446, f 447, f 448, f 449, f 450, f 451, f 452, f 453, f 454, f 455, f 456, f 457, f 458, f 459, f 460, f 461, f 462, f 463, f 464, f 465, f 466, f 467, f 468, f 469, f 470, f 471, f 472, f 473, f 474, f 475, f 476, f 477, f 478, f 479,
  f 480, f 481, f 482, f 483, f 484, f 485, f 486, f 487, f 488, f 489, f 490, f 491, f 492, f 493, f 494, f 495, f 496, f 497, f 498, f 499, f 500, f 501, f 502, undef, undef, undef, undef, undef, undef, undef, undef, undef, undef, undef, undef, undef, undef, undef, undef, undef,
  undef, undef, undef, undef, undef, undef, undef, undef, undef, undef, undef, undef, undef, undef, undef, undef, undef, undef, undef, undef, undef, undef, undef, undef, undef, undef, undef, undef, undef, undef, undef, undef, undef, undef, undef, undef, undef, undef, undef, undef,
  undef, undef, undef, undef, undef, undef, undef, undef, undef, undef, undef, undef, undef, undef, undef, undef, undef, undef, undef, undef, undef, undef, undef, undef, undef, undef, undef, undef, undef, undef, undef, undef, undef, undef, undef, undef, undef, undef, undef, undef,
  undef, undef, undef, undef, undef, undef, undef, undef, undef, undef, undef, undef, undef, undef, undef, undef, undef, undef, undef, undef, undef, undef, undef, undef, undef, undef, undef, undef, undef, undef, undef, undef, undef, undef, undef, undef, undef, undef, undef]
theorem laK_ex {x0 x1 x2 x3 x4 x5 x6 x7 x8 x9 x10 x11 x12 x13 x14 x15 x16 x17 x18 x19 x20 x21 x22 x23 x24 x25 x26 x27 x28 x29 x30 x31 x32 x33 x34 x35 x36 x37 x38 x39 x40 x41 x42 x43 x44 x45 x46 x47 x48 x49 x50 x51 x52 x53 x54 x55 x56 x57 x58 x59 x87 x88 x89 x90 x91 x92 x93 x94 x95 x96 x97 x98 x99 x100 x101 x102 x103 x104 x105 x106 x107 x108 x109 x110 x111 x112 x113 x114 x115 x116 x117 x118 x119 x120 x121 x122 x123 x124 x125 x126 x127 x128 x129 x130 x131 x132 x133 x134 x135 x136 x137 x138 x139 x140 x141 x142 x143 x144 x145 x146 x147 x148 x149 x150 x151 x152 x153 x154 x155 x156 x157 x158 x159 x160 x161 x162 x163 x164 x165 x166 x167 x168 x169 x170 x171 x172 x173 x174 x175 x176 x177 x178 x179 x180 x181 x182 x183 x184 x185 x186 x187 x188 x189 x190 x191 x192 x193 x194 x195 x196 x197 x198 x199 x200 x201 x202 x203 x204 x205 x206 x207 x208 x209 x210 x211 x212 x213 x214 x215 x216 x217 x218 x219 x220 x221 x222 x223 x224 x225 x226 x227 x228 x229 x230 x231 x232 x233 x234 x235 x236 x237 x238 x239 x240 x241 x242 x243 x244 x245 x246 x247 x248 x249 x250 x251 x252 x253 x254 x255 x256 x257 x258 x259 x260 x261 x262 x263 x264 x265 x266 x267 x268 x269 x270 x271 x272 x273 x274 x275 x276 x277 x278 x279 x280 x281 x282 x283 x284 x285 x286 x287 x288 x289 x290 x291 x292 x293 x294 x295 x296 x297 x298 x299 x300 x301 x302 x303 x304 x305 x306 x307 x308 x309 x310 x311 x312 x313 x314 x315 x316 x317 x318 x319 x320 x321 x322 x323 x324 x325 x326 x327 x328 x329 x330 x331 x332 x333 x334 x335 x336 x337 x338 x339 x340 x341 x342 x343 x344 x345 x346 x347 x348 x349 x350 x351 x352 x353 x354 x355 x356 x357 x358 x359 x360 x361 x362 x363 x364 x365 x366 x367 x368 x369 x370 x371 x372 x373 x374 x375 x376 x377 x378 x379 x380 x381 x382 x383 x384 x385 x386 x387 x388 x389 x390 x391 x392 x393 x394 x395 x396 x397 x398 x399 x400 x401 x402 x403 x404 x405 x406 x407 x408 x409 x410 x411 x412 x413 x414 x415 x416 x417 x418 x419 x420 x421 x422 x423 x424 x425 x426 x427 x428 x429 x430 x431 x432 x433 x434 x435 x436 x437 x438 x439 x440 x441 x442 x443 x444 x445 x446 x447 x448 x449 x450 x451 x452 x453 x454 x455 x456 x457 x458 x459 x460 x461 x462 x463 x464 x465 x466 x467 x468 x469 x470 x471 x472 x473 x474 x475 x476 x477 x478 x479 x480 x481 x482 x483 x484 x485 x486 x487 x488 x489 x490 x491 x492 x493 x494 x495 x496 x497 x498 x499 x500 x501 x502 : Value} : ∃ f, (⟨([x0, x1, x2, x3, x4, x5, x6, x7, x8, x9, x10, x11, x12, x13, x14, x15, x16, x17, x18, x19, x20, x21, x22, x23, x24, x25, x26, x27, x28, x29, x30, x31, x32, x33, x34, x35, x36, x37, x38, x39, x40, x41, x42, x43, x44, x45, x46, x47, x48, x49, x50, x51, x52, x53, x54, x55, x56, x57, x58, x59, undef, undef, undef, undef, undef, undef, undef, undef, undef, undef, undef, undef, undef, undef, undef, undef, undef, undef, undef, undef, undef, undef, undef, undef, undef, undef, undef, x87, x88, x89, x90, x91, x92, x93, x94, x95, x96, x97, x98, x99, x100, x101, x102, x103, x104, x105, x106, x107, x108, x109, x110, x111, x112, x113, x114, x115, x116, x117, x118, x119, x120, x121, x122, x123, x124, x125, x126, x127, x128, x129, x130, x131, x132, x133, x134, x135, x136, x137, x138, x139, x140, x141, x142, x143, x144, x145, x146, x147, x148, x149, x150, x151, x152, x153, x154, x155, x156, x157, x158, x159, x160, x161, x162, x163, x164, x165, x166, x167, x168, x169, x170, x171, x172, x173, x174, x175, x176, x177, x178, x179, x180, x181, x182, x183, x184, x185, x186, x187, x188, x189, x190, x191, x192, x193, x194, x195, x196, x197, x198, x199, x200, x201, x202, x203, x204, x205, x206, x207, x208, x209, x210, x211, x212, x213, x214, x215, x216, x217, x218, x219, x220, x221, x222, x223, x224, x225, x226, x227, x228, x229, x230, x231, x232, x233, x234, x235, x236, x237, x238, x239, x240, x241, x242, x243, x244, x245, x246, x247, x248, x249, x250, x251, x252, x253, x254, x255, x256, x257, x258, x259, x260, x261, x262, x263, x264, x265, x266, x267, x268, x269, x270, x271, x272, x273, x274, x275, x276, x277, x278, x279, x280, x281, x282, x283, x284, x285, x286, x287, x288, x289, x290, x291, x292, x293, x294, x295, x296, x297, x298, x299, x300, x301, x302, x303, x304, x305, x306, x307, x308, x309, x310, x311, x312, x313, x314, x315, x316, x317, x318, x319, x320, x321, x322, x323, x324, x325, x326, x327, x328, x329, x330, x331, x332, x333, x334, x335, x336, x337, x338, x339, x340, x341, x342, x343, x344, x345, x346, x347, x348, x349, x350, x351, x352, x353, x354, x355, x356, x357, x358, x359, x360, x361, x362, x363, x364, x365, x366, x367, x368, x369, x370, x371, x372, x373, x374, x375, x376, x377, x378, x379, x380, x381, x382, x383, x384, x385, x386, x387, x388, x389, x390, x391, x392, x393, x394, x395, x396, x397, x398, x399, x400, x401, x402, x403, x404, x405, x406, x407, x408, x409, x410, x411, x412, x413, x414, x415, x416, x417, x418, x419, x420, x421, x422, x423, x424, x425, x426, x427, x428, x429, x430, x431, x432, x433, x434, x435, x436, x437, x438, x439, x440, x441, x442, x443, x444, x445, x446, x447, x448, x449, x450, x451, x452, x453, x454, x455, x456, x457, x458, x459, x460, x461, x462, x463, x464, x465, x466, x467, x468, x469, x470, x471, x472, x473, x474, x475, x476, x477, x478, x479, x480, x481, x482, x483, x484, x485, x486, x487, x488, x489, x490, x491, x492, x493, x494, x495, x496, x497, x498, x499, x500, x501, x502, undef, undef, undef, undef, undef, undef, undef, undef, undef, undef, undef, undef, undef, undef, undef, undef, undef, undef, undef, undef, undef, undef, undef, undef, undef, undef, undef, undef, undef, undef, undef, undef, undef, undef, undef, undef, undef, undef, undef, undef, undef, undef, undef, undef, undef, undef, undef, undef, undef, undef, undef, undef, undef, undef, undef, undef, undef, undef, undef, undef, undef, undef, undef, undef, undef, undef, undef, undef, undef, undef, undef, undef, undef, undef, undef, undef, undef, undef, undef, undef, undef, undef, undef, undef, undef, undef, undef, undef, undef, undef, undef, undef, undef, undef, undef, undef, undef, undef, undef, undef, undef, undef, undef, undef, undef, undef, undef, undef, undef, undef, undef, undef, undef, undef, undef, undef, undef, undef, undef, undef, undef, undef, undef, undef, undef, undef, undef, undef, undef, undef, undef, undef, undef, undef, undef, undef]).toArray, []⟩ : Act) = ⟨(laK f x1 x5 x6 x10 x18 x30 x42).toArray, []⟩ := ⟨fun n => (([[x0, x1, x2, x3, x4, x5, x6, x7, x8, x9, x10, x11, x12, x13, x14, x15, x16, x17, x18, x19, x20, x21, x22, x23, x24], [x25, x26, x27, x28, x29, x30, x31, x32, x33, x34, x35, x36, x37, x38, x39, x40, x41, x42, x43, x44, x45, x46, x47, x48, x49], [x50, x51, x52, x53, x54, x55, x56, x57, x58, x59, undef, undef, undef, undef, undef, undef, undef, undef, undef, undef, undef, undef, undef, undef, undef], [undef, undef, undef, undef, undef, undef, undef, undef, undef, undef, undef, undef, x87, x88, x89, x90, x91, x92, x93, x94, x95, x96, x97, x98, x99], [x100, x101, x102, x103, x104, x105, x106, x107, x108, x109, x110, x111, x112, x113, x114, x115, x116, x117, x118, x119, x120, x121, x122, x123, x124], [x125, x126, x127, x128, x129, x130, x131, x132, x133, x134, x135, x136, x137, x138, x139, x140, x141, x142, x143, x144, x145, x146, x147, x148, x149], [x150, x151, x152, x153, x154, x155, x156, x157, x158, x159, x160, x161, x162, x163, x164, x165, x166, x167, x168, x169, x170, x171, x172, x173, x174], [x175, x176, x177, x178, x179, x180, x181, x182, x183, x184, x185, x186, x187, x188, x189, x190, x191, x192, x193, x194, x195, x196, x197, x198, x199], [x200, x201, x202, x203, x204, x205, x206, x207, x208, x209, x210, x211, x212, x213, x214, x215, x216, x217, x218, x219, x220, x221, x222, x223, x224], [x225, x226, x227, x228, x229, x230, x231, x232, x233, x234, x235, x236, x237, x238, x239, x240, x241, x242, x243, x244, x245, x246, x247, x248, x249], [x250, x251, x252, x253, x254, x255, x256, x257, x258, x259, x260, x261, x262, x263, x264, x265, x266, x267, x268, x269, x270, x271, x272, x273, x274], [x275, x276, x277, x278, x279, x280, x281, x282, x283, x284, x285, x286, x287, x288, x289, x290, x291, x292, x293, x294, x295, x296, x297, x298, x299], [x300, x301, x302, x303, x304, x305, x306, x307, x308, x309, x310, x311, x312, x313, x314, x315, x316, x317, x318, x319, x320, x321, x322, x323, x324], [x325, x326, x327, x328, x329, x330, x331, x332, x333, x334, x335, x336, x337, x338, x339, x340, x341, x342, x343, x344, x345, x346, x347, x348, x349], [x350, x351, x352, x353, x354, x355, x356, x357, x358, x359, x360, x361, x362, x363, x364, x365, x366, x367, x368, x369, x370, x371, x372, x373, x374], [x375, x376, x377, x378, x379, x380, x381, x382, x383, x384, x385, x386, x387, x388, x389, x390, x391, x392, x393, x394, x395, x396, x397, x398, x399], [x400, x401, x402, x403, x404, x405, x406, x407, x408, x409, x410, x411, x412, x413, x414, x415, x416, x417, x418, x419, x420, x421, x422, x423, x424], [x425, x426, x427, x428, x429, x430, x431, x432, x433, x434, x435, x436, x437, x438, x439, x440, x441, x442, x443, x444, x445, x446, x447, x448, x449], [x450, x451, x452, x453, x454, x455, x456, x457, x458, x459, x460, x461, x462, x463, x464, x465, x466, x467, x468, x469, x470, x471, x472, x473, x474], [x475, x476, x477, x478, x479, x480, x481, x482, x483, x484, x485, x486, x487, x488, x489, x490, x491, x492, x493, x494, x495, x496, x497, x498, x499], [x500, x501, x502, undef, undef, undef, undef, undef, undef, undef, undef, undef, undef, undef, undef, undef, undef, undef, undef, undef, undef, undef, undef, undef, undef], [undef, undef, undef, undef, undef, undef, undef, undef, undef, undef, undef, undef, undef, undef, undef, undef, undef, undef, undef, undef, undef, undef, undef, undef, undef], [undef, undef, undef, undef, undef, undef, undef, undef, undef, undef, undef, undef, undef, undef, undef, undef, undef, undef, undef, undef, undef, undef, undef, undef, undef], [undef, undef, undef, undef, undef, undef, undef, undef, undef, undef, undef, undef, undef, undef, undef, undef, undef, undef, undef, undef, undef, undef, undef, undef, undef], [undef, undef, undef, undef, undef, undef, undef, undef, undef, undef, undef, undef, undef, undef, undef, undef, undef, undef, undef, undef, undef, undef, undef, undef, undef], [undef, undef, undef, undef, undef, undef, undef, undef, undef, undef, undef, undef, undef, undef]] : List (List Value)).getD (n / 25) []).getD (n % 25) (.bool false), by kernel_rfl⟩
/-- A frame in which only the slots 1, 5, 6, 10, 18, 30, 42, 43, 44, 393 are told. -/
def laC (f : Nat → Value) (v1 v5 v6 v10 v18 v30 v42 v43 v44 v393 : Value) : List Value := [
  f 0, v1, f 2, f 3, f 4, v5, v6, f 7, f 8, f 9, v10, f 11, f 12, f 13, f 14, f 15, f 16, f 17, v18, f 19, f 20, f 21, f 22, f 23, f 24, f 25, f 26, f 27, f 28, f 29, v30, f 31, f 32, f 33, f 34, f 35, f 36, f 37, f 38, f 39,
  f 40, f 41, v42, v43, v44, f 45, f 46, f 47, f 48, f 49, f 50, f 51, f 52, f 53, f 54, f 55, f 56, f 57, f 58, f 59, undef, undef, undef, undef, undef, undef, undef, undef, undef, undef, undef, undef, undef, undef, undef, undef, undef, undef, undef, undef,
  undef, undef, undef, undef, undef, undef, undef, f 87, f 88, f 89, f 90, f 91, f 92, f 93, f 94, f 95, f 96, f 97, f 98, f 99, f 100, f 101, f 102, f 103, f 104, f 105, f 106, f 107, f 108, f 109, f 110, f 111, f 112, f 113, f 114, f 115, f 116, f 117, f 118, f 119,
  f 120, f 121, f 122, f 123, f 124, f 125, f 126, f 127, f 128, f 129, f 130, f 131, f 132, f 133, f 134, f 135, f 136, f 137, f 138, f 139, f 140, f 141, f 142, f 143, f 144, f 145, f 146, f 147, f 148, f 149, f 150, f 151, f 152, f 153, f 154, f 155, f 156, f 157, f 158, f 159,
  f 160, f 161, f 162, f 163, f 164, f 165, f 166, f 167, f 168, f 169, f 170, f 171, f 172, f 173, f 174, f 175, f 176, f 177, f 178, f 179, f 180, f 181, f 182, f 183, f 184, f 185, f 186, f 187, f 188, f 189, f 190, f 191, f 192, f 193, f 194, f 195, f 196, f 197, f 198, f 199,
  f 200, f 201, f 202, f 203, f 204, f 205, f 206, f 207, f 208, f 209, f 210, f 211, f 212, f 213, f 214, f 215, f 216, f 217, f 218, f 219, f 220, f 221, f 222, f 223, f 224, f 225, f 226, f 227, f 228, f 229, f 230, f 231, f 232, f 233, f 234, f 235, f 236, f 237, f 238, f 239,
  f 240, f 241, f 242, f 243, f 244, f 245, f 246, f 247, f 248, f 249, f 250, f 251, f 252, f 253, f 254, f 255, f 256, f 257, f 258, f 259, f 260, f 261, f 262, f 263, f 264, f 265, f 266, f 267, f 268, f 269, f 270, f 271, f 272, f 273, f 274, f 275, f 276, f 277, f 278, f 279,
  f 280, f 281, f 282, f 283, f 284, f 285, f 286, f 287, f 288, f 289, f 290, f 291, f 292, f 293, f 294, f 295, f 296, f 297, f 298, f 299, f 300, f 301, f 302, f 303, f 304, f 305, f 306, f 307, f 308, f 309, f 310, f 311, f 312, f 313, f 314, f 315, f 316, f 317, f 318, f 319,
  f 320, f 321, f 322, f 323, f 324, f 325, f 326, f 327, f 328, f 329, f 330, f 331, f 332, f 333, f 334, f 335, f 336, f 337, f 338, f 339, f 340, f 341, f 342, f 343, f 344, f 345, f 346, f 347, f 348, f 349, f 350, f 351, f 352, f 353, f 354, f 355, f 356, f 357, f 358, f 359,
  f 360, f 361, f 362, f 363, f 364, f 365, f 366, f 367, f 368, f 369, f 370, f 371, f 372, f 373, f 374, f 375, f 376, f 377, f 378, f 379, f 380, f 381, f 382, f 383, f 384, f 385, f 386, f 387, f 388, f 389, f 390, f 391, f 392, v393, f 394, f 395, f 396, f 397, f 398, f 399,
  f 400, f 401, f 402, f 403, f 404, f 405, f 406, f 407, f 408, f 409, f 410, f 411, f 412, f 413, f 414, f 415, f 416, f 417, f 418, f 419, f 420, f 421, f 422, f 423, f 424, f 425, f 426, f 427, f 428, f 429, f 430, f 431, f 432, f 433, f 434, f 435, f 436, f 437, f 438, f 439,
  f 440, f 441, f 442, f 443, f 444, f 445, f 446, f 447, f 448, f 449, f 450, f 451, f 452, f 453, f 454, f 455, f 456, f 457, f 458, f 459, f 460, f 461, f 462, f 463, f 464, f 465, f 466, f 467, f 468, f 469, f 470, f 471, f 472, f 473, f 474, f 475, f 476, f 477, f 478, f 479,
  f 480, f 481, f 482, f 483, f 484, f 485, f 486, f 487, f 488, f 489, f 490, f 491, f 492, f 493, f 494, f 495, f 496, f 497, f 498, f 499, f 500, f 501, f 502, undef, undef, undef, undef, undef, undef, undef, undef, undef, undef, undef, undef, undef, undef, undef, undef, undef,
  undef, undef, undef, undef, undef, undef, undef, undef, undef, undef, undef, undef, undef, undef, undef, undef, undef, undef, undef, undef, undef, undef, undef, undef, undef, undef, undef, undef, undef, undef, undef, undef, undef, undef, undef, undef, undef, undef, undef, undef,
  undef, undef, undef, undef, undef, undef, undef, undef, undef, undef, undef, undef, undef, undef, undef, undef, undef, undef, undef, undef, undef, undef, undef, undef, undef, undef, undef, undef, undef, undef, undef, undef, undef, undef, undef, undef, undef, undef, undef, undef,
  undef, undef, undef, undef, undef, undef, undef, undef, undef, undef, undef, undef, undef, undef, undef, undef, undef, undef, undef, undef, undef, undef, undef, undef, undef, undef, undef, undef, undef, undef, undef, undef, undef, undef, undef, undef, undef, undef, undef]
theorem laC_ex {x0 x1 x2 x3 x4 x5 x6 x7 x8 x9 x10 x11 x12 x13 x14 x15 x16 x17 x18 x19 x20 x21 x22 x23 x24 x25 x26 x27 x28 x29 x30 x31 x32 x33 x34 x35 x36 x37 x38 x39 x40 x41 x42 x43 x44 x45 x46 x47 x48 x49 x50 x51 x52 x53 x54 x55 x56 x57 x58 x59 x87 x88 x89 x90 x91 x92 x93 x94 x95 x96 x97 x98 x99 x100 x101 x102 x103 x104 x105 x106 x107 x108 x109 x110 x111 x112 x113 x114 x115 x116 x117 x118 x119 x120 x121 x122 x123 x124 x125 x126 x127 x128 x129 x130 x131 x132 x133 x134 x135 x136 x137 x138 x139 x140 x141 x142 x143 x144 x145 x146 x147 x148 x149 x150 x151 x152 x153 x154 x155 x156 x157 x158 x159 x160 x161 x162 x163 x164 x165 x166 x167 x168 x169 x170 x171 x172 x173 x174 x175 x176 x177 x178 x179 x180 x181 x182 x183 x184 x185 x186 x187 x188 x189 x190 x191 x192 x193 x194 x195 x196 x197 x198 x199 x200 x201 x202 x203 x204 x205 x206 x207 x208 x209 x210 x211 x212 x213 x214 x215 x216 x217 x218 x219 x220 x221 x222 x223 x224 x225 x226 x227 x228 x229 x230 x231 x232 x233 x234 x235 x236 x237 x238 x239 x240 x241 x242 x243 x244 x245 x246 x247 x248 x249 x250 x251 x252 x253 x254 x255 x256 x257 x258 x259 x260 x261 x262 x263 x264 x265 x266 x267 x268 x269 x270 x271 x272 x273 x274 x275 x276 x277 x278 x279 x280 x281 x282 x283 x284 x285 x286 x287 x288 x289 x290 x291 x292 x293 x294 x295 x296 x297 x298 x299 x300 x301 x302 x303 x304 x305 x306 x307 x308 x309 x310 x311 x312 x313 x314 x315 x316 x317 x318 x319 x320 x321 x322 x323 x324 x325 x326 x327 x328 x329 x330 x331 x332 x333 x334 x335 x336 x337 x338 x339 x340 x341 x342 x343 x344 x345 x346 x347 x348 x349 x350 x351 x352 x353 x354 x355 x356 x357 x358 x359 x360 x361 x362 x363 x364 x365 x366 x367 x368 x369 x370 x371 x372 x373 x374 x375 x376 x377 x378 x379 x380 x381 x382 x383 x384 x385 x386 x387 x388 x389 x390 x391 x392 x393 x394 x395 x396 x397 x398 x399 x400 x401 x402 x403 x404 x405 x406 x407 x408 x409 x410 x411 x412 x413 x414 x415 x416 x417 x418 x419 x420 x421 x422 x423 x424 x425 x426 x427 x428 x429 x430 x431 x432 x433 x434 x435 x436 x437 x438 x439 x440 x441 x442 x443 x444 x445 x446 x447 x448 x449 x450 x451 x452 x453 x454 x455 x456 x457 x458 x459 x460 x461 x462 x463 x464 x465 x466 x467 x468 x469 x470 x471 x472 x473 x474 x475 x476 x477 x478 x479 x480 x481 x482 x483 x484 x485 x486 x487 x488 x489 x490 x491 x492 x493 x494 x495 x496 x497 x498 x499 x500 x501 x502 : Value} : ∃ f, (⟨([x0, x1, x2, x3, x4, x5, x6, x7, x8, x9, x10, x11, x12, x13, x14, x15, x16, x17, x18, x19, x20, x21, x22, x23, x24, x25, x26, x27, x28, x29, x30, x31, x32, x33, x34, x35, x36, x37, x38, x39, x40, x41, x42, x43, x44, x45, x46, x47, x48, x49, x50, x51, x52, x53, x54, x55, x56, x57, x58, x59, undef, undef, undef, undef, undef, undef, undef, undef, undef, undef, undef, undef, undef, undef, undef, undef, undef, undef, undef, undef, undef, undef, undef, undef, undef, undef, undef, x87, x88, x89, x90, x91, x92, x93, x94, x95, x96, x97, x98, x99, x100, x101, x102, x103, x104, x105, x106, x107, x108, x109, x110, x111, x112, x113, x114, x115, x116, x117, x118, x119, x120, x121, x122, x123, x124, x125, x126, x127, x128, x129, x130, x131, x132, x133, x134, x135, x136, x137, x138, x139, x140, x141, x142, x143, x144, x145, x146, x147, x148, x149, x150, x151, x152, x153, x154, x155, x156, x157, x158, x159, x160, x161, x162, x163, x164, x165, x166, x167, x168, x169, x170, x171, x172, x173, x174, x175, x176, x177, x178, x179, x180, x181, x182, x183, x184, x185, x186, x187, x188, x189, x190, x191, x192, x193, x194, x195, x196, x197, x198, x199, x200, x201, x202, x203, x204, x205, x206, x207, x208, x209, x210, x211, x212, x213, x214, x215, x216, x217, x218, x219, x220, x221, x222, x223, x224, x225, x226, x227, x228, x229, x230, x231, x232, x233, x234, x235, x236, x237, x238, x239, x240, x241, x242, x243, x244, x245, x246, x247, x248, x249, x250, x251, x252, x253, x254, x255, x256, x257, x258, x259, x260, x261, x262, x263, x264, x265, x266, x267, x268, x269, x270, x271, x272, x273, x274, x275, x276, x277, x278, x279, x280, x281, x282, x283, x284, x285, x286, x287, x288, x289, x290, x291, x292, x293, x294, x295, x296, x297, x298, x299, x300, x301, x302, x303, x304, x305, x306, x307, x308, x309, x310, x311, x312, x313, x314, x315, x316, x317, x318, x319, x320, x321, x322, x323, x324, x325, x326, x327, x328, x329, x330, x331, x332, x333, x334, x335, x336, x337, x338, x339, x340, x341, x342, x343, x344, x345, x346, x347, x348, x349, x350, x351, x352, x353, x354, x355, x356, x357, x358, x359, x360, x361, x362, x363, x364, x365, x366, x367, x368, x369, x370, x371, x372, x373, x374, x375, x376, x377, x378, x379, x380, x381, x382, x383, x384, x385, x386, x387, x388, x389, x390, x391, x392, x393, x394, x395, x396, x397, x398, x399, x400, x401, x402, x403, x404, x405, x406, x407, x408, x409, x410, x411, x412, x413, x414, x415, x416, x417, x418, x419, x420, x421, x422, x423, x424, x425, x426, x427, x428, x429, x430, x431, x432, x433, x434, x435, x436, x437, x438, x439, x440, x441, x442, x443, x444, x445, x446, x447, x448, x449, x450, x451, x452, x453, x454, x455, x456, x457, x458, x459, x460, x461, x462, x463, x464, x465, x466, x467, x468, x469, x470, x471, x472, x473, x474, x475, x476, x477, x478, x479, x480, x481, x482, x483, x484, x485, x486, x487, x488, x489, x490, x491, x492, x493, x494, x495, x496, x497, x498, x499, x500, x501, x502, undef, undef, undef, undef, undef, undef, undef, undef, undef, undef, undef, undef, undef, undef, undef, undef, undef, undef, undef, undef, undef, undef, undef, undef, undef, undef, undef, undef, undef, undef, undef, undef, undef, undef, undef, undef, undef, undef, undef, undef, undef, undef, undef, undef, undef, undef, undef, undef, undef, undef, undef, undef, undef, undef, undef, undef, undef, undef, undef, undef, undef, undef, undef, undef, undef, undef, undef, undef, undef, undef, undef, undef, undef, undef, undef, undef, undef, undef, undef, undef, undef, undef, undef, undef, undef, undef, undef, undef, undef, undef, undef, undef, undef, undef, undef, undef, undef, undef, undef, undef, undef, undef, undef, undef, undef, undef, undef, undef, undef, undef, undef, undef, undef, undef, undef, undef, undef, undef, undef, undef, undef, undef, undef, undef, undef, undef, undef, undef, undef, undef, undef, undef, undef, undef, undef, undef]).toArray, []⟩ : Act) = ⟨(laC f x1 x5 x6 x10 x18 x30 x42 x43 x44 x393).toArray, []⟩ := ⟨fun n => (([[x0, x1, x2, x3, x4, x5, x6, x7, x8, x9, x10, x11, x12, x13, x14, x15, x16, x17, x18, x19, x20, x21, x22, x23, x24], [x25, x26, x27, x28, x29, x30, x31, x32, x33, x34, x35, x36, x37, x38, x39, x40, x41, x42, x43, x44, x45, x46, x47, x48, x49], [x50, x51, x52, x53, x54, x55, x56, x57, x58, x59, undef, undef, undef, undef, undef, undef, undef, undef, undef, undef, undef, undef, undef, undef, undef], [undef, undef, undef, undef, undef, undef, undef, undef, undef, undef, undef, undef, x87, x88, x89, x90, x91, x92, x93, x94, x95, x96, x97, x98, x99], [x100, x101, x102, x103, x104, x105, x106, x107, x108, x109, x110, x111, x112, x113, x114, x115, x116, x117, x118, x119, x120, x121, x122, x123, x124], [x125, x126, x127, x128, x129, x130, x131, x132, x133, x134, x135, x136, x137, x138, x139, x140, x141, x142, x143, x144, x145, x146, x147, x148, x149], [x150, x151, x152, x153, x154, x155, x156, x157, x158, x159, x160, x161, x162, x163, x164, x165, x166, x167, x168, x169, x170, x171, x172, x173, x174], [x175, x176, x177, x178, x179, x180, x181, x182, x183, x184, x185, x186, x187, x188, x189, x190, x191, x192, x193, x194, x195, x196, x197, x198, x199], [x200, x201, x202, x203, x204, x205, x206, x207, x208, x209, x210, x211, x212, x213, x214, x215, x216, x217, x218, x219, x220, x221, x222, x223, x224], [x225, x226, x227, x228, x229, x230, x231, x232, x233, x234, x235, x236, x237, x238, x239, x240, x241, x242, x243, x244, x245, x246, x247, x248, x249], [x250, x251, x252, x253, x254, x255, x256, x257, x258, x259, x260, x261, x262, x263, x264, x265, x266, x267, x268, x269, x270, x271, x272, x273, x274], [x275, x276, x277, x278, x279, x280, x281, x282, x283, x284, x285, x286, x287, x288, x289, x290, x291, x292, x293, x294, x295, x296, x297, x298, x299], [x300, x301, x302, x303, x304, x305, x306, x307, x308, x309, x310, x311, x312, x313, x314, x315, x316, x317, x318, x319, x320, x321, x322, x323, x324], [x325, x326, x327, x328, x329, x330, x331, x332, x333, x334, x335, x336, x337, x338, x339, x340, x341, x342, x343, x344, x345, x346, x347, x348, x349], [x350, x351, x352, x353, x354, x355, x356, x357, x358, x359, x360, x361, x362, x363, x364, x365, x366, x367, x368, x369, x370, x371, x372, x373, x374], [x375, x376, x377, x378, x379, x380, x381, x382, x383, x384, x385, x386, x387, x388, x389, x390, x391, x392, x393, x394, x395, x396, x397, x398, x399], [x400, x401, x402, x403, x404, x405, x406, x407, x408, x409, x410, x411, x412, x413, x414, x415, x416, x417, x418, x419, x420, x421, x422, x423, x424], [x425, x426, x427, x428, x429, x430, x431, x432, x433, x434, x435, x436, x437, x438, x439, x440, x441, x442, x443, x444, x445, x446, x447, x448, x449], [x450, x451, x452, x453, x454, x455, x456, x457, x458, x459, x460, x461, x462, x463, x464, x465, x466, x467, x468, x469, x470, x471, x472, x473, x474], [x475, x476, x477, x478, x479, x480, x481, x482, x483, x484, x485, x486, x487, x488, x489, x490, x491, x492, x493, x494, x495, x496, x497, x498, x499], [x500, x501, x502, undef, undef, undef, undef, undef, undef, undef, undef, undef, undef, undef, undef, undef, undef, undef, undef, undef, undef, undef, undef, undef, undef], [undef, undef, undef, undef, undef, undef, undef, undef, undef, undef, undef, undef, undef, undef, undef, undef, undef, undef, undef, undef, undef, undef, undef, undef, undef], [undef, undef, undef, undef, undef, undef, undef, undef, undef, undef, undef, undef, undef, undef, undef, undef, undef, undef, undef, undef, undef, undef, undef, undef, undef], [undef, undef, undef, undef, undef, undef, undef, undef, undef, undef, undef, undef, undef, undef, undef, undef, undef, undef, undef, undef, undef, undef, undef, undef, undef], [undef, undef, undef, undef, undef, undef, undef, undef, undef, undef, undef, undef, undef, undef, undef, undef, undef, undef, undef, undef, undef, undef, undef, undef, undef], [undef, undef, undef, undef, undef, undef, undef, undef, undef, undef, undef, undef, undef, undef]] : List (List Value)).getD (n / 25) []).getD (n % 25) (.bool false), by kernel_rfl⟩
/-- A frame in which only the slots 1, 5, 6, 10, 18, 30, 42, 43, 44, 46 are told. -/
def laI (f : Nat → Value) (v1 v5 v6 v10 v18 v30 v42 v43 v44 v46 : Value) : List Value := [
  f 0, v1, f 2, f 3, f 4, v5, v6, f 7, f 8, f 9, v10, f 11, f 12, f 13, f 14, f 15, f 16, f 17, v18, f 19, f 20, f 21, f 22, f 23, f 24, f 25, f 26, f 27, f 28, f 29, v30, f 31, f 32, f 33, f 34, f 35, f 36, f 37, f 38, f 39,
  f 40, f 41, v42, v43, v44, f 45, v46, f 47, f 48, f 49, f 50, f 51, f 52, f 53, f 54, f 55, f 56, f 57, f 58, f 59, undef, undef, undef, undef, undef, undef, undef, undef, undef, undef, undef, undef, undef, undef, undef, undef, undef, undef, undef, undef,
  undef, undef, undef, undef, undef, undef, undef, f 87, f 88, f 89, f 90, f 91, f 92, f 93, f 94, f 95, f 96, f 97, f 98, f 99, f 100, f 101, f 102, f 103, f 104, f 105, f 106, f 107, f 108, f 109, f 110, f 111, f 112, f 113, f 114, f 115, f 116, f 117, f 118, f 119,
  f 120, f 121, f 122, f 123, f 124, f 125, f 126, f 127, f 128, f 129, f 130, f 131, f 132, f 133, f 134, f 135, f 136, f 137, f 138, f 139, f 140, f 141, f 142, f 143, f 144, f 145, f 146, f 147, f 148, f 149, f 150, f 151, f 152, f 153, f 154, f 155, f 156, f 157, f 158, f 159,
  f 160, f 161, f 162, f 163, f 164, f 165, f 166, f 167, f 168, f 169, f 170, f 171, f 172, f 173, f 174, f 175, f 176, f 177, f 178, f 179, f 180, f 181, f 182, f 183, f 184, f 185, f 186, f 187, f 188, f 189, f 190, f 191, f 192, f 193, f 194, f 195, f 196, f 197, f 198, f 199,
  f 200, f 201, f 202, f 203, f 204, f 205, f 206, f 207, f 208, f 209, f 210, f 211, f 212, f 213, f 214, f 215, f 216, f 217, f 218, f 219, f 220, f 221, f 222, f 223, f 224, f 225, f 226, f 227, f 228, f 229, f 230, f 231, f 232, f 233, f 234, f 235, f 236, f 237, f 238, f 239,
  f 240, f 241, f 242, f 243, f 244, f 245, f 246, f 247, f 248, f 249, f 250, f 251, f 252, f 253, f 254, f 255, f 256, f 257, f 258, f 259, f 260, f 261, f 262, f 263, f 264, f 265, f 266, f 267, f 268, f 269, f 270, f 271, f 272, f 273, f 274, f 275, f 276, f 277, f 278, f 279,
  f 280, f 281, f 282, f 283, f 284, f 285, f 286, f 287, f 288, f 289, f 290, f 291, f 292, f 293, f 294, f 295, f 296, f 297, f 298, f 299, f 300, f 301, f 302, f 303, f 304, f 305, f 306, f 307, f 308, f 309, f 310, f 311, f 312, f 313, f 314, f 315, f 316, f 317, f 318, f 319,
  f 320, f 321, f 322, f 323, f 324, f 325, f 326, f 327, f 328, f 329, f 330, f 331, f 332, f 333, f 334, f 335, f 336, f 337, f 338, f 339, f 340, f 341, f 342, f 343, f 344, f 345, f 346, f 347, f 348, f 349, f 350, f 351, f 352, f 353, f 354, f 355, f 356, f 357, f 358, f 359,
  f 360, f 361, f 362, f 363, f 364, f 365, f 366, f 367, f 368, f 369, f 370, f 371, f 372, f 373, f 374, f 375, f 376, f 377, f 378, f 379, f 380, f 381, f 382, f 383, f 384, f 385, f 386, f 387, f 388, f 389, f 390, f 391, f 392, f 393, f 394, f 395, f 396, f 397, f 398, f 399,
  f 400, f 401, f 402, f 403, f 404, f 405, f 406, f 407, f 408, f 409, f 410, f 411, f 412, f 413, f 414, f 415, f 416, f 417, f 418, f 419, f 420, f 421, f 422, f 423, f 424, f 425, f 426, f 427, f 428, f 429, f 430, f 431, f 432, f 433, f 434, f 435, f 436, f 437, f 438, f 439,
  f 440, f 441, f 442, f 443, f 444, f 445, f 446, f 447, f 448, f 449, f 450, f 451, f 452, f 453, f 454, f 455, f 456, f 457, f 458, f 459, f 460, f 461, f 462, f 463, f 464, f 465, f 466, f 467, f 468, f 469, f 470, f 471, f 472, f 473, f 474, f 475, f 476, f 477, f 478, f 479,
  f 480, f 481, f 482, f 483, f 484, f 485, f 486, f 487, f 488, f 489, f 490, f 491, f 492, f 493, f 494, f 495, f 496, f 497, f 498, f 499, f 500, f 501, f 502, undef, undef, undef, undef, undef, undef, undef, undef, undef, undef, undef, undef, undef, undef, undef, undef, undef,
  undef, undef, undef, undef, undef, undef, undef, undef, undef, undef, undef, undef, undef, undef, undef, undef, undef, undef, undef, undef, undef, undef, undef, undef, undef, undef, undef, undef, undef, undef, undef, undef, undef, undef, undef, undef, undef, undef, undef, undef,
  undef, undef, undef, undef, undef, undef, undef, undef, undef, undef, undef, undef, undef, undef, undef, undef, undef, undef, undef, undef, undef, undef, undef, undef, undef, undef, undef, undef, undef, undef, undef, undef, undef, undef, undef, undef, undef, undef, undef, undef,
  undef, undef, undef, undef, undef, undef, undef, undef, undef, undef, undef, undef, undef, undef, undef, undef, undef, undef, undef, undef, undef, undef, undef, undef, undef, undef, undef, undef, undef, undef, undef, undef, undef, undef, undef, undef, undef, undef, undef]
theorem laI_ex {x0 x1 x2 x3 x4 x5 x6 x7 x8 x9 x10 x11 x12 x13 x14 x15 x16 x17 x18 x19 x20 x21 x22 x23 x24 x25 x26 x27 x28 x29 x30 x31 x32 x33 x34 x35 x36 x37 x38 x39 x40 x41 x42 x43 x44 x45 x46 x47 x48 x49 x50 x51 x52 x53 x54 x55 x56 x57 x58 x59 x87 x88 x89 x90 x91 x92 x93 x94 x95 x96 x97 x98 x99 x100 x101 x102 x103 x104 x105 x106 x107 x108 x109 x110 x111 x112 x113 x114 x115 x116 x117 x118 x119 x120 x121 x122 x123 x124 x125 x126 x127 x128 x129 x130 x131 x132 x133 x134 x135 x136 x137 x138 x139 x140 x141 x142 x143 x144 x145 x146 x147 x148 x149 x150 x151 x152 x153 x154 x155 x156 x157 x158 x159 x160 x161 x162 x163 x164 x165 x166 x167 x168 x169 x170 x171 x172 x173 x174 x175 x176 x177 x178 x179 x180 x181 x182 x183 x184 x185 x186 x187 x188 x189 x190 x191 x192 x193 x194 x195 x196 x197 x198 x199 x200 x201 x202 x203 x204 x205 x206 x207 x208 x209 x210 x211 x212 x213 x214 x215 x216 x217 x218 x219 x220 x221 x222 x223 x224 x225 x226 x227 x228 x229 x230 x231 x232 x233 x234 x235 x236 x237 x238 x239 x240 x241 x242 x243 x244 x245 x246 x247 x248 x249 x250 x251 x252 x253 x254 x255 x256 x257 x258 x259 x260 x261 x262 x263 x264 x265 x266 x267 x268 x269 x270 x271 x272 x273 x274 x275 x276 x277 x278 x279 x280 x281 x282 x283 x284 x285 x286 x287 x288 x289 x290 x291 x292 x293 x294 x295 x296 x297 x298 x299 x300 x301 x302 x303 x304 x305 x306 x307 x308 x309 x310 x311 x312 x313 x314 x315 x316 x317 x318 x319 x320 x321 x322 x323 x324 x325 x326 x327 x328 x329 x330 x331 x332 x333 x334 x335 x336 x337 x338 x339 x340 x341 x342 x343 x344 x345 x346 x347 x348 x349 x350 x351 x352 x353 x354 x355 x356 x357 x358 x359 x360 x361 x362 x363 x364 x365 x366 x367 x368 x369 x370 x371 x372 x373 x374 x375 x376 x377 x378 x379 x380 x381 x382 x383 x384 x385 x386 x387 x388 x389 x390 x391 x392 x393 x394 x395 x396 x397 x398 x399 x400 x401 x402 x403 x404 x405 x406 x407 x408 x409 x410 x411 x412 x413 x414 x415 x416 x417 x418 x419 x420 x421 x422 x423 x424 x425 x426 x427 x428 x429 x430 x431 x432 x433 x434 x435 x436 x437 x438 x439 x440 x441 x442 x443 x444 x445 x446 x447 x448 x449 x450 x451 x452 x453 x454 x455 x456 x457 x458 x459 x460 x461 x462 x463 x464 x465 x466 x467 x468 x469 x470 x471 x472 x473 x474 x475 x476 x477 x478 x479 x480 x481 x482 x483 x484 x485 x486 x487 x488 x489 x490 x491 x492 x493 x494 x495 x496 x497 x498 x499 x500 x501 x502 : Value} : ∃ f, (⟨([x0, x1, x2, x3, x4, x5, x6, x7, x8, x9, x10, x11, x12, x13, x14, x15, x16, x17, x18, x19, x20, x21, x22, x23, x24, x25, x26, x27, x28, x29, x30, x31, x32, x33, x34, x35, x36, x37, x38, x39, x40, x41, x42, x43, x44, x45, x46, x47, x48, x49, x50, x51, x52, x53, x54, x55, x56, x57, x58, x59, undef, undef, undef, undef, undef, undef, undef, undef, undef, undef, undef, undef, undef, undef, undef, undef, undef, undef, undef, undef, undef, undef, undef, undef, undef, undef, undef, x87, x88, x89, x90, x91, x92, x93, x94, x95, x96, x97, x98, x99, x100, x101, x102, x103, x104, x105, x106, x107, x108, x109, x110, x111, x112, x113, x114, x115, x116, x117, x118, x119, x120, x121, x122, x123, x124, x125, x126, x127, x128, x129, x130, x131, x132, x133, x134, x135, x136, x137, x138, x139, x140, x141, x142, x143, x144, x145, x146, x147, x148, x149, x150, x151, x152, x153, x154, x155, x156, x157, x158, x159, x160, x161, x162, x163, x164, x165, x166, x167, x168, x169, x170, x171, x172, x173, x174, x175, x176, x177, x178, x179, x180, x181, x182, x183, x184, x185, x186, x187, x188, x189, x190, x191, x192, x193, x194, x195, x196, x197, x198, x199, x200, x201, x202, x203, x204, x205, x206, x207, x208, x209, x210, x211, x212, x213, x214, x215, x216, x217, x218, x219, x220, x221, x222, x223, x224, x225, x226, x227, x228, x229, x230, x231, x232, x233, x234, x235, x236, x237, x238, x239, x240, x241, x242, x243, x244, x245, x246, x247, x248, x249, x250, x251, x252, x253, x254, x255, x256, x257, x258, x259, x260, x261, x262, x263, x264, x265, x266, x267, x268, x269, x270, x271, x272, x273, x274, x275, x276, x277, x278, x279, x280, x281, x282, x283, x284, x285, x286, x287, x288, x289, x290, x291, x292, x293, x294, x295, x296, x297, x298, x299, x300, x301, x302, x303, x304, x305, x306, x307, x308, x309, x310, x311, x312, x313, x314, x315, x316, x317, x318, x319, x320, x321, x322, x323, x324, x325, x326, x327, x328, x329, x330, x331, x332, x333, x334, x335, x336, x337, x338, x339, x340, x341, x342, x343, x344, x345, x346, x347, x348, x349, x350, x351, x352, x353, x354, x355, x356, x357, x358, x359, x360, x361, x362, x363, x364, x365, x366, x367, x368, x369, x370, x371, x372, x373, x374, x375, x376, x377, x378, x379, x380, x381, x382, x383, x384, x385, x386, x387, x388, x389, x390, x391, x392, x393, x394, x395, x396, x397, x398, x399, x400, x401, x402, x403, x404, x405, x406, x407, x408, x409, x410, x411, x412, x413, x414, x415, x416, x417, x418, x419, x420, x421, x422, x423, x424, x425, x426, x427, x428, x429, x430, x431, x432, x433, x434, x435, x436, x437, x438, x439, x440, x441, x442, x443, x444, x445, x446, x447, x448, x449, x450, x451, x452, x453, x454, x455, x456, x457, x458, x459, x460, x461, x462, x463, x464, x465, x466, x467, x468, x469, x470, x471, x472, x473, x474, x475, x476, x477, x478, x479, x480, x481, x482, x483, x484, x485, x486, x487, x488, x489, x490, x491, x492, x493, x494, x495, x496, x497, x498, x499, x500, x501, x502, undef, undef, undef, undef, undef, undef, undef, undef, undef, undef, undef, undef, undef, undef, undef, undef, undef, undef, undef, undef, undef, undef, undef, undef, undef, undef, undef, undef, undef, undef, undef, undef, undef, undef, undef, undef, undef, undef, undef, undef, undef, undef, undef, undef, undef, undef, undef, undef, undef, undef, undef, undef, undef, undef, undef, undef, undef, undef, undef, undef, undef, undef, undef, undef, undef, undef, undef, undef, undef, undef, undef, undef, undef, undef, undef, undef, undef, undef, undef, undef, undef, undef, undef, undef, undef, undef, undef, undef, undef, undef, undef, undef, undef, undef, undef, undef, undef, undef, undef, undef, undef, undef, undef, undef, undef, undef, undef, undef, undef, undef, undef, undef, undef, undef, undef, undef, undef, undef, undef, undef, undef, undef, undef, undef, undef, undef, undef, undef, undef, undef, undef, undef, undef, undef, undef, undef]).toArray, []⟩ : Act) = ⟨(laI f x1 x5 x6 x10 x18 x30 x42 x43 x44 x46).toArray, []⟩ := ⟨fun n => (([[x0, x1, x2, x3, x4, x5, x6, x7, x8, x9, x10, x11, x12, x13, x14, x15, x16, x17, x18, x19, x20, x21, x22, x23, x24], [x25, x26, x27, x28, x29, x30, x31, x32, x33, x34, x35, x36, x37, x38, x39, x40, x41, x42, x43, x44, x45, x46, x47, x48, x49], [x50, x51, x52, x53, x54, x55, x56, x57, x58, x59, undef, undef, undef, undef, undef, undef, undef, undef, undef, undef, undef, undef, undef, undef, undef], [undef, undef, undef, undef, undef, undef, undef, undef, undef, undef, undef, undef, x87, x88, x89, x90, x91, x92, x93, x94, x95, x96, x97, x98, x99], [x100, x101, x102, x103, x104, x105, x106, x107, x108, x109, x110, x111, x112, x113, x114, x115, x116, x117, x118, x119, x120, x121, x122, x123, x124], [x125, x126, x127, x128, x129, x130, x131, x132, x133, x134, x135, x136, x137, x138, x139, x140, x141, x142, x143, x144, x145, x146, x147, x148, x149], [x150, x151, x152, x153, x154, x155, x156, x157, x158, x159, x160, x161, x162, x163, x164, x165, x166, x167, x168, x169, x170, x171, x172, x173, x174], [x175, x176, x177, x178, x179, x180, x181, x182, x183, x184, x185, x186, x187, x188, x189, x190, x191, x192, x193, x194, x195, x196, x197, x198, x199], [x200, x201, x202, x203, x204, x205, x206, x207, x208, x209, x210, x211, x212, x213, x214, x215, x216, x217, x218, x219, x220, x221, x222, x223, x224], [x225, x226, x227, x228, x229, x230, x231, x232, x233, x234, x235, x236, x237, x238, x239, x240, x241, x242, x243, x244, x245, x246, x247, x248, x249], [x250, x251, x252, x253, x254, x255, x256, x257, x258, x259, x260, x261, x262, x263, x264, x265, x266, x267, x268, x269, x270, x271, x272, x273, x274], [x275, x276, x277, x278, x279, x280, x281, x282, x283, x284, x285, x286, x287, x288, x289, x290, x291, x292, x293, x294, x295, x296, x297, x298, x299], [x300, x301, x302, x303, x304, x305, x306, x307, x308, x309, x310, x311, x312, x313, x314, x315, x316, x317, x318, x319, x320, x321, x322, x323, x324], [x325, x326, x327, x328, x329, x330, x331, x332, x333, x334, x335, x336, x337, x338, x339, x340, x341, x342, x343, x344, x345, x346, x347, x348, x349], [x350, x351, x352, x353, x354, x355, x356, x357, x358, x359, x360, x361, x362, x363, x364, x365, x366, x367, x368, x369, x370, x371, x372, x373, x374], [x375, x376, x377, x378, x379, x380, x381, x382, x383, x384, x385, x386, x387, x388, x389, x390, x391, x392, x393, x394, x395, x396, x397, x398, x399], [x400, x401, x402, x403, x404, x405, x406, x407, x408, x409, x410, x411, x412, x413, x414, x415, x416, x417, x418, x419, x420, x421, x422, x423, x424], [x425, x426, x427, x428, x429, x430, x431, x432, x433, x434, x435, x436, x437, x438, x439, x440, x441, x442, x443, x444, x445, x446, x447, x448, x449], [x450, x451, x452, x453, x454, x455, x456, x457, x458, x459, x460, x461, x462, x463, x464, x465, x466, x467, x468, x469, x470, x471, x472, x473, x474], [x475, x476, x477, x478, x479, x480, x481, x482, x483, x484, x485, x486, x487, x488, x489, x490, x491, x492, x493, x494, x495, x496, x497, x498, x499], [x500, x501, x502, undef, undef, undef, undef, undef, undef, undef, undef, undef, undef, undef, undef, undef, undef, undef, undef, undef, undef, undef, undef, undef, undef], [undef, undef, undef, undef, undef, undef, undef, undef, undef, undef, undef, undef, undef, undef, undef, undef, undef, undef, undef, undef, undef, undef, undef, undef, undef], [undef, undef, undef, undef, undef, undef, undef, undef, undef, undef, undef, undef, undef, undef, undef, undef, undef, undef, undef, undef, undef, undef, undef, undef, undef], [undef, undef, undef, undef, undef, undef, undef, undef, undef, undef, undef, undef, undef, undef, undef, undef, undef, undef, undef, undef, undef, undef, undef, undef, undef], [undef, undef, undef, undef, undef, undef, undef, undef, undef, undef, undef, undef, undef, undef, undef, undef, undef, undef, undef, undef, undef, undef, undef, undef, undef], [undef, undef, undef, undef, undef, undef, undef, undef, undef, undef, undef, undef, undef, undef]] : List (List Value)).getD (n / 25) []).getD (n % 25) (.bool false), by kernel_rfl⟩
/-- A frame in which only the slots 1, 5, 6, 10, 18, 30, 42, 43, 44, 46, 47, 48, 49, 50, 51, 52, 418 are told. -/
def laW (f : Nat → Value) (v1 v5 v6 v10 v18 v30 v42 v43 v44 v46 v47 v48 v49 v50 v51 v52 v418 : Value) : List Value := [
  f 0, v1, f 2, f 3, f 4, v5, v6, f 7, f 8, f 9, v10, f 11, f 12, f 13, f 14, f 15, f 16, f 17, v18, f 19, f 20, f 21, f 22, f 23, f 24, f 25, f 26, f 27, f 28, f 29, v30, f 31, f 32, f 33, f 34, f 35, f 36, f 37, f 38, f 39,
  f 40, f 41, v42, v43, v44, f 45, v46, v47, v48, v49, v50, v51, v52, f 53, f 54, f 55, f 56, f 57, f 58, f 59, undef, undef, undef, undef, undef, undef, undef, undef, undef, undef, undef, undef, undef, undef, undef, undef, undef, undef, undef, undef,
  undef, undef, undef, undef, undef, undef, undef, f 87, f 88, f 89, f 90, f 91, f 92, f 93, f 94, f 95, f 96, f 97, f 98, f 99, f 100, f 101, f 102, f 103, f 104, f 105, f 106, f 107, f 108, f 109, f 110, f 111, f 112, f 113, f 114, f 115, f 116, f 117, f 118, f 119,
  f 120, f 121, f 122, f 123, f 124, f 125, f 126, f 127, f 128, f 129, f 130, f 131, f 132, f 133, f 134, f 135, f 136, f 137, f 138, f 139, f 140, f 141, f 142, f 143, f 144, f 145, f 146, f 147, f 148, f 149, f 150, f 151, f 152, f 153, f 154, f 155, f 156, f 157, f 158, f 159,
  f 160, f 161, f 162, f 163, f 164, f 165, f 166, f 167, f 168, f 169, f 170, f 171, f 172, f 173, f 174, f 175, f 176, f 177, f 178, f 179, f 180, f 181, f 182, f 183, f 184, f 185, f 186, f 187, f 188, f 189, f 190, f 191, f 192, f 193, f 194, f 195, f 196, f 197, f 198, f 199,
  f 200, f 201, f 202, f 203, f 204, f 205, f 206, f 207, f 208, f 209, f 210, f 211, f 212, f 213, f 214, f 215, f 216, f 217, f 218, f 219, f 220, f 221, f 222, f 223, f 224, f 225, f 226, f 227, f 228, f 229, f 230, f 231, f 232, f 233, f 234, f 235, f 236, f 237, f 238, f 239,
  f 240, f 241, f 242, f 243, f 244, f 245, f 246, f 247, f 248, f 249, f 250, f 251, f 252, f 253, f 254, f 255, f 256, f 257, f 258, f 259, f 260, f 261, f 262, f 263, f 264, f 265, f 266, f 267, f 268, f 269, f 270, f 271, f 272, f 273, f 274, f 275, f 276, f 277, f 278, f 279,
  f 280, f 281, f 282, f 283, f 284, f 285, f 286, f 287, f 288, f 289, f 290, f 291, f 292, f 293, f 294, f 295, f 296, f 297, f 298, f 299, f 300, f 301, f 302, f 303, f 304, f 305, f 306, f 307, f 308, f 309, f 310, f 311, f 312, f 313, f 314, f 315, f 316, f 317, f 318, f 319,
  f 320, f 321, f 322, f 323, f 324, f 325, f 326, f 327, f 328, f 329, f 330, f 331, f 332, f 333, f 334, f 335, f 336, f 337, f 338, f 339, f 340, f 341, f 342, f 343, f 344, f 345, f 346, f 347, f 348, f 349, f 350, f 351, f 352, f 353, f 354, f 355, f 356, f 357, f 358, f 359,
  f 360, f 361, f 362, f 363, f 364, f 365, f 366, f 367, f 368, f 369, f 370, f 371, f 372, f 373, f 374, f 375, f 376, f 377, f 378, f 379, f 380, f 381, f 382, f 383, f 384, f 385, f 386, f 387, f 388, f 389, f 390, f 391, f 392, f 393, f 394, f 395, f 396, f 397, f 398, f 399,
  f 400, f 401, f 402, f 403, f 404, f 405, f 406, f 407, f 408, f 409, f 410, f 411, f 412, f 413, f 414, f 415, f 416, f 417, v418, f 419, f 420, f 421, f 422, f 423, f 424, f 425, f 426, f 427, f 428, f 429, f 430, f 431, f 432, f 433, f 434, f 435, f 436, f 437, f 438, f 439,
  f 440, f 441, f 442, f 443, f 444, f 445, f 446, f 447, f 448, f 449, f 450, f 451, f 452, f 453, f 454, f 455, f 456, f 457, f 458, f 459, f 460, f 461, f 462, f 463, f 464, f 465, f 466, f 467, f 468, f 469, f 470, f 471, f 472, f 473, f 474, f 475, f 476, f 477, f 478, f 479,
  f 480, f 481, f 482, f 483, f 484, f 485, f 486, f 487, f 488, f 489, f 490, f 491, f 492, f 493, f 494, f 495, f 496, f 497, f 498, f 499, f 500, f 501, f 502, undef, undef, undef, undef, undef, undef, undef, undef, undef, undef, undef, undef, undef, undef, undef, undef, undef,
  undef, undef, undef, undef, undef, undef, undef, undef, undef, undef, undef, undef, undef, undef, undef, undef, undef, undef, undef, undef, undef, undef, undef, undef, undef, undef, undef, undef, undef, undef, undef, undef, undef, undef, undef, undef, undef, undef, undef, undef,
  undef, undef, undef, undef, undef, undef, undef, undef, undef, undef, undef, undef, undef, undef, undef, undef, undef, undef, undef, undef, undef, undef, undef, undef, undef, undef, undef, undef, undef, undef, undef, undef, undef, undef, undef, undef, undef, undef, undef, undef,
  undef, undef, undef, undef, undef, undef, undef, undef, undef, undef, undef, undef, undef, undef, undef, undef, undef, undef, undef, undef, undef, undef, undef, undef, undef, undef, undef, undef, undef, undef, undef, undef, undef, undef, undef, undef, undef, undef, undef]
theorem laW_ex {x0 x1 x2 x3 x4 x5 x6 x7 x8 x9 x10 x11 x12 x13 x14 x15 x16 x17 x18 x19 x20 x21 x22 x23 x24 x25 x26 x27 x28 x29 x30 x31 x32 x33 x34 x35 x36 x37 x38 x39 x40 x41 x42 x43 x44 x45 x46 x47 x48 x49 x50 x51 x52 x53 x54 x55 x56 x57 x58 x59 x87 x88 x89 x90 x91 x92 x93 x94 x95 x96 x97 x98 x99 x100 x101 x102 x103 x104 x105 x106 x107 x108 x109 x110 x111 x112 x113 x114 x115 x116 x117 x118 x119 x120 x121 x122 x123 x124 x125 x126 x127 x128 x129 x130 x131 x132 x133 x134 x135 x136 x137 x138 x139 x140 x141 x142 x143 x144 x145 x146 x147 x148 x149 x150 x151 x152 x153 x154 x155 x156 x157 x158 x159 x160 x161 x162 x163 x164 x165 x166 x167 x168 x169 x170 x171 x172 x173 x174 x175 x176 x177 x178 x179 x180 x181 x182 x183 x184 x185 x186 x187 x188 x189 x190 x191 x192 x193 x194 x195 x196 x197 x198 x199 x200 x201 x202 x203 x204 x205 x206 x207 x208 x209 x210 x211 x212 x213 x214 x215 x216 x217 x218 x219 x220 x221 x222 x223 x224 x225 x226 x227 x228 x229 x230 x231 x232 x233 x234 x235 x236 x237 x238 x239 x240 x241 x242 x243 x244 x245 x246 x247 x248 x249 x250 x251 x252 x253 x254 x255 x256 x257 x258 x259 x260 x261 x262 x263 x264 x265 x266 x267 x268 x269 x270 x271 x272 x273 x274 x275 x276 x277 x278 x279 x280 x281 x282 x283 x284 x285 x286 x287 x288 x289 x290 x291 x292 x293 x294 x295 x296 x297 x298 x299 x300 x301 x302 x303 x304 x305 x306 x307 x308 x309 x310 x311 x312 x313 x314 x315 x316 x317 x318 x319 x320 x321 x322 x323 x324 x325 x326 x327 x328 x329 x330 x331 x332 x333 x334 x335 x336 x337 x338 x339 x340 x341 x342 x343 x344 x345 x346 x347 x348 x349 x350 x351 x352 x353 x354 x355 x356 x357 x358 x359 x360 x361 x362 x363 x364 x365 x366 x367 x368 x369 x370 x371 x372 x373 x374 x375 x376 x377 x378 x379 x380 x381 x382 x383 x384 x385 x386 x387 x388 x389 x390 x391 x392 x393 x394 x395 x396 x397 x398 x399 x400 x401 x402 x403 x404 x405 x406 x407 x408 x409 x410 x411 x412 x413 x414 x415 x416 x417 x418 x419 x420 x421 x422 x423 x424 x425 x426 x427 x428 x429 x430 x431 x432 x433 x434 x435 x436 x437 x438 x439 x440 x441 x442 x443 x444 x445 x446 x447 x448 x449 x450 x451 x452 x453 x454 x455 x456 x457 x458 x459 x460 x461 x462 x463 x464 x465 x466 x467 x468 x469 x470 x471 x472 x473 x474 x475 x476 x477 x478 x479 x480 x481 x482 x483 x484 x485 x486 x487 x488 x489 x490 x491 x492 x493 x494 x495 x496 x497 x498 x499 x500 x501 x502 : Value} : ∃ f, (⟨([x0, x1, x2, x3, x4, x5, x6, x7, x8, x9, x10, x11, x12, x13, x14, x15, x16, x17, x18, x19, x20, x21, x22, x23, x24, x25, x26, x27, x28, x29, x30, x31, x32, x33, x34, x35, x36, x37, x38, x39, x40, x41, x42, x43, x44, x45, x46, x47, x48, x49, x50, x51, x52, x53, x54, x55, x56, x57, x58, x59, undef, undef, undef, undef, undef, undef, undef, undef, undef, undef, undef, undef, undef, undef, undef, undef, undef, undef, undef, undef, undef, undef, undef, undef, undef, undef, undef, x87, x88, x89, x90, x91, x92, x93, x94, x95, x96, x97, x98, x99, x100, x101, x102, x103, x104, x105, x106, x107, x108, x109, x110, x111, x112, x113, x114, x115, x116, x117, x118, x119, x120, x121, x122, x123, x124, x125, x126, x127, x128, x129, x130, x131, x132, x133, x134, x135, x136, x137, x138, x139, x140, x141, x142, x143, x144, x145, x146, x147, x148, x149, x150, x151, x152, x153, x154, x155, x156, x157, x158, x159, x160, x161, x162, x163, x164, x165, x166, x167, x168, x169, x170, x171, x172, x173, x174, x175, x176, x177, x178, x179, x180, x181, x182, x183, x184, x185, x186, x187, x188, x189, x190, x191, x192, x193, x194, x195, x196, x197, x198, x199, x200, x201, x202, x203, x204, x205, x206, x207, x208, x209, x210, x211, x212, x213, x214, x215, x216, x217, x218, x219, x220, x221, x222, x223, x224, x225, x226, x227, x228, x229, x230, x231, x232, x233, x234, x235, x236, x237, x238, x239, x240, x241, x242, x243, x244, x245, x246, x247, x248, x249, x250, x251, x252, x253, x254, x255, x256, x257, x258, x259, x260, x261, x262, x263, x264, x265, x266, x267, x268, x269, x270, x271, x272, x273, x274, x275, x276, x277, x278, x279, x280, x281, x282, x283, x284, x285, x286, x287, x288, x289, x290, x291, x292, x293, x294, x295, x296, x297, x298, x299, x300, x301, x302, x303, x304, x305, x306, x307, x308, x309, x310, x311, x312, x313, x314, x315, x316, x317, x318, x319, x320, x321, x322, x323, x324, x325, x326, x327, x328, x329, x330, x331, x332, x333, x334, x335, x336, x337, x338, x339, x340, x341, x342, x343, x344, x345, x346, x347, x348, x349, x350, x351, x352, x353, x354, x355, x356, x357, x358, x359, x360, x361, x362, x363, x364, x365, x366, x367, x368, x369, x370, x371, x372, x373, x374, x375, x376, x377, x378, x379, x380, x381, x382, x383, x384, x385, x386, x387, x388, x389, x390, x391, x392, x393, x394, x395, x396, x397, x398, x399, x400, x401, x402, x403, x404, x405, x406, x407, x408, x409, x410, x411, x412, x413, x414, x415, x416, x417, x418, x419, x420, x421, x422, x423, x424, x425, x426, x427, x428, x429, x430, x431, x432, x433, x434, x435, x436, x437, x438, x439, x440, x441, x442, x443, x444, x445, x446, x447, x448, x449, x450, x451, x452, x453, x454, x455, x456, x457, x458, x459, x460, x461, x462, x463, x464, x465, x466, x467, x468, x469, x470, x471, x472, x473, x474, x475, x476, x477, x478, x479, x480, x481, x482, x483, x484, x485, x486, x487, x488, x489, x490, x491, x492, x493, x494, x495, x496, x497, x498, x499, x500, x501, x502, undef, undef, undef, undef, undef, undef, undef, undef, undef, undef, undef, undef, undef, undef, undef, undef, undef, undef, undef, undef, undef, undef, undef, undef, undef, undef, undef, undef, undef, undef, undef, undef, undef, undef, undef, undef, undef, undef, undef, undef, undef, undef, undef, undef, undef, undef, undef, undef, undef, undef, undef, undef, undef, undef, undef, undef, undef, undef, undef, undef, undef, undef, undef, undef, undef, undef, undef, undef, undef, undef, undef, undef, undef, undef, undef, undef, undef, undef, undef, undef, undef, undef, undef, undef, undef, undef, undef, undef, undef, undef, undef, undef, undef, undef, undef, undef, undef, undef, undef, undef, undef, undef, undef, undef, undef, undef, undef, undef, undef, undef, undef, undef, undef, undef, undef, undef, undef, undef, undef, undef, undef, undef, undef, undef, undef, undef, undef, undef, undef, undef, undef, undef, undef, undef, undef, undef]).toArray, []⟩ : Act) = ⟨(laW f x1 x5 x6 x10 x18 x30 x42 x43 x44 x46 x47 x48 x49 x50 x51 x52 x418).toArray, []⟩ := ⟨fun n => (([[x0, x1, x2, x3, x4, x5, x6, x7, x8, x9, x10, x11, x12, x13, x14, x15, x16, x17, x18, x19, x20, x21, x22, x23, x24], [x25, x26, x27, x28, x29, x30, x31, x32, x33, x34, x35, x36, x37, x38, x39, x40, x41, x42, x43, x44, x45, x46, x47, x48, x49], [x50, x51, x52, x53, x54, x55, x56, x57, x58, x59, undef, undef, undef, undef, undef, undef, undef, undef, undef, undef, undef, undef, undef, undef, undef], [undef, undef, undef, undef, undef, undef, undef, undef, undef, undef, undef, undef, x87, x88, x89, x90, x91, x92, x93, x94, x95, x96, x97, x98, x99], [x100, x101, x102, x103, x104, x105, x106, x107, x108, x109, x110, x111, x112, x113, x114, x115, x116, x117, x118, x119, x120, x121, x122, x123, x124], [x125, x126, x127, x128, x129, x130, x131, x132, x133, x134, x135, x136, x137, x138, x139, x140, x141, x142, x143, x144, x145, x146, x147, x148, x149], [x150, x151, x152, x153, x154, x155, x156, x157, x158, x159, x160, x161, x162, x163, x164, x165, x166, x167, x168, x169, x170, x171, x172, x173, x174], [x175, x176, x177, x178, x179, x180, x181, x182, x183, x184, x185, x186, x187, x188, x189, x190, x191, x192, x193, x194, x195, x196, x197, x198, x199], [x200, x201, x202, x203, x204, x205, x206, x207, x208, x209, x210, x211, x212, x213, x214, x215, x216, x217, x218, x219, x220, x221, x222, x223, x224], [x225, x226, x227, x228, x229, x230, x231, x232, x233, x234, x235, x236, x237, x238, x239, x240, x241, x242, x243, x244, x245, x246, x247, x248, x249], [x250, x251, x252, x253, x254, x255, x256, x257, x258, x259, x260, x261, x262, x263, x264, x265, x266, x267, x268, x269, x270, x271, x272, x273, x274], [x275, x276, x277, x278, x279, x280, x281, x282, x283, x284, x285, x286, x287, x288, x289, x290, x291, x292, x293, x294, x295, x296, x297, x298, x299], [x300, x301, x302, x303, x304, x305, x306, x307, x308, x309, x310, x311, x312, x313, x314, x315, x316, x317, x318, x319, x320, x321, x322, x323, x324], [x325, x326, x327, x328, x329, x330, x331, x332, x333, x334, x335, x336, x337, x338, x339, x340, x341, x342, x343, x344, x345, x346, x347, x348, x349], [x350, x351, x352, x353, x354, x355, x356, x357, x358, x359, x360, x361, x362, x363, x364, x365, x366, x367, x368, x369, x370, x371, x372, x373, x374], [x375, x376, x377, x378, x379, x380, x381, x382, x383, x384, x385, x386, x387, x388, x389, x390, x391, x392, x393, x394, x395, x396, x397, x398, x399], [x400, x401, x402, x403, x404, x405, x406, x407, x408, x409, x410, x411, x412, x413, x414, x415, x416, x417, x418, x419, x420, x421, x422, x423, x424], [x425, x426, x427, x428, x429, x430, x431, x432, x433, x434, x435, x436, x437, x438, x439, x440, x441, x442, x443, x444, x445, x446, x447, x448, x449], [x450, x451, x452, x453, x454, x455, x456, x457, x458, x459, x460, x461, x462, x463, x464, x465, x466, x467, x468, x469, x470, x471, x472, x473, x474], [x475, x476, x477, x478, x479, x480, x481, x482, x483, x484, x485, x486, x487, x488, x489, x490, x491, x492, x493, x494, x495, x496, x497, x498, x499], [x500, x501, x502, undef, undef, undef, undef, undef, undef, undef, undef, undef, undef, undef, undef, undef, undef, undef, undef, undef, undef, undef, undef, undef, undef], [undef, undef, undef, undef, undef, undef, undef, undef, undef, undef, undef, undef, undef, undef, undef, undef, undef, undef, undef, undef, undef, undef, undef, undef, undef], [undef, undef, undef, undef, undef, undef, undef, undef, undef, undef, undef, undef, undef, undef, undef, undef, undef, undef, undef, undef, undef, undef, undef, undef, undef], [undef, undef, undef, undef, undef, undef, undef, undef, undef, undef, undef, undef, undef, undef, undef, undef, undef, undef, undef, undef, undef, undef, undef, undef, undef], [undef, undef, undef, undef, undef, undef, undef, undef, undef, undef, undef, undef, undef, undef, undef, undef, undef, undef, undef, undef, undef, undef, undef, undef, undef], [undef, undef, undef, undef, undef, undef, undef, undef, undef, undef, undef, undef, undef, undef]] : List (List Value)).getD (n / 25) []).getD (n % 25) (.bool false), by kernel_rfl⟩
/-- A frame in which only the slots 1, 5, 6, 10, 18, 30, 42, 43, 44, 54, 457 are told. -/
def laU (f : Nat → Value) (v1 v5 v6 v10 v18 v30 v42 v43 v44 v54 v457 : Value) : List Value := [
  f 0, v1, f 2, f 3, f 4, v5, v6, f 7, f 8, f 9, v10, f 11, f 12, f 13, f 14, f 15, f 16, f 17, v18, f 19, f 20, f 21, f 22, f 23, f 24, f 25, f 26, f 27, f 28, f 29, v30, f 31, f 32, f 33, f 34, f 35, f 36, f 37, f 38, f 39,
  f 40, f 41, v42, v43, v44, f 45, f 46, f 47, f 48, f 49, f 50, f 51, f 52, f 53, v54, f 55, f 56, f 57, f 58, f 59, undef, undef, undef, undef, undef, undef, undef, undef, undef, undef, undef, undef, undef, undef, undef, undef, undef, undef, undef, undef,
  undef, undef, undef, undef, undef, undef, undef, f 87, f 88, f 89, f 90, f 91, f 92, f 93, f 94, f 95, f 96, f 97, f 98, f 99, f 100, f 101, f 102, f 103, f 104, f 105, f 106, f 107, f 108, f 109, f 110, f 111, f 112, f 113, f 114, f 115, f 116, f 117, f 118, f 119,
  f 120, f 121, f 122, f 123, f 124, f 125, f 126, f 127, f 128, f 129, f 130, f 131, f 132, f 133, f 134, f 135, f 136, f 137, f 138, f 139, f 140, f 141, f 142, f 143, f 144, f 145, f 146, f 147, f 148, f 149, f 150, f 151, f 152, f 153, f 154, f 155, f 156, f 157, f 158, f 159,
  f 160, f 161, f 162, f 163, f 164, f 165, f 166, f 167, f 168, f 169, f 170, f 171, f 172, f 173, f 174, f 175, f 176, f 177, f 178, f 179, f 180, f 181, f 182, f 183, f 184, f 185, f 186, f 187, f 188, f 189, f 190, f 191, f 192, f 193, f 194, f 195, f 196, f 197, f 198, f 199,
  f 200, f 201, f 202, f 203, f 204, f 205, f 206, f 207, f 208, f 209, f 210, f 211, f 212, f 213, f 214, f 215, f 216, f 217, f 218, f 219, f 220, f 221, f 222, f 223, f 224, f 225, f 226, f 227, f 228, f 229, f 230, f 231, f 232, f 233, f 234, f 235, f 236, f 237, f 238, f 239,
  f 240, f 241, f 242, f 243, f 244, f 245, f 246, f 247, f 248, f 249, f 250, f 251, f 252, f 253, f 254, f 255, f 256, f 257, f 258, f 259, f 260, f 261, f 262, f 263, f 264, f 265, f 266, f 267, f 268, f 269, f 270, f 271, f 272, f 273, f 274, f 275, f 276, f 277, f 278, f 279,
  f 280, f 281, f 282, f 283, f 284, f 285, f 286, f 287, f 288, f 289, f 290, f 291, f 292, f 293, f 294, f 295, f 296, f 297, f 298, f 299, f 300, f 301, f 302, f 303, f 304, f 305, f 306, f 307, f 308, f 309, f 310, f 311, f 312, f 313, f 314, f 315, f 316, f 317, f 318, f 319,
  f 320, f 321, f 322, f 323, f 324, f 325, f 326, f 327, f 328, f 329, f 330, f 331, f 332, f 333, f 334, f 335, f 336, f 337, f 338, f 339, f 340, f 341, f 342, f 343, f 344, f 345, f 346, f 347, f 348, f 349, f 350, f 351, f 352, f 353, f 354, f 355, f 356, f 357, f 358, f 359,
  f 360, f 361, f 362, f 363, f 364, f 365, f 366, f 367, f 368, f 369, f 370, f 371, f 372, f 373, f 374, f 375, f 376, f 377, f 378, f 379, f 380, f 381, f 382, f 383, f 384, f 385, f 386, f 387, f 388, f 389, f 390, f 391, f 392, f 393, f 394, f 395, f 396, f 397, f 398, f 399,
  f 400, f 401, f 402, f 403, f 404, f 405, f 406, f 407, f 408, f 409, f 410, f 411, f 412, f 413, f 414, f 415, f 416, f 417, f 418, f 419, f 420, f 421, f 422, f 423, f 424, f 425, f 426, f 427, f 428, f 429, f 430, f 431, f 432, f 433, f 434, f 435, f 436, f 437, f 438, f 439,
  f 440, f 441, f 442, f 443, f 444, f 445, f 446, f 447, f 448, f 449, f 450, f 451, f 452, f 453, f 454, f 455, f 456, v457, f 458, f 459, f 460, f 461, f 462, f 463, f 464, f 465, f 466, f 467, f 468, f 469, f 470, f 471, f 472, f 473, f 474, f 475, f 476, f 477, f 478, f 479,
  f 480, f 481, f 482, f 483, f 484, f 485, f 486, f 487, f 488, f 489, f 490, f 491, f 492, f 493, f 494, f 495, f 496, f 497, f 498, f 499, f 500, f 501, f 502, undef, undef, undef, undef, undef, undef, undef, undef, undef, undef, undef, undef, undef, undef, undef, undef, undef,
  undef, undef, undef, undef, undef, undef, undef, undef, undef, undef, undef, undef, undef, undef, undef, undef, undef, undef, undef, undef, undef, undef, undef, undef, undef, undef, undef, undef, undef, undef, undef, undef, undef, undef, undef, undef, undef, undef, undef, undef,
  undef, undef, undef, undef, undef, undef, undef, undef, undef, undef, undef, undef, undef, undef, undef, undef, undef, undef, undef, undef, undef, undef, undef, undef, undef, undef, undef, undef, undef, undef, undef, undef, undef, undef, undef, undef, undef, undef, undef, undef,
  undef, undef, undef, undef, undef, undef, undef, undef, undef, undef, undef, undef, undef, undef, undef, undef, undef, undef, undef, undef, undef, undef, undef, undef, undef, undef, undef, undef, undef, undef, undef, undef, undef, undef, undef, undef, undef, undef, undef]
theorem laU_ex {x0 x1 x2 x3 x4 x5 x6 x7 x8 x9 x10 x11 x12 x13 x14 x15 x16 x17 x18 x19 x20 x21 x22 x23 x24 x25 x26 x27 x28 x29 x30 x31 x32 x33 x34 x35 x36 x37 x38 x39 x40 x41 x42 x43 x44 x45 x46 x47 x48 x49 x50 x51 x52 x53 x54 x55 x56 x57 x58 x59 x87 x88 x89 x90 x91 x92 x93 x94 x95 x96 x97 x98 x99 x100 x101 x102 x103 x104 x105 x106 x107 x108 x109 x110 x111 x112 x113 x114 x115 x116 x117 x118 x119 x120 x121 x122 x123 x124 x125 x126 x127 x128 x129 x130 x131 x132 x133 x134 x135 x136 x137 x138 x139 x140 x141 x142 x143 x144 x145 x146 x147 x148 x149 x150 x151 x152 x153 x154 x155 x156 x157 x158 x159 x160 x161 x162 x163 x164 x165 x166 x167 x168 x169 x170 x171 x172 x173 x174 x175 x176 x177 x178 x179 x180 x181 x182 x183 x184 x185 x186 x187 x188 x189 x190 x191 x192 x193 x194 x195 x196 x197 x198 x199 x200 x201 x202 x203 x204 x205 x206 x207 x208 x209 x210 x211 x212 x213 x214 x215 x216 x217 x218 x219 x220 x221 x222 x223 x224 x225 x226 x227 x228 x229 x230 x231 x232 x233 x234 x235 x236 x237 x238 x239 x240 x241 x242 x243 x244 x245 x246 x247 x248 x249 x250 x251 x252 x253 x254 x255 x256 x257 x258 x259 x260 x261 x262 x263 x264 x265 x266 x267 x268 x269 x270 x271 x272 x273 x274 x275 x276 x277 x278 x279 x280 x281 x282 x283 x284 x285 x286 x287 x288 x289 x290 x291 x292 x293 x294 x295 x296 x297 x298 x299 x300 x301 x302 x303 x304 x305 x306 x307 x308 x309 x310 x311 x312 x313 x314 x315 x316 x317 x318 x319 x320 x321 x322 x323 x324 x325 x326 x327 x328 x329 x330 x331 x332 x333 x334 x335 x336 x337 x338 x339 x340 x341 x342 x343 x344 x345 x346 x347 x348 x349 x350 x351 x352 x353 x354 x355 x356 x357 x358 x359 x360 x361 x362 x363 x364 x365 x366 x367 x368 x369 x370 x371 x372 x373 x374 x375 x376 x377 x378 x379 x380 x381 x382 x383 x384 x385 x386 x387 x388 x389 x390 x391 x392 x393 x394 x395 x396 x397 x398 x399 x400 x401 x402 x403 x404 x405 x406 x407 x408 x409 x410 x411 x412 x413 x414 x415 x416 x417 x418 x419 x420 x421 x422 x423 x424 x425 x426 x427 x428 x429 x430 x431 x432 x433 x434 x435 x436 x437 x438 x439 x440 x441 x442 x443 x444 x445 x446 x447 x448 x449 x450 x451 x452 x453 x454 x455 x456 x457 x458 x459 x460 x461 x462 x463 x464 x465 x466 x467 x468 x469 x470 x471 x472 x473 x474 x475 x476 x477 x478 x479 x480 x481 x482 x483 x484 x485 x486 x487 x488 x489 x490 x491 x492 x493 x494 x495 x496 x497 x498 x499 x500 x501 x502 : Value} : ∃ f, (⟨([x0, x1, x2, x3, x4, x5, x6, x7, x8, x9, x10, x11, x12, x13, x14, x15, x16, x17, x18, x19, x20, x21, x22, x23, x24, x25, x26, x27, x28, x29, x30, x31, x32, x33, x34, x35, x36, x37, x38, x39, x40, x41, x42, x43, x44, x45, x46, x47, x48, x49, x50, x51, x52, x53, x54, x55, x56, x57, x58, x59, undef, undef, undef, undef, undef, undef, undef, undef, undef, undef, undef, undef, undef, undef, undef, undef, undef, undef, undef, undef, undef, undef, undef, undef, undef, undef, undef, x87, x88, x89, x90, x91, x92, x93, x94, x95, x96, x97, x98, x99, x100, x101, x102, x103, x104, x105, x106, x107, x108, x109, x110, x111, x112, x113, x114, x115, x116, x117, x118, x119, x120, x121, x122, x123, x124, x125, x126, x127, x128, x129, x130, x131, x132, x133, x134, x135, x136, x137, x138, x139, x140, x141, x142, x143, x144, x145, x146, x147, x148, x149, x150, x151, x152, x153, x154, x155, x156, x157, x158, x159, x160, x161, x162, x163, x164, x165, x166, x167, x168, x169, x170, x171, x172, x173, x174, x175, x176, x177, x178, x179, x180, x181, x182, x183, x184, x185, x186, x187, x188, x189, x190, x191, x192, x193, x194, x195, x196, x197, x198, x199, x200, x201, x202, x203, x204, x205, x206, x207, x208, x209, x210, x211, x212, x213, x214, x215, x216, x217, x218, x219, x220, x221, x222, x223, x224, x225, x226, x227, x228, x229, x230, x231, x232, x233, x234, x235, x236, x237, x238, x239, x240, x241, x242, x243, x244, x245, x246, x247, x248, x249, x250, x251, x252, x253, x254, x255, x256, x257, x258, x259, x260, x261, x262, x263, x264, x265, x266, x267, x268, x269, x270, x271, x272, x273, x274, x275, x276, x277, x278, x279, x280, x281, x282, x283, x284, x285, x286, x287, x288, x289, x290, x291, x292, x293, x294, x295, x296, x297, x298, x299, x300, x301, x302, x303, x304, x305, x306, x307, x308, x309, x310, x311, x312, x313, x314, x315, x316, x317, x318, x319, x320, x321, x322, x323, x324, x325, x326, x327, x328, x329, x330, x331, x332, x333, x334, x335, x336, x337, x338, x339, x340, x341, x342, x343, x344, x345, x346, x347, x348, x349, x350, x351, x352, x353, x354, x355, x356, x357, x358, x359, x360, x361, x362, x363, x364, x365, x366, x367, x368, x369, x370, x371, x372, x373, x374, x375, x376, x377, x378, x379, x380, x381, x382, x383, x384, x385, x386, x387, x388, x389, x390, x391, x392, x393, x394, x395, x396, x397, x398, x399, x400, x401, x402, x403, x404, x405, x406, x407, x408, x409, x410, x411, x412, x413, x414, x415, x416, x417, x418, x419, x420, x421, x422, x423, x424, x425, x426, x427, x428, x429, x430, x431, x432, x433, x434, x435, x436, x437, x438, x439, x440, x441, x442, x443, x444, x445, x446, x447, x448, x449, x450, x451, x452, x453, x454, x455, x456, x457, x458, x459, x460, x461, x462, x463, x464, x465, x466, x467, x468, x469, x470, x471, x472, x473, x474, x475, x476, x477, x478, x479, x480, x481, x482, x483, x484, x485, x486, x487, x488, x489, x490, x491, x492, x493, x494, x495, x496, x497, x498, x499, x500, x501, x502, undef, undef, undef, undef, undef, undef, undef, undef, undef, undef, undef, undef, undef, undef, undef, undef, undef, undef, undef, undef, undef, undef, undef, undef, undef, undef, undef, undef, undef, undef, undef, undef, undef, undef, undef, undef, undef, undef, undef, undef, undef, undef, undef, undef, undef, undef, undef, undef, undef, undef, undef, undef, undef, undef, undef, undef, undef, undef, undef, undef, undef, undef, undef, undef, undef, undef, undef, undef, undef, undef, undef, undef, undef, undef, undef, undef, undef, undef, undef, undef, undef, undef, undef, undef, undef, undef, undef, undef, undef, undef, undef, undef, undef, undef, undef, undef, undef, undef, undef, undef, undef, undef, undef, undef, undef, undef, undef, undef, undef, undef, undef, undef, undef, undef, undef, undef, undef, undef, undef, undef, undef, undef, undef, undef, undef, undef, undef, undef, undef, undef, undef, undef, undef, undef, undef, undef]).toArray, []⟩ : Act) = ⟨(laU f x1 x5 x6 x10 x18 x30 x42 x43 x44 x54 x457).toArray, []⟩ := ⟨fun n => (([[x0, x1, x2, x3, x4, x5, x6, x7, x8, x9, x10, x11, x12, x13, x14, x15, x16, x17, x18, x19, x20, x21, x22, x23, x24], [x25, x26, x27, x28, x29, x30, x31, x32, x33, x34, x35, x36, x37, x38, x39, x40, x41, x42, x43, x44, x45, x46, x47, x48, x49], [x50, x51, x52, x53, x54, x55, x56, x57, x58, x59, undef, undef, undef, undef, undef, undef, undef, undef, undef, undef, undef, undef, undef, undef, undef], [undef, undef, undef, undef, undef, undef, undef, undef, undef, undef, undef, undef, x87, x88, x89, x90, x91, x92, x93, x94, x95, x96, x97, x98, x99], [x100, x101, x102, x103, x104, x105, x106, x107, x108, x109, x110, x111, x112, x113, x114, x115, x116, x117, x118, x119, x120, x121, x122, x123, x124], [x125, x126, x127, x128, x129, x130, x131, x132, x133, x134, x135, x136, x137, x138, x139, x140, x141, x142, x143, x144, x145, x146, x147, x148, x149], [x150, x151, x152, x153, x154, x155, x156, x157, x158, x159, x160, x161, x162, x163, x164, x165, x166, x167, x168, x169, x170, x171, x172, x173, x174], [x175, x176, x177, x178, x179, x180, x181, x182, x183, x184, x185, x186, x187, x188, x189, x190, x191, x192, x193, x194, x195, x196, x197, x198, x199], [x200, x201, x202, x203, x204, x205, x206, x207, x208, x209, x210, x211, x212, x213, x214, x215, x216, x217, x218, x219, x220, x221, x222, x223, x224], [x225, x226, x227, x228, x229, x230, x231, x232, x233, x234, x235, x236, x237, x238, x239, x240, x241, x242, x243, x244, x245, x246, x247, x248, x249], [x250, x251, x252, x253, x254, x255, x256, x257, x258, x259, x260, x261, x262, x263, x264, x265, x266, x267, x268, x269, x270, x271, x272, x273, x274], [x275, x276, x277, x278, x279, x280, x281, x282, x283, x284, x285, x286, x287, x288, x289, x290, x291, x292, x293, x294, x295, x296, x297, x298, x299], [x300, x301, x302, x303, x304, x305, x306, x307, x308, x309, x310, x311, x312, x313, x314, x315, x316, x317, x318, x319, x320, x321, x322, x323, x324], [x325, x326, x327, x328, x329, x330, x331, x332, x333, x334, x335, x336, x337, x338, x339, x340, x341, x342, x343, x344, x345, x346, x347, x348, x349], [x350, x351, x352, x353, x354, x355, x356, x357, x358, x359, x360, x361, x362, x363, x364, x365, x366, x367, x368, x369, x370, x371, x372, x373, x374], [x375, x376, x377, x378, x379, x380, x381, x382, x383, x384, x385, x386, x387, x388, x389, x390, x391, x392, x393, x394, x395, x396, x397, x398, x399], [x400, x401, x402, x403, x404, x405, x406, x407, x408, x409, x410, x411, x412, x413, x414, x415, x416, x417, x418, x419, x420, x421, x422, x423, x424], [x425, x426, x427, x428, x429, x430, x431, x432, x433, x434, x435, x436, x437, x438, x439, x440, x441, x442, x443, x444, x445, x446, x447, x448, x449], [x450, x451, x452, x453, x454, x455, x456, x457, x458, x459, x460, x461, x462, x463, x464, x465, x466, x467, x468, x469, x470, x471, x472, x473, x474], [x475, x476, x477, x478, x479, x480, x481, x482, x483, x484, x485, x486, x487, x488, x489, x490, x491, x492, x493, x494, x495, x496, x497, x498, x499], [x500, x501, x502, undef, undef, undef, undef, undef, undef, undef, undef, undef, undef, undef, undef, undef, undef, undef, undef, undef, undef, undef, undef, undef, undef], [undef, undef, undef, undef, undef, undef, undef, undef, undef, undef, undef, undef, undef, undef, undef, undef, undef, undef, undef, undef, undef, undef, undef, undef, undef], [undef, undef, undef, undef, undef, undef, undef, undef, undef, undef, undef, undef, undef, undef, undef, undef, undef, undef, undef, undef, undef, undef, undef, undef, undef], [undef, undef, undef, undef, undef, undef, undef, undef, undef, undef, undef, undef, undef, undef, undef, undef, undef, undef, undef, undef, undef, undef, undef, undef, undef], [undef, undef, undef, undef, undef, undef, undef, undef, undef, undef, undef, undef, undef, undef, undef, undef, undef, undef, undef, undef, undef, undef, undef, undef, undef], [undef, undef, undef, undef, undef, undef, undef, undef, undef, undef, undef, undef, undef, undef]] : List (List Value)).getD (n / 25) []).getD (n % 25) (.bool false), by kernel_rfl⟩
end Go.Proofs.YtcgoaipbfnhjhaaGreatDoor.Pr

/- What the law of laced loops computes: true, where each test holds. -/
namespace Go.Proofs.YtcgoaipbfnhjhaaGreatDoor.Pr
open Go.RowKit Go.Proofs.YtcgoaipbfnhjhaaGreatDoorW.PrintWords Go.Proofs.YtcgoaipbfnhjhaaGreatDoorW.PrintLast Go.Proofs.YtcgoaipbfnhjhaaGreatDoorW.PrintMore
set_option linter.unusedVariables false
set_option linter.unusedSimpArgs false

theorem lc_drawn {W w' : World} (h : Drawn0 W w') : Below W.heap.size W w' := by obtain ⟨n, rfl⟩ := h.out; exact pw_below_drewN (Below.refl _ _) n
theorem lc_calls {f : Nat} {vs : Array Value} {W : World} {v : Value} (h : Calls Tryz.prog f vs W fun e w' => e = .returned v ∧ Drawn0 W w') : Calls Tryz.prog f vs W fun e w' => e = .returned v ∧ Below W.heap.size W w' :=
  h.mono fun _ _ h => ⟨h.1, lc_drawn h.2⟩
theorem lc_if {c : Prop} [Decidable c] {α : Type} {x : Option α} {r : α} (h : (if c then x else none) = some r) : c ∧ x = some r := by
  split at h
  · exact ⟨by assumption, h⟩
  · cases h
theorem want_no {P : Program} {ops : Array Oper} {Q : Exit → Act → World → Prop} {a : Act} {w : World} {rest : List Oper} {dst : Option Tmp} {op : Op} {ty : TypeId} {pos : String} {after : Array Edge} {j : Nat}
    (hw : Region.wanted { dst, op, type := ty, pos, after, guard := some (j, false) } (yielded ops a.tmps) = true)
    (h : ∀ K : Act → World → Prop, (∀ a w, wpList P ops Q rest a w → K a w) → Oper.wp P { dst, op, type := ty, pos, after, guard := some (j, false) } a w K Q) : wpList P ops Q ({ dst, op, type := ty, pos, after, guard := some (j, false) } :: rest) a w :=
  BigFrame.wpList_want hw h
theorem want_at (j : Nat) {P : Program} {ops : Array Oper} {Q : Exit → Act → World → Prop} {a : Act} {w : World} {rest : List Oper} {dst : Option Tmp} {op : Op} {ty : TypeId} {pos : String} {after : Array Edge}
    (hw : Region.wanted { dst, op, type := ty, pos, after, guard := some (j, true) } (yielded ops a.tmps) = true)
    (h : ∀ K : Act → World → Prop, (∀ a w, wpList P ops Q rest a w → K a w) → Oper.wp P { dst, op, type := ty, pos, after, guard := some (j, true) } a w K Q) : wpList P ops Q ({ dst, op, type := ty, pos, after, guard := some (j, true) } :: rest) a w :=
  BigFrame.wpList_want hw h
theorem gtr_str {z a : ByteArray} (W : World) (h : (Op.bytesLess z.toList a.toList || z.toList == a.toList) = true) : Sem.run Tryz.prog (binOp BinOp.gtr 9 (Value.string z) (Value.string a)) W = .ok (.bool false) W := by
  have e : Sem.run Tryz.prog (binOp BinOp.gtr 9 (Value.string z) (Value.string a)) W = .ok (.bool (!(Op.bytesLess z.toList a.toList || z.toList == a.toList))) W := rfl
  rw [e, h]
  rfl
set_option maxHeartbeats 40000000 in
set_option maxRecDepth 100000 in
theorem laws_FnLoopsLace.calls (k : Nat) (A0 : Option Addr) (c0 : Nat) (l0 : List Int) (A1 : Option Addr) (c1 : Nat) (l1 : List Int) (r : Bool) (w : World) (hG : HasMax w) (hr0 : Kd.C (Kd.int .u8) w A0 l0.length l0) (hc0 : l0.length ≤ c0) (hr1 : Kd.C (Kd.int .u8) w A1 l1.length l1) (hc1 : l1.length ≤ c1) (h : laws_FnLoopsLace.f k l0 l1 = some r) :
    Calls Tryz.prog 4 #[.slice A0 l0.length c0, .slice A1 l1.length c1] w fun e w' => e = .returned (.bool r) ∧ Below w.heap.size w w' := by
  replace h := Option.bind_eq_some_iff.mp h; obtain ⟨t, ht, h⟩ := h
  have HBig := Aside0.mk (lc_calls (laws_big.calls A0 c0 l0 A1 c1 l1 t w hr0 hc0 hr1 hc1 ht))
  clear ht
  cases t with
  | true =>
    obtain rfl := Option.some.inj h
    clear h hr0 hr1 hG
    go_enter Tryz.func4, Tryz.ntmps4
    go_wp2_with (go_at_call 5; refine HBig.out.mono ?_; rintro e w1 ⟨rfl, hb1⟩)
    go_ret
    exact ⟨rfl, hb1⟩
  | false =>
    rw [if_neg (by decide)] at h
    replace h := Option.bind_eq_some_iff.mp h; obtain ⟨s0, hd, h⟩ := h
    replace h := Option.bind_eq_some_iff.mp h; obtain ⟨_, hA, h⟩ := h
    replace h := Option.bind_eq_some_iff.mp h; obtain ⟨_, hV, h⟩ := h
    obtain rfl := Option.some.inj h
    clear h
    have HR1 := Aside0.mk hr1
    have HM := Aside0.mk (fun (W : World) (hW : Below w.heap.size w W) => hG.go hW)
    have HD := Aside0.mk (fun (W : World) (hW : Below w.heap.size w W) => spec_DrawCanBeDrawn.calls k A0 c0 l0 s0 W (Kd.C_below hr0 hW) hc0 hd)
    have HPV := Aside0.mk hV
    clear hr0 hr1 hd hV hG
    unfold lcA at hA
    replace hA := Option.bind_eq_some_iff.mp hA; obtain ⟨⟨d1, d2⟩, A1', hA⟩ := hA
    replace hA := Option.bind_eq_some_iff.mp hA; obtain ⟨d', A2, hA⟩ := hA
    replace hA := Option.bind_eq_some_iff.mp hA; obtain ⟨⟨e1, e2⟩, A3, hA⟩ := hA
    replace hA := Option.bind_eq_some_iff.mp hA; obtain ⟨e', A4, hA⟩ := hA
    replace hA := Option.bind_eq_some_iff.mp hA; obtain ⟨⟨f1, f2⟩, A5, hA⟩ := hA
    replace hA := Option.bind_eq_some_iff.mp hA; obtain ⟨f', A6, hA⟩ := hA
    replace hA := Option.bind_eq_some_iff.mp hA; obtain ⟨⟨c1_, c2_⟩, A7, hA⟩ := hA
    replace hA := Option.bind_eq_some_iff.mp hA; obtain ⟨c', A8, hA⟩ := hA
    replace hA := Option.bind_eq_some_iff.mp hA; obtain ⟨⟨s1, s2⟩, A9, hA⟩ := hA
    replace hA := Option.bind_eq_some_iff.mp hA; obtain ⟨s', A10, hA⟩ := hA
    replace hA := Option.bind_eq_some_iff.mp hA; obtain ⟨⟨b1, b2⟩, A11, hA⟩ := hA
    replace hA := Option.bind_eq_some_iff.mp hA; obtain ⟨b', A12, hA⟩ := hA
    replace hA := Option.bind_eq_some_iff.mp hA; obtain ⟨⟨n1, n2⟩, A13, hA⟩ := hA
    replace hA := Option.bind_eq_some_iff.mp hA; obtain ⟨n', A14, hA⟩ := hA
    replace hA := Option.bind_eq_some_iff.mp hA; obtain ⟨g, A15, hA⟩ := hA
    replace hA := Option.bind_eq_some_iff.mp hA; obtain ⟨g', A16, hA⟩ := hA
    replace hA := lc_if hA; obtain ⟨⟨q1, q2, q3, q4, q5, q6, q7, q8, q9, q10, q11, q12, q13, q14, q15⟩, hA⟩ := hA
    simp only at q9 q10 q11 q12 q13 q14 q15 hA
    subst q1 q2 q3 q4 q5 q6 q7 q8
    subst q9 q10 q11 q12 q13 q14
    subst q15
    have C1 := Aside0.mk (fun (W : World) => impl_CanBeDrawn.calls k s0 d1 _ W A1')
    have C2 := Aside0.mk (fun (W : World) => lc_calls (spec_CanBeDrawn.calls k s0 d1 _ W A2))
    have C3 := Aside0.mk (fun (W : World) => impl_IsEvenLoop.calls k s0 e1 _ W A3)
    have C4 := Aside0.mk (fun (W : World) => lc_calls (spec_IsEvenLoop.calls k s0 e1 _ W A4))
    have C5 := Aside0.mk (fun (W : World) => impl_FirstLoop.calls k s0 f1 _ W A5)
    have C6 := Aside0.mk (fun (W : World) => spec_FirstLoop.calls k s0 f1 _ W A6)
    have C7 := Aside0.mk (fun (W : World) => impl_CurlsOf.calls k s0 c1_ _ W A7)
    have C8 := Aside0.mk (fun (W : World) => lc_calls (spec_CurlsOf.calls k s0 c1_ _ W A8))
    have C9 := Aside0.mk (fun (W : World) => impl_IsOneLoop.calls k s0 s1 _ W A9)
    have C10 := Aside0.mk (fun (W : World) => spec_IsOneLoop.calls k s0 s1 _ W A10)
    have C11 := Aside0.mk (fun (W : World) => impl_BackLoop.calls k s0 b1 _ W A11)
    have C12 := Aside0.mk (fun (W : World) => lc_calls (spec_BackLoop.calls k s0 b1 _ W A12))
    have C13 := Aside0.mk (fun (W : World) => impl_CountLoopCrossings.calls k s0 n1 _ W A13)
    have C14 := Aside0.mk (fun (W : World) => lc_calls (spec_CountLoopCrossings.calls k s0 n1 _ W A14))
    have C15 := Aside0.mk (fun (W : World) => impl_IsLoop.calls k s0 _ W A15)
    have C16 := Aside0.mk (fun (W : World) => lc_calls (spec_IsLoop.calls k s0 _ W A16))
    have HC := Aside0.mk hA
    clear A1' A2 A3 A4 A5 A6 A7 A8 A9 A10 A11 A12 A13 A14 A15 A16 hA
    go_enter Tryz.func4, Tryz.ntmps4
    go_upto_region 18 with (first | (go_at_call 5; refine HBig.out.mono ?_; rintro e w1 ⟨rfl, hb1⟩; have HB := Aside0.mk hb1; clear hb1 HBig) | (go_at_call 29; refine (HD.out _ HB.out).mono ?_; clear HD; rintro e w2 ⟨rfl, hb2⟩; have HB2 := Aside0.mk (below_step HB.out hb2); clear HB hb2; have HB := HB2; clear HB2) | ((first | (go_at_call 27; refine (C1.out _).mono ?_; clear C1) | (go_at_call 30; refine (C2.out _).mono ?_; clear C2) | (go_at_call 31; refine (C3.out _).mono ?_; clear C3) | (go_at_call 32; refine (C4.out _).mono ?_; clear C4) | (go_at_call 28; refine (C5.out _).mono ?_; clear C5) | (go_at_call 33; refine (C6.out _).mono ?_; clear C6) | (go_at_call 34; refine (C7.out _).mono ?_; clear C7) | (go_at_call 35; refine (C8.out _).mono ?_; clear C8) | (go_at_call 36; refine (C9.out _).mono ?_; clear C9) | (go_at_call 37; refine (C10.out _).mono ?_; clear C10) | (go_at_call 38; refine (C11.out _).mono ?_; clear C11) | (go_at_call 39; refine (C12.out _).mono ?_; clear C12) | (go_at_call 40; refine (C13.out _).mono ?_; clear C13) | (go_at_call 41; refine (C14.out _).mono ?_; clear C14)); rintro e w2 ⟨rfl, hb2⟩; have HB2 := Aside0.mk (below_step HB.out hb2); clear HB hb2; have HB := HB2; clear HB2))
    refine wp_cut (fun a' W => Below w.heap.size w W ∧ ∃ f, a' = ⟨(laA f (.slice A1 l1.length c1) (.string s0) (.bool d1) (.bool n2) (.bool e1) (.string f1) (.string c1_) (.bool s1) (.string b1) (.int .i64 n1) (.bool false)).toArray, []⟩) ?_ ?_
    rotate_left
    · intro J K' hJ hM
      clear HC HPV HR1 HM
      simp only [List.append_eq, List.cons_append, List.nil_append]
      go_wp2_with ((first | (go_at_call 12; refine (C15.out _).mono ?_) | (go_at_call 42; refine (C16.out _).mono ?_; clear C16)); rintro e w2 ⟨rfl, hb2⟩; have HB2 := Aside0.mk (below_step HB.out hb2); clear HB hb2; have HB := HB2; clear HB2)
      exact Met.intro (hJ _ _ ⟨HB.out, laA_ex⟩)
    clear HB C15 C16
    rintro _ wc ⟨hB, f, rfl⟩
    dsimp only [laA]
    have HB := Aside0.mk hB
    clear hB
    have hq := HC.out
    clear HC
    cases n2 with
    | false =>
      clear hq
      as_aux_lemma =>
      have hq := HPV.out
      clear HPV
      unfold lcV at hq
      replace hq := Option.bind_eq_some_iff.mp hq; obtain ⟨⟨v, va, vb⟩, g1, hq⟩ := hq
      replace hq := Option.bind_eq_some_iff.mp hq; obtain ⟨⟨x1, x2⟩, g2, hq⟩ := hq
      replace hq := Option.bind_eq_some_iff.mp hq; obtain ⟨x', g3, hq⟩ := hq
      replace hq := Option.bind_eq_some_iff.mp hq; obtain ⟨⟨y1, y2⟩, g4, hq⟩ := hq
      replace hq := Option.bind_eq_some_iff.mp hq; obtain ⟨y', g5, hq⟩ := hq
      replace hq := Option.bind_eq_some_iff.mp hq; obtain ⟨⟨z1, z2⟩, g6, hq⟩ := hq
      replace hq := Option.bind_eq_some_iff.mp hq; obtain ⟨z', g7, hq⟩ := hq
      replace hq := Option.bind_eq_some_iff.mp hq; obtain ⟨⟨u1, u2⟩, g8, hq⟩ := hq
      replace hq := Option.bind_eq_some_iff.mp hq; obtain ⟨⟨r1, r2⟩, g9, hq⟩ := hq
      replace hq := Option.bind_eq_some_iff.mp hq; obtain ⟨r', g10, hq⟩ := hq
      replace hq := lc_if hq; obtain ⟨⟨q1, q2, q3, q4, q5⟩, hq⟩ := hq
      simp only at q4 hq
      subst q1 q2 q3 q5
      subst q4
      have V1 := Aside0.mk (fun (W : World) (hW : Below w.heap.size w W) => spec_DrawAreInterlaced.calls k A1 c1 l1 v va vb W (Kd.C_below HR1.out hW) hc1 g1)
      have V2 := Aside0.mk (fun (W : World) => impl_AreInterlaced.calls k v va vb x1 x2 W g2)
      have V3 := Aside0.mk (fun (W : World) => lc_calls (spec_AreInterlaced.calls k v va vb x1 x2 W g3))
      have V4 := Aside0.mk (fun (W : World) => impl_InterlacedWith.calls k v va y1 _ W g4)
      have V5 := Aside0.mk (fun (W : World) => lc_calls (spec_InterlacedWith.calls k v va y1 _ W g5))
      have V6 := Aside0.mk (fun (W : World) (hW : HasMax W) => impl_DropCrossing.calls k v va z1 _ W hW g6)
      have V7 := Aside0.mk (fun (W : World) => lc_calls (spec_DropCrossing.calls k v va z1 _ W g7))
      have V8 := Aside0.mk (fun (W : World) (hW : Below w.heap.size w W) => spec_DrawTurnLoop.calls k A1 c1 l1 u1 u2 W (Kd.C_below HR1.out hW) hc1 g8)
      have V9 := Aside0.mk (fun (W : World) => impl_TurnLoop.calls k u1 u2 r1 r2 W g9)
      have V10 := Aside0.mk (fun (W : World) => lc_calls (spec_TurnLoop.calls k u1 u2 r1 r2 W g10))
      clear g1 g2 g3 g4 g5 g6 g7 g8 g9 g10
      cases r2 with
      | false =>
        clear hq
        go_wp2_with ((first | (go_at_call 46; refine (V1.out _ HB.out).mono ?_; clear V1) | (go_at_call 44; refine (V2.out _).mono ?_; clear V2) | (go_at_call 47; refine (V3.out _).mono ?_; clear V3) | (go_at_call 43; refine (V4.out _).mono ?_; clear V4) | (go_at_call 48; refine (V5.out _).mono ?_; clear V5) | (go_at_call 45; refine (V6.out _ (HM.out _ HB.out)).mono ?_; clear V6) | (go_at_call 49; refine (V7.out _).mono ?_; clear V7) | (go_at_call 50; refine (V8.out _ HB.out).mono ?_; clear V8) | (go_at_call 51; refine (V9.out _).mono ?_; clear V9) | (go_at_call 52; refine (V10.out _).mono ?_; clear V10)); rintro e w2 ⟨rfl, hb2⟩; have HB2 := Aside0.mk (below_step HB.out hb2); clear HB hb2; have HB := HB2; clear HB2)
        go_ret
        exact ⟨by first | rfl | (simp; done), HB.out⟩
      | true =>
        rw [if_pos rfl] at hq
        replace hq := Option.bind_eq_some_iff.mp hq; obtain ⟨⟨m1, m2⟩, g11, hq⟩ := hq
        replace hq := Option.bind_eq_some_iff.mp hq; obtain ⟨⟨p1, p2⟩, g12, hq⟩ := hq
        replace hq := Option.bind_eq_some_iff.mp hq; obtain ⟨q', g13, hq⟩ := hq
        replace hq := lc_if hq; obtain ⟨⟨q1, q2, q3⟩, hq⟩ := hq
        obtain ⟨x3, x4⟩ := Prod.mk.inj q1
        simp only at q2
        subst x3 x4 q2 q3
        have V11 := Aside0.mk (fun (W : World) => impl_SameLoops.calls k u1 r1 true true W g11)
        have V12 := Aside0.mk (fun (W : World) => impl_CanBeDrawn.calls k u1 p1 true W g12)
        have V13 := Aside0.mk (fun (W : World) => impl_CanBeDrawn.calls k r1 p1 true W g13)
        clear g11 g12 g13 hq q1
        go_wp2_with ((first | (go_at_call 46; refine (V1.out _ HB.out).mono ?_; clear V1) | (go_at_call 44; refine (V2.out _).mono ?_; clear V2) | (go_at_call 47; refine (V3.out _).mono ?_; clear V3) | (go_at_call 43; refine (V4.out _).mono ?_; clear V4) | (go_at_call 48; refine (V5.out _).mono ?_; clear V5) | (go_at_call 45; refine (V6.out _ (HM.out _ HB.out)).mono ?_; clear V6) | (go_at_call 49; refine (V7.out _).mono ?_; clear V7) | (go_at_call 50; refine (V8.out _ HB.out).mono ?_; clear V8) | (go_at_call 51; refine (V9.out _).mono ?_; clear V9) | (go_at_call 52; refine (V10.out _).mono ?_; clear V10) | (go_at_call 22; refine (V11.out _).mono ?_; clear V11) | (go_at_call 27; refine (V12.out _).mono ?_; clear V12) | (go_at_call 27; refine (V13.out _).mono ?_; clear V13)); rintro e w2 ⟨rfl, hb2⟩; have HB2 := Aside0.mk (below_step HB.out hb2); clear HB hb2; have HB := HB2; clear HB2)
        go_ret
        exact ⟨by first | rfl | (simp; done), HB.out⟩
    | true =>
      rw [if_pos rfl] at hq
      unfold lcB at hq
      replace hq := Option.bind_eq_some_iff.mp hq; obtain ⟨⟨t1, t2⟩, h1, hq⟩ := hq
      replace hq := Option.bind_eq_some_iff.mp hq; obtain ⟨⟨o1, o2⟩, h2, hq⟩ := hq
      replace hq := Option.bind_eq_some_iff.mp hq; obtain ⟨⟨a1, a2⟩, h3, hq⟩ := hq
      replace hq := Option.bind_eq_some_iff.mp hq; obtain ⟨⟨m1, m2⟩, h4, hq⟩ := hq
      replace hq := lc_if hq; obtain ⟨⟨q1, q2, q3, q4, q5, q6, q7, q8, q9, q10, q11, q12⟩, hq⟩ := hq
      obtain ⟨x1, x2⟩ := Prod.mk.inj q1; replace x1 := x1.symm; subst x1 x2
      obtain ⟨x1, x2⟩ := Prod.mk.inj q2; replace x1 := x1.symm; subst x1 x2
      obtain ⟨x1, x2⟩ := Prod.mk.inj q3; replace x1 := x1.symm; subst x1 x2
      obtain ⟨x1, x2⟩ := Prod.mk.inj q4; subst x1 x2
      obtain ⟨N, rfl⟩ : ∃ N : Nat, n1 = (N : Int) := ⟨n1.toNat, by omega⟩
      rw [Int.toNat_natCast] at hq
      have B1 := Aside0.mk (fun (W : World) => impl_BackLoop.calls k _ _ _ W h1)
      have B2 := Aside0.mk (fun (W : World) => impl_FirstLoop.calls k _ _ _ W h2)
      have B3 := Aside0.mk (fun (W : World) => impl_CanBeDrawn.calls k _ _ _ W h3)
      have B4 := Aside0.mk (fun (W : World) => impl_SameLoops.calls k _ _ _ _ W h4)
      have HK := Aside0.mk hq
      have HQ := Aside0.mk (And.intro q6 (And.intro q11 (And.intro q9 q10)))
      have HQ5 := Aside0.mk q5
      have HN8 := Aside0.mk (show N ≤ 8 by omega)
      have HAS := Aside0.mk (ascii_at q12)
      clear h1 h2 h3 h4 hq q1 q2 q3 q4 q5 q6 q7 q8 q9 q10 q11 q12
      go_upto_region 25 with ((first | (go_at_call 38; refine (B1.out _).mono ?_; clear B1) | (go_at_call 28; refine (B2.out _).mono ?_; clear B2) | (go_at_call 27; refine (B3.out _).mono ?_; clear B3) | (go_at_call 22; refine (B4.out _).mono ?_; clear B4)); rintro e w2 ⟨rfl, hb2⟩; have HB2 := Aside0.mk (below_step HB.out hb2); clear HB hb2; have HB := HB2; clear HB2)
      refine wp_cut (fun a' W => Below w.heap.size w W ∧ ∃ f, a' = ⟨(laB f (.slice A1 l1.length c1) (.string s0) (.bool d1) (.bool e1) (.string c1_) (.int .i64 (N : Int)) (.bool false)).toArray, []⟩) ?_ ?_
      rotate_left
      · intro J K' hJ hM
        obtain ⟨q6, q11, q9, q10⟩ := HQ.out
        have q5 := HQ5.out
        clear HK HM HAS HQ HQ5 HPV HR1
        have z1 : ((s0.size : Int) != wrap64 (2 * (N : Int))) = false := by
          have := HN8.out
          rw [q9, M.w64 (by omega) (by omega)]
          exact bne_self_eq_false _
        have z2 : decide ((c1_.size : Int) > (N : Int)) = false := decide_eq_false (by omega)
        have z3 : decide ((N : Int) < (c1_.size : Int)) = false := decide_eq_false (by omega)
        have z4 : decide (N < c1_.size) = false := decide_eq_false (by omega)
        clear q9 q10
        simp only [List.append_eq, List.cons_append, List.nil_append]
        go_wp2_with fail
        rw [gtr_str _ q5]
        simp only [Result.andThen]
        rw [Oper.upon_value]
        clear q5
        cases s1 with
        | false =>
          clear q11
          cases d1 with
          | false =>
            clear q6
            go_wp2_with fail
            exact Met.intro (hJ _ _ ⟨HB.out, laB_ex⟩)
          | true =>
            obtain rfl := q6 rfl
            clear q6
            go_wp2_with fail
            exact Met.intro (hJ _ _ ⟨HB.out, laB_ex⟩)
        | true =>
          by_cases hc : 0 < c1_.size
          · have hn : N ≤ 1 := by have := q11 rfl hc; omega
            have y1 : decide ((c1_.size : Int) > 0) = true := decide_eq_true (by omega)
            have y2 : decide ((0 : Int) < (c1_.size : Int)) = true := decide_eq_true (by omega)
            have y3 : decide (0 < c1_.size) = true := decide_eq_true (by omega)
            have y4 : decide ((N : Int) > 1) = false := decide_eq_false (by omega)
            have y5 : decide ((1 : Int) < (N : Int)) = false := decide_eq_false (by omega)
            have y6 : decide (1 < N) = false := decide_eq_false (by omega)
            clear q11 hc hn
            cases d1 with
            | false =>
              clear q6
              go_wp2_with fail
              exact Met.intro (hJ _ _ ⟨HB.out, laB_ex⟩)
            | true =>
              obtain rfl := q6 rfl
              clear q6
              go_wp2_with fail
              exact Met.intro (hJ _ _ ⟨HB.out, laB_ex⟩)
          · have y1 : decide ((c1_.size : Int) > 0) = false := decide_eq_false (by omega)
            have y2 : decide ((0 : Int) < (c1_.size : Int)) = false := decide_eq_false (by omega)
            have y3 : decide (0 < c1_.size) = false := decide_eq_false (by omega)
            clear q11 hc
            cases d1 with
            | false =>
              clear q6
              go_wp2_with fail
              exact Met.intro (hJ _ _ ⟨HB.out, laB_ex⟩)
            | true =>
              obtain rfl := q6 rfl
              clear q6
              go_wp2_with fail
              exact Met.intro (hJ _ _ ⟨HB.out, laB_ex⟩)
      clear HB HQ HQ5
      rintro _ wc ⟨hB, f, rfl⟩
      dsimp only [laB]
      have HB := Aside0.mk hB
      clear hB
      go_wp2_with fail
      refine wp_loop_ghost_k (fun gg a' W => ∃ i : Nat, i + gg = N ∧ Below w.heap.size w W ∧ lcK k s0 c1_ d1 e1 N gg i = some () ∧ ∃ f, a' = ⟨(laK f (.slice A1 l1.length c1) (.string s0) (.bool d1) (.bool e1) (.string c1_) (.int .i64 (N : Int)) (.int .i64 (i : Int))).toArray, []⟩) N ?_ ?_
      · exact ⟨0, by omega, HB.out, HK.out, laK_ex⟩
      clear HB HK
      rintro gk _ wr ⟨i, hI, hB, hK, f, rfl⟩ J1 K1' hJ1 hK1'
      dsimp only [laK]
      have HI := Aside0.mk hI
      have HB := Aside0.mk hB
      clear hI hB
      by_cases hlt : i < N
      · obtain ⟨gm, rfl⟩ : ∃ gm, gk = gm + 1 := ⟨gk - 1, by have := HI.out; omega⟩
        have hq := hK
        clear hK
        rw [lcK] at hq
        replace hq := Option.bind_eq_some_iff.mp hq; obtain ⟨⟨wi, wo⟩, h1, hq⟩ := hq
        replace hq := Option.bind_eq_some_iff.mp hq; obtain ⟨_, hI, hq⟩ := hq
        replace hq := Option.bind_eq_some_iff.mp hq; obtain ⟨⟨le, lo⟩, h3, hq⟩ := hq
        replace hq := Option.bind_eq_some_iff.mp hq; obtain ⟨⟨st, so⟩, h4, hq⟩ := hq
        replace hq := lc_if hq; obtain ⟨⟨q1, q2, q3, q4, q5, q6⟩, hq⟩ := hq
        simp only at q1 q2 q3 q4 q5 q6 hI h4
        subst q1 q4 q5
        obtain ⟨a, ha⟩ : ∃ a, a = atS s0 i := ⟨_, rfl⟩
        rw [← ha] at h1 hI h3 q6
        have L1 := Aside0.mk (fun (W : World) => impl_InterlacedWith.calls k _ _ _ _ W h1)
        have L3 := Aside0.mk (fun (W : World) (hW : HasMax W) => impl_DropCrossing.calls k _ _ _ _ W hW h3)
        have L4 := Aside0.mk (fun (W : World) => impl_CanBeDrawn.calls k _ _ _ W h4)
        have HII := Aside0.mk hI
        have HQ2 := Aside0.mk q2
        have HQ3 := Aside0.mk q3
        have HQ6 := Aside0.mk q6
        have HK := Aside0.mk hq
        have HA := Aside0.mk ha
        have c7 : decide ((i : Int) < (N : Int)) = true := decide_eq_true (by omega)
        have c7b : decide (i < N) = true := decide_eq_true hlt
        have e2 : IntKind.i64.wrap ((i : Int) + 1) = (i : Int) + 1 := by
          rw [i64_w]
          have := HN8.out
          exact M.w64 (by omega) (by omega)
        have hz : (⟨#[97, 98, 99, 100, 101, 102, 103, 104]⟩ : ByteArray).size = 8 := rfl
        have p0 : ((0 : Int) ≤ (i : Int)) = True := eq_true (by omega)
        have p1 : ((i : Int) ≤ (i : Int) + 1) = True := eq_true (by omega)
        have p2 : ((i : Int) + 1 ≤ 8) = True := eq_true (by have := HN8.out; omega)
        have p3 : (i + 1 ≤ 8) = True := eq_true (by have := HN8.out; omega)
        have p6 : (9223372036854775807 < ((⟨#[97, 98, 99, 100, 101, 102, 103, 104]⟩ : ByteArray).extract i (i + 1)).size) = False := eq_false (by rw [ByteArray.size_extract, hz]; omega)
        clear h1 hI h3 h4 q2 q3 q6 hq hlt ha
        go_wp2_with fail
        go_quiet (fail)
        have HB2 := Aside0.mk (pw_below_drewN HB.out nq)
        clear HB
        have HB := HB2
        clear HB2
        generalize hgg : (⟨#[97, 98, 99, 100, 101, 102, 103, 104]⟩ : ByteArray).extract i (i + 1) = a2
        obtain rfl : a2 = a := by rw [← hgg, HA.out]; rfl
        clear hgg HA p6
        generalize wr.drewN nq = W1 at HB ⊢
        go_upto_region 32 with (go_at_call 43; refine (L1.out _).mono ?_; clear L1; rintro e w2 ⟨rfl, hb2⟩; have HB2 := Aside0.mk (below_step HB.out hb2); clear HB hb2; have HB := HB2; clear HB2)
        refine wp_cut (fun a' W => Below w.heap.size w W ∧ ∃ f, a' = ⟨(laC f (.slice A1 l1.length c1) (.string s0) (.bool d1) (.bool e1) (.string c1_) (.int .i64 (N : Int)) (.int .i64 (i : Int)) (.string a2) (.string wi) (.bool false)).toArray, []⟩) ?_ ?_
        rotate_left
        · intro J K' hJ hM
          have q2 := HQ2.out
          clear HII HK HQ2 HQ3 HQ6 L3 L4 HAS HM HPV HR1 p0 p1 p2 p3
          cases e1 with
          | false =>
            clear q2
            go_wp2_with fail
            exact Met.intro (hJ _ _ ⟨HB.out, laC_ex⟩)
          | true =>
            have z0 := q2 rfl
            have z1 : Int.tmod (wi.size : Int) 2 = 0 := by
              rw [Int.tmod_eq_emod_of_nonneg (by omega)]
              exact z0
            have z2 : IntKind.i64.wrap 0 = 0 := rfl
            clear q2
            go_wp2_with fail
            exact Met.intro (hJ _ _ ⟨HB.out, laC_ex⟩)
        clear HB HQ2 c7 c7b e2 p0 p1 p2 p3
        rintro _ wc ⟨hB, f, rfl⟩
        dsimp only [laC]
        have HB := Aside0.mk hB
        clear hB
        go_wp2_with fail
        refine wp_loop_ghost_k (fun gg a' W => ∃ j : Nat, j + gg = N ∧ Below w.heap.size w W ∧ lcI k s0 a2 wi gg j = some () ∧ ∃ f, a' = ⟨(laI f (.slice A1 l1.length c1) (.string s0) (.bool d1) (.bool e1) (.string c1_) (.int .i64 (N : Int)) (.int .i64 (i : Int)) (.string a2) (.string wi) (.int .i64 (j : Int))).toArray, []⟩) N ?_ ?_
        · exact ⟨0, by omega, HB.out, HII.out, laI_ex⟩
        clear HB HII
        rintro gq _ wq ⟨j, hJ, hB, hII, f, rfl⟩ J2 K2' hJ2 hK2'
        dsimp only [laI]
        have HJ := Aside0.mk hJ
        have HB := Aside0.mk hB
        clear hJ hB
        by_cases hlt : j < N
        · obtain ⟨gn, rfl⟩ : ∃ gn, gq = gn + 1 := ⟨gq - 1, by have := HJ.out; omega⟩
          have hq := hII
          clear hII
          rw [lcI] at hq
          replace hq := Option.bind_eq_some_iff.mp hq; obtain ⟨⟨x, xo⟩, h1, hq⟩ := hq
          replace hq := Option.bind_eq_some_iff.mp hq; obtain ⟨y, h2, hq⟩ := hq
          replace hq := lc_if hq; obtain ⟨⟨q1, q2, q3, q4, q5⟩, hq⟩ := hq
          simp only at q1 q3 q4
          subst q1
          subst q2
          obtain ⟨b, hb⟩ : ∃ b, b = letS j := ⟨_, rfl⟩
          rw [← hb] at h1 h2 q3 q4
          have X1 := Aside0.mk (fun (W : World) => impl_AreInterlaced.calls k _ _ _ _ _ W h1)
          have X2 := Aside0.mk (fun (W : World) => impl_AreInterlaced.calls k _ _ _ _ _ W h2)
          have HII := Aside0.mk hq
          have HQ7 := Aside0.mk q3
          have HQ8 := Aside0.mk q4
          have HAW := Aside0.mk (ascii_at q5)
          have HA := Aside0.mk hb
          have c7 : decide ((j : Int) < (N : Int)) = true := decide_eq_true (by omega)
          have c7b : decide (j < N) = true := decide_eq_true hlt
          have e2 : IntKind.i64.wrap ((j : Int) + 1) = (j : Int) + 1 := by
            rw [i64_w]
            have := HN8.out
            exact M.w64 (by omega) (by omega)
          have hz : (⟨#[97, 98, 99, 100, 101, 102, 103, 104]⟩ : ByteArray).size = 8 := rfl
          have p0 : ((0 : Int) ≤ (j : Int)) = True := eq_true (by omega)
          have p1 : ((j : Int) ≤ (j : Int) + 1) = True := eq_true (by omega)
          have p2 : ((j : Int) + 1 ≤ 8) = True := eq_true (by have := HN8.out; omega)
          have p3 : (j + 1 ≤ 8) = True := eq_true (by have := HN8.out; omega)
          clear h1 h2 hq q3 q4 q5 hlt hb
          go_upto_region 38 with (fail)
          generalize hgg : (⟨#[97, 98, 99, 100, 101, 102, 103, 104]⟩ : ByteArray).extract j (j + 1) = b2
          obtain rfl : b2 = b := by rw [← hgg, HA.out]; rfl
          clear hgg HA c7 c7b e2 p0 p1 p2 p3
          go_wp2_with ((first | (go_at_call 44; refine (X1.out _).mono ?_; clear X1) | (go_at_call 44; refine (X2.out _).mono ?_; clear X2)); rintro e w2 ⟨rfl, hb2⟩; have HB2 := Aside0.mk (below_step HB.out hb2); clear HB hb2; have HB := HB2; clear HB2)
          generalize hK1 : w2.heap.size = K1
          have HIt := Aside0.mk (show (w2.iter wi 0).heap[K1]? = some (.stringIter wi 0) by rw [← hK1]; exact World.iter_heap _ wi 0)
          have HB2 := Aside0.mk (show Below w.heap.size w (w2.iter wi 0) from HB.out.alloc HB.out.size _)
          have HKs := Aside0.mk (show w.heap.size ≤ K1 by rw [← hK1]; exact HB.out.size)
          clear hK1 HB
          generalize w2.iter wi 0 = W0 at HIt HB2 ⊢
          refine wp_loop_ghost_k (fun gg a' W => ∃ (pos : Nat) (t : Bool), pos + gg = wi.size ∧ Below w.heap.size w W ∧ W.heap[K1]? = some (.stringIter wi pos) ∧ hasF wi b2 gg pos t = x ∧ ∃ f, a' = ⟨(laW f (.slice A1 l1.length c1) (.string s0) (.bool d1) (.bool e1) (.string c1_) (.int .i64 (N : Int)) (.int .i64 (i : Int)) (.string a2) (.string wi) (.int .i64 (j : Int)) (.string b2) (.bool x) (.bool true) (.bool x) (.bool true) (.bool t) (.pointer (some ⟨K1, 0, none⟩))).toArray, []⟩) wi.size ?_ ?_
          · exact ⟨0, false, by omega, HB2.out, HIt.out, HQ7.out, laW_ex⟩
          clear HIt HB2 HQ7
          rintro gp _ wp ⟨pos, t, hp, hB, hIt, hT, f, rfl⟩ J3 K3' hJ3 hK3'
          dsimp only [laW]
          have HP := Aside0.mk hp
          have HB := Aside0.mk hB
          have HIt := Aside0.mk hIt
          clear hp hB hIt
          by_cases hps : pos < wi.size
          · obtain ⟨gr, rfl⟩ : ∃ gr, gp = gr + 1 := ⟨gp - 1, by have := HP.out; omega⟩
            have h128 := HAW.out.2 pos hps
            have hnext : ∀ ty, (Instr.next (.pointer (some ⟨K1, 0, none⟩)) true ty).run Tryz.prog wp = _ := fun ty => Lib.run_next_ascii_at wp K1 wi pos ty HIt.out hps h128
            have HIt1 := Aside0.mk (Lib.iterAt_heap wp K1 wi pos (pos + 1) HIt.out)
            have HBe := Aside0.mk (Lib.below_iterAt HB.out HKs.out wi (pos + 1))
            clear HIt HB
            generalize wp.iterAt K1 wi (pos + 1) = W3 at hnext HIt1 HBe
            have hz1 : wi.size ≤ 1000 := HAW.out.1
            have e2 : IntKind.i64.wrap ((pos : Int) + 1) = (pos : Int) + 1 := by
              rw [i64_w]
              exact M.w64 (by omega) (by omega)
            have p0 : ((0 : Int) ≤ (pos : Int)) = True := eq_true (by omega)
            have p1 : ((pos : Int) ≤ (pos : Int) + 1) = True := eq_true (by omega)
            have p2 : ((pos : Int) + 1 ≤ (wi.size : Int)) = True := eq_true (by omega)
            have p3 : (pos + 1 ≤ wi.size) = True := eq_true (by omega)
            rw [hasF] at hT
            clear hz1
            cases t with
            | true =>
              have HT := Aside0.mk hT
              clear hT
              go_wp2_with fail
              exact Handed.intro gr (by omega) (hJ3 _ _ _ ⟨pos + 1, true, by have := HP.out; omega, HBe.out, HIt1.out, HT.out, laW_ex⟩)
            | false =>
              rw [Bool.false_or] at hT
              have HT := Aside0.mk hT
              clear hT
              go_wp2_with fail
              exact Handed.intro gr (by omega) (hJ3 _ _ _ ⟨pos + 1, _, by have := HP.out; omega, HBe.out, HIt1.out, HT.out, laW_ex⟩)
          · have hnext : ∀ ty, (Instr.next (.pointer (some ⟨K1, 0, none⟩)) true ty).run Tryz.prog wp = _ := fun ty => Lib.run_next_end_at wp K1 wi pos ty HIt.out hps
            obtain rfl : gp = 0 := by have := HP.out; omega
            obtain rfl : t = x := hT
            clear HP HIt hps
            have q8 := HQ8.out
            clear HQ8
            cases hab : (a2.toList == b2.toList) <;> cases t
            case true.true =>
              rw [hab] at q8
              exact absurd q8 (by decide)
            all_goals
              clear q8
              have e2 : IntKind.i64.wrap ((j : Int) + 1) = (j : Int) + 1 := by
                rw [i64_w]
                have := HN8.out
                have := HJ.out
                exact M.w64 (by omega) (by omega)
              go_wp2_with fail
              rw [show ((j : Int) + 1) = ((j + 1 : Nat) : Int) by omega]
              exact Handed.intro gn (by omega) (hJ2 _ _ _ ⟨j + 1, by have := HJ.out; omega, HB.out, HII.out, laI_ex⟩)
        · obtain rfl : j = N := by have := HJ.out; omega
          clear hII hlt HJ
          have c7 : decide ((j : Int) < (j : Int)) = false := by simp
          go_wp2_with fail
          clear c7
          generalize hK1 : wq.heap.size = K1
          have HIt := Aside0.mk (show (wq.iter c1_ 0).heap[K1]? = some (.stringIter c1_ 0) by rw [← hK1]; exact World.iter_heap _ c1_ 0)
          have HB2 := Aside0.mk (show Below w.heap.size w (wq.iter c1_ 0) from HB.out.alloc HB.out.size _)
          have HKs := Aside0.mk (show w.heap.size ≤ K1 by rw [← hK1]; exact HB.out.size)
          clear hK1 HB
          generalize wq.iter c1_ 0 = W0 at HIt HB2 ⊢
          refine wp_loop_ghost_k (fun gg a' W => ∃ (pos : Nat) (t : Bool), pos + gg = c1_.size ∧ Below w.heap.size w W ∧ W.heap[K1]? = some (.stringIter c1_ pos) ∧ hasF c1_ a2 gg pos t = hasF c1_ a2 c1_.size 0 false ∧ ∃ f, a' = ⟨(laU f (.slice A1 l1.length c1) (.string s0) (.bool d1) (.bool e1) (.string c1_) (.int .i64 (j : Int)) (.int .i64 (i : Int)) (.string a2) (.string wi) (.bool t) (.pointer (some ⟨K1, 0, none⟩))).toArray, []⟩) c1_.size ?_ ?_
          · exact ⟨0, false, by omega, HB2.out, HIt.out, rfl, laU_ex⟩
          clear HIt HB2
          rintro gp _ wp ⟨pos, t, hp, hB, hIt, hT, f, rfl⟩ J3 K3' hJ3 hK3'
          dsimp only [laU]
          have HP := Aside0.mk hp
          have HB := Aside0.mk hB
          have HIt := Aside0.mk hIt
          clear hp hB hIt
          by_cases hps : pos < c1_.size
          · obtain ⟨gr, rfl⟩ : ∃ gr, gp = gr + 1 := ⟨gp - 1, by have := HP.out; omega⟩
            have h128 := HAS.out.2 pos hps
            have hnext : ∀ ty, (Instr.next (.pointer (some ⟨K1, 0, none⟩)) true ty).run Tryz.prog wp = _ := fun ty => Lib.run_next_ascii_at wp K1 c1_ pos ty HIt.out hps h128
            have HIt1 := Aside0.mk (Lib.iterAt_heap wp K1 c1_ pos (pos + 1) HIt.out)
            have HBe := Aside0.mk (Lib.below_iterAt HB.out HKs.out c1_ (pos + 1))
            clear HIt HB
            generalize wp.iterAt K1 c1_ (pos + 1) = W3 at hnext HIt1 HBe
            have hz1 : c1_.size ≤ 1000 := HAS.out.1
            have e2 : IntKind.i64.wrap ((pos : Int) + 1) = (pos : Int) + 1 := by
              rw [i64_w]
              exact M.w64 (by omega) (by omega)
            have p0 : ((0 : Int) ≤ (pos : Int)) = True := eq_true (by omega)
            have p1 : ((pos : Int) ≤ (pos : Int) + 1) = True := eq_true (by omega)
            have p2 : ((pos : Int) + 1 ≤ (c1_.size : Int)) = True := eq_true (by omega)
            have p3 : (pos + 1 ≤ c1_.size) = True := eq_true (by omega)
            rw [hasF] at hT
            clear hz1
            cases t with
            | true =>
              have HT := Aside0.mk hT
              clear hT
              go_wp2_with fail
              exact Handed.intro gr (by omega) (hJ3 _ _ _ ⟨pos + 1, true, by have := HP.out; omega, HBe.out, HIt1.out, HT.out, laU_ex⟩)
            | false =>
              rw [Bool.false_or] at hT
              have HT := Aside0.mk hT
              clear hT
              go_wp2_with fail
              exact Handed.intro gr (by omega) (hJ3 _ _ _ ⟨pos + 1, _, by have := HP.out; omega, HBe.out, HIt1.out, HT.out, laU_ex⟩)
          · have hnext : ∀ ty, (Instr.next (.pointer (some ⟨K1, 0, none⟩)) true ty).run Tryz.prog wp = _ := fun ty => Lib.run_next_end_at wp K1 c1_ pos ty HIt.out hps
            obtain rfl : gp = 0 := by have := HP.out; omega
            have hT2 : t = hasF c1_ a2 c1_.size 0 false := hT
            clear HP HIt hps hT
            have q6 := HQ6.out
            rw [← hT2] at q6
            clear HQ6 hT2
            have e2 : IntKind.i64.wrap ((i : Int) + 1) = (i : Int) + 1 := by
              rw [i64_w]
              have := HN8.out
              have := HI.out
              exact M.w64 (by omega) (by omega)
            cases t with
            | true =>
              obtain ⟨x1, x2⟩ := q6 rfl
              subst x1 x2
              clear q6
              go_wp2_with ((first | (go_at_call 45; refine (L3.out _ (HM.out _ HB.out)).mono ?_; clear L3) | (go_at_call 27; refine (L4.out _).mono ?_; clear L4)); rintro e w2 ⟨rfl, hb2⟩; have HB2 := Aside0.mk (below_step HB.out hb2); clear HB hb2; have HB := HB2; clear HB2)
              rw [show ((i : Int) + 1) = ((i + 1 : Nat) : Int) by omega]
              exact Handed.intro gm (by omega) (hJ1 _ _ _ ⟨i + 1, by have := HI.out; omega, HB.out, HK.out, laK_ex⟩)
            | false =>
              clear q6
              go_wp2_with ((first | (go_at_call 45; refine (L3.out _ (HM.out _ HB.out)).mono ?_; clear L3) | (go_at_call 27; refine (L4.out _).mono ?_; clear L4)); rintro e w2 ⟨rfl, hb2⟩; have HB2 := Aside0.mk (below_step HB.out hb2); clear HB hb2; have HB := HB2; clear HB2)
              rw [show ((i : Int) + 1) = ((i + 1 : Nat) : Int) by omega]
              exact Handed.intro gm (by omega) (hJ1 _ _ _ ⟨i + 1, by have := HI.out; omega, HB.out, HK.out, laK_ex⟩)
      · obtain rfl : i = N := by have := HI.out; omega
        clear hK hlt HI HAS
        have c7 : decide ((i : Int) < (i : Int)) = false := by simp
        as_aux_lemma =>
        have hq := HPV.out
        clear HPV
        unfold lcV at hq
        replace hq := Option.bind_eq_some_iff.mp hq; obtain ⟨⟨v, va, vb⟩, g1, hq⟩ := hq
        replace hq := Option.bind_eq_some_iff.mp hq; obtain ⟨⟨x1, x2⟩, g2, hq⟩ := hq
        replace hq := Option.bind_eq_some_iff.mp hq; obtain ⟨x', g3, hq⟩ := hq
        replace hq := Option.bind_eq_some_iff.mp hq; obtain ⟨⟨y1, y2⟩, g4, hq⟩ := hq
        replace hq := Option.bind_eq_some_iff.mp hq; obtain ⟨y', g5, hq⟩ := hq
        replace hq := Option.bind_eq_some_iff.mp hq; obtain ⟨⟨z1, z2⟩, g6, hq⟩ := hq
        replace hq := Option.bind_eq_some_iff.mp hq; obtain ⟨z', g7, hq⟩ := hq
        replace hq := Option.bind_eq_some_iff.mp hq; obtain ⟨⟨u1, u2⟩, g8, hq⟩ := hq
        replace hq := Option.bind_eq_some_iff.mp hq; obtain ⟨⟨r1, r2⟩, g9, hq⟩ := hq
        replace hq := Option.bind_eq_some_iff.mp hq; obtain ⟨r', g10, hq⟩ := hq
        replace hq := lc_if hq; obtain ⟨⟨q1, q2, q3, q4, q5⟩, hq⟩ := hq
        simp only at q4 hq
        subst q1 q2 q3 q5
        subst q4
        have V1 := Aside0.mk (fun (W : World) (hW : Below w.heap.size w W) => spec_DrawAreInterlaced.calls k A1 c1 l1 v va vb W (Kd.C_below HR1.out hW) hc1 g1)
        have V2 := Aside0.mk (fun (W : World) => impl_AreInterlaced.calls k v va vb x1 x2 W g2)
        have V3 := Aside0.mk (fun (W : World) => lc_calls (spec_AreInterlaced.calls k v va vb x1 x2 W g3))
        have V4 := Aside0.mk (fun (W : World) => impl_InterlacedWith.calls k v va y1 _ W g4)
        have V5 := Aside0.mk (fun (W : World) => lc_calls (spec_InterlacedWith.calls k v va y1 _ W g5))
        have V6 := Aside0.mk (fun (W : World) (hW : HasMax W) => impl_DropCrossing.calls k v va z1 _ W hW g6)
        have V7 := Aside0.mk (fun (W : World) => lc_calls (spec_DropCrossing.calls k v va z1 _ W g7))
        have V8 := Aside0.mk (fun (W : World) (hW : Below w.heap.size w W) => spec_DrawTurnLoop.calls k A1 c1 l1 u1 u2 W (Kd.C_below HR1.out hW) hc1 g8)
        have V9 := Aside0.mk (fun (W : World) => impl_TurnLoop.calls k u1 u2 r1 r2 W g9)
        have V10 := Aside0.mk (fun (W : World) => lc_calls (spec_TurnLoop.calls k u1 u2 r1 r2 W g10))
        clear g1 g2 g3 g4 g5 g6 g7 g8 g9 g10
        cases r2 with
        | false =>
          clear hq
          go_wp2_with ((first | (go_at_call 46; refine (V1.out _ HB.out).mono ?_; clear V1) | (go_at_call 44; refine (V2.out _).mono ?_; clear V2) | (go_at_call 47; refine (V3.out _).mono ?_; clear V3) | (go_at_call 43; refine (V4.out _).mono ?_; clear V4) | (go_at_call 48; refine (V5.out _).mono ?_; clear V5) | (go_at_call 45; refine (V6.out _ (HM.out _ HB.out)).mono ?_; clear V6) | (go_at_call 49; refine (V7.out _).mono ?_; clear V7) | (go_at_call 50; refine (V8.out _ HB.out).mono ?_; clear V8) | (go_at_call 51; refine (V9.out _).mono ?_; clear V9) | (go_at_call 52; refine (V10.out _).mono ?_; clear V10)); rintro e w2 ⟨rfl, hb2⟩; have HB2 := Aside0.mk (below_step HB.out hb2); clear HB hb2; have HB := HB2; clear HB2)
          go_ret
          exact ⟨by first | rfl | (simp; done), HB.out⟩
        | true =>
          rw [if_pos rfl] at hq
          replace hq := Option.bind_eq_some_iff.mp hq; obtain ⟨⟨m1, m2⟩, g11, hq⟩ := hq
          replace hq := Option.bind_eq_some_iff.mp hq; obtain ⟨⟨p1, p2⟩, g12, hq⟩ := hq
          replace hq := Option.bind_eq_some_iff.mp hq; obtain ⟨q', g13, hq⟩ := hq
          replace hq := lc_if hq; obtain ⟨⟨q1, q2, q3⟩, hq⟩ := hq
          obtain ⟨x3, x4⟩ := Prod.mk.inj q1
          simp only at q2
          subst x3 x4 q2 q3
          have V11 := Aside0.mk (fun (W : World) => impl_SameLoops.calls k u1 r1 true true W g11)
          have V12 := Aside0.mk (fun (W : World) => impl_CanBeDrawn.calls k u1 p1 true W g12)
          have V13 := Aside0.mk (fun (W : World) => impl_CanBeDrawn.calls k r1 p1 true W g13)
          clear g11 g12 g13 hq q1
          go_wp2_with ((first | (go_at_call 46; refine (V1.out _ HB.out).mono ?_; clear V1) | (go_at_call 44; refine (V2.out _).mono ?_; clear V2) | (go_at_call 47; refine (V3.out _).mono ?_; clear V3) | (go_at_call 43; refine (V4.out _).mono ?_; clear V4) | (go_at_call 48; refine (V5.out _).mono ?_; clear V5) | (go_at_call 45; refine (V6.out _ (HM.out _ HB.out)).mono ?_; clear V6) | (go_at_call 49; refine (V7.out _).mono ?_; clear V7) | (go_at_call 50; refine (V8.out _ HB.out).mono ?_; clear V8) | (go_at_call 51; refine (V9.out _).mono ?_; clear V9) | (go_at_call 52; refine (V10.out _).mono ?_; clear V10) | (go_at_call 22; refine (V11.out _).mono ?_; clear V11) | (go_at_call 27; refine (V12.out _).mono ?_; clear V12) | (go_at_call 27; refine (V13.out _).mono ?_; clear V13)); rintro e w2 ⟨rfl, hb2⟩; have HB2 := Aside0.mk (below_step HB.out hb2); clear HB hb2; have HB := HB2; clear HB2)
          go_ret
          exact ⟨by first | rfl | (simp; done), HB.out⟩
end Go.Proofs.YtcgoaipbfnhjhaaGreatDoor.Pr

/- A text of one byte. -/
namespace Go.Proofs.YtcgoaipbfnhjhaaGreatDoor.M
open Go.RowKit Go.Proofs.YtcgoaipbfnhjhaaGreatDoorW.PrintWords
set_option linter.unusedVariables false
set_option linter.unusedSimpArgs false

theorem head_byte (s : ByteArray) (x : Int) (h : bytesOf s = [x]) : s.data.toList.length = 1 ∧ s.data.toList.headD 0 = x.toNat.toUInt8 := by
  unfold bytesOf at h
  match hl : s.data.toList, h with
  | [b], h =>
    simp at h
    subst h
    simp
end Go.Proofs.YtcgoaipbfnhjhaaGreatDoor.M

/- The letters, one by one. -/
namespace Go.Proofs.YtcgoaipbfnhjhaaGreatDoor.M
open Go.RowKit Go.Proofs.YtcgoaipbfnhjhaaGreatDoorW.PrintWords
set_option linter.unusedVariables false
set_option linter.unusedSimpArgs false

abbrev abc16 : ByteArray := ⟨#[97, 98, 99, 100, 101, 102, 103, 104, 105, 106, 107, 108, 109, 110, 111, 112]⟩
theorem abc_one (a : Nat) (h : a < 16) : bytesOf (abc16.extract a (a + 1)) = [97 + (a : Int)] := by
  have hd : ∀ n : Fin 16, bytesOf (abc16.extract n.val (n.val + 1)) = [97 + (n.val : Int)] := by decide +kernel
  exact hd ⟨a, h⟩
theorem abc_size (a : Nat) (h : a < 16) : (abc16.extract a (a + 1)).size = 1 := by
  rw [← bytesOf_length, abc_one a h]; rfl

end Go.Proofs.YtcgoaipbfnhjhaaGreatDoor.M

/- The two places of a letter in a text: the program's way and the reference's. -/
namespace Go.Proofs.YtcgoaipbfnhjhaaGreatDoor.M
open Go.RowKit Go.Proofs.YtcgoaipbfnhjhaaGreatDoorW.PrintWords Go.Proofs.YtcgoaipbfnhjhaaGreatDoor.Pr
set_option linter.unusedVariables false
set_option linter.unusedSimpArgs false

/-- The first and the last place of a letter, from place i on. -/
def plcL (x : Int) : List Int → Int → Int × Int → Int × Int
  | [], _, a => a
  | y :: r, i, a => plcL x r (i + 1) (if y = x then (if a.1 < 0 then i else a.1, i) else a)
theorem plc_skip (x : Int) : ∀ (l s : List Int) (i : Int) (a : Int × Int), x ∉ l → plcL x (l ++ s) i a = plcL x s (i + l.length) a
  | [], s, i, a, _ => by simp
  | y :: l, s, i, a, h => by
    simp only [List.mem_cons, not_or] at h
    rw [List.cons_append, plcL, if_neg (fun e => h.1 e.symm), plc_skip x l s (i + 1) a h.2, List.length_cons]
    congr 1
    omega
theorem plc_parts {x : Int} {p q r : List Int} (h1 : x ∉ p) (h2 : x ∉ q) (h3 : x ∉ r) : plcL x (p ++ x :: (q ++ x :: r)) 0 (-1, -1) = ((p.length : Int), (p.length : Int) + 1 + (q.length : Int)) := by
  have e := plc_skip x r [] ((p.length : Int) + 1 + (q.length : Int) + 1) ((p.length : Int), (p.length : Int) + 1 + (q.length : Int)) h3
  rw [List.append_nil] at e
  rw [plc_skip x p _ 0 _ h1, show (0 : Int) + (p.length : Int) = p.length by omega, plcL, if_pos rfl, if_pos (show ((-1, -1) : Int × Int).1 < 0 by decide), plc_skip x q _ _ _ h2, plcL, if_pos rfl, if_neg (show ¬ (((p.length : Int), (p.length : Int)) : Int × Int).1 < 0 by dsimp only; omega), e]
  rfl
theorem loPlaces_ev (w : ByteArray) (c : Int) (hw : w.size ≤ 1000000) : Ev (fun k => spec_loPlaces.f k w c) (plcL c (bytesOf w) 0 (-1, -1)) := by
  unfold spec_loPlaces.f
  have hlen := bytesOf_length w
  have e := Ev.scan0 (fun k i (acc : Int × Int) => spec_loPlaces.l0 k w c acc.1 acc.2 i) (bytesOf w) (fun rest acc => plcL c rest (((bytesOf w).length : Int) - (rest.length : Int)) acc) (fun _ _ => True)
    (fun acc _ => by
      refine Ev.step (fun k => by rw [spec_loPlaces.l0]) ?_
      exact Ev.neg (by omega) (Ev.val rfl))
    (fun i hi acc _ => by
      have hx := bytesOf_get w i hi
      have hdl : ((bytesOf w).drop (i + 1)).length = (bytesOf w).length - (i + 1) := List.length_drop
      generalize (bytesOf w)[i] = y at hx ⊢
      refine .inl ⟨if y = c then (if acc.1 < 0 then (i : Int) else acc.1, (i : Int)) else acc, trivial, ?_, fun r hr => ?_⟩
      · rw [plcL, List.length_cons, hdl]
        rw [show ((bytesOf w).length : Int) - (((bytesOf w).length - (i + 1) + 1 : Nat) : Int) = (i : Int) by omega]
        rw [show ((bytesOf w).length : Int) - (((bytesOf w).length - (i + 1) : Nat) : Int) = (i : Int) + 1 by omega]
      · refine Ev.step (fun k => by rw [spec_loPlaces.l0]) ?_
        refine Ev.pos (by omega) (Ev.pos (by omega) ?_)
        rw [hx, w64 (x := (i : Int) + 1) (by omega) (by omega)]
        by_cases e : y = c
        · rw [if_pos e] at hr
          refine Ev.pos e ?_
          by_cases h0 : acc.1 < 0
          · rw [if_pos h0] at hr; exact Ev.pos h0 hr
          · rw [if_neg h0] at hr; exact Ev.neg h0 hr
        · rw [if_neg e] at hr; exact Ev.neg e hr)
    (-1, -1) trivial
  rw [show ((bytesOf w).length : Int) - ((bytesOf w).length : Int) = 0 by omega] at e
  exact e
theorem byte_at (s : ByteArray) (j : Nat) (h : j < (bytesOf s).length) : ((s.data[j]!).toNat : Int) = (bytesOf s)[j] := by
  have hl := bytesOf_length s
  have h2 : j < s.data.size := by show j < s.size; omega
  have e : (bytesOf s)[j]? = (s.data.toList[j]?).map fun b => (b.toNat : Int) := by
    unfold bytesOf
    rw [List.getElem?_map]
  rw [List.getElem?_eq_getElem h, Array.getElem?_toList, Array.getElem?_eq_getElem h2] at e
  rw [getElem!_pos s.data j h2]
  exact (Option.some.inj e).symm
theorem last_parts {s : ByteArray} {x : Int} {p q r : List Int} (h : bytesOf s = p ++ x :: (q ++ x :: r)) (h3 : x ∉ r) : Lib.lastIndexByte s x = (p.length : Int) + 1 + (q.length : Int) := by
  have hl := bytesOf_length s
  have hn : (bytesOf s).length = p.length + 1 + q.length + 1 + r.length := by rw [h]; simp; omega
  have hq : ∀ i, p.length + 1 + q.length ≤ i → (bytesOf s)[i]? = (x :: r)[i - (p.length + 1 + q.length)]? := fun i hi => by
    rw [h, List.getElem?_append_right (by omega)]
    obtain ⟨d, rfl⟩ : ∃ d, i = p.length + 1 + q.length + d := ⟨i - (p.length + 1 + q.length), by omega⟩
    rw [show p.length + 1 + q.length + d - p.length = (q.length + d) + 1 by omega, List.getElem?_cons_succ, List.getElem?_append_right (by omega)]
    congr 1
    omega
  have hat : (bytesOf s)[p.length + 1 + q.length]'(by omega) = x := by
    have e := hq (p.length + 1 + q.length) (Nat.le_refl _)
    rw [Nat.sub_self, List.getElem?_cons_zero] at e
    exact (List.getElem?_eq_some_iff.1 e).2
  unfold Lib.lastIndexByte
  rcases Lib.lastIdx_spec s x s.size with ⟨_, h2⟩ | ⟨i, h1, h2, h4, h5⟩
  · exfalso
    exact h2 (p.length + 1 + q.length) (by omega) (by rw [byte_at s _ (by omega)]; exact hat)
  · have hge : ¬ i < p.length + 1 + q.length := fun hlt => h5 (p.length + 1 + q.length) hlt (by omega) (by rw [byte_at s _ (by omega)]; exact hat)
    have hle : ¬ p.length + 1 + q.length < i := fun hlt => by
      rw [byte_at s i (by omega)] at h4
      have e := hq i (by omega)
      obtain ⟨d, hd⟩ : ∃ d, i - (p.length + 1 + q.length) = d + 1 := ⟨i - (p.length + 1 + q.length) - 1, by omega⟩
      rw [hd, List.getElem?_cons_succ, List.getElem?_eq_getElem (by omega), h4] at e
      exact h3 (List.mem_of_getElem? e.symm)
    omega
end Go.Proofs.YtcgoaipbfnhjhaaGreatDoor.M

/- Interlaced letters: the program and the reference tell the same. -/
namespace Go.Proofs.YtcgoaipbfnhjhaaGreatDoor.M
open Go.RowKit Go.Proofs.YtcgoaipbfnhjhaaGreatDoorW.PrintWords Go.Proofs.YtcgoaipbfnhjhaaGreatDoor.Pr
set_option linter.unusedVariables false
set_option linter.unusedSimpArgs false

theorem encode_byte {c : Int} (h0 : 0 ≤ c) (h1 : c < 128) : bytesOf (Utf8.encode (wrap32 c)) = [c] := by
  rw [show wrap32 c = c by unfold wrap32; omega, encode_small h0 h1]
  unfold bytesOf
  simp
  omega
theorem lac_parts {w : ByteArray} {m : Nat} (h : M.Loop (bytesOf w) m) {a : Int} (h1 : 97 ≤ a) (h2 : a < 97 + (m : Int)) :
    ∃ p q r, bytesOf w = p ++ a :: (q ++ a :: r) ∧ a ∉ p ∧ a ∉ q ∧ a ∉ r ∧ w.size = p.length + 1 + q.length + 1 + r.length ∧ w.size ≤ 16 := by
  obtain ⟨p, q, r, e, n1, n2, n3⟩ := two_parts a _ (h.cnt h1 h2)
  have hl := bytesOf_length w
  have hlen := h.len
  have hf := h.few
  have hz : w.size ≤ 16 := by omega
  rw [e] at hl
  simp only [List.length_append, List.length_cons] at hl
  exact ⟨p, q, r, e, n1, n2, n3, by omega, hz⟩
theorem interlaced_eq {w : ByteArray} {m : Nat} (h : M.Loop (bytesOf w) m) {a b : Int} (h1 : 97 ≤ a) (h2 : a < 97 + (m : Int)) (h3 : 97 ≤ b) (h4 : b < 97 + (m : Int)) :
    impl_interlaced.f w a b = some (lacedL (bytesOf w) a b) := by
  obtain ⟨p, q, r, e, n1, n2, n3, hs, hz⟩ := lac_parts h h1 h2
  have hf := h.few
  unfold impl_interlaced.f strings_IndexByte.f strings_LastIndexByte.f
  rw [indexB_eq w a (by omega) (by omega), last_parts e n3, if_pos (by omega)]
  have hix : ixL (bytesOf w) a = p.length := by
    unfold ixL
    rw [e, if_pos (by simp), idx_parts n1]
  rw [hix, Option.bind_some, Option.bind_some, w64 (x := (p.length : Int) + 1) (by omega) (by omega), if_pos (by omega), if_pos (by omega), if_pos (by omega)]
  have hex : bytesOf (w.extract ((p.length : Int) + 1).toNat ((p.length : Int) + 1 + (q.length : Int)).toNat) = q := by
    rw [bytesOf_extract, e, show ((p.length : Int) + 1).toNat = (p ++ [a]).length by (simp <;> omega), show ((p.length : Int) + 1 + (q.length : Int)).toNat = (p ++ [a] ++ q).length by (simp <;> omega)]
    rw [show p ++ a :: (q ++ a :: r) = (p ++ [a] ++ q) ++ (a :: r) by simp, List.take_left, List.drop_append_of_le_length (by simp)]
    simp
  have hb := head_byte _ _ (encode_byte (c := b) (by omega) (by omega))
  unfold strings_Count.f
  rw [if_pos hb.1, hb.2, count_eq _ b (by omega) (by omega), hex, Option.bind_some]
  congr 1
  unfold lacedL
  rw [e, mid_parts n1 n2, Bool.eq_iff_iff]
  simp
  omega
theorem loLaced_ev {w : ByteArray} {m : Nat} (h : M.Loop (bytesOf w) m) {a b : Int} (h1 : 97 ≤ a) (h2 : a < 97 + (m : Int)) :
    Ev (fun k => spec_loLaced.f k w a b) (lacedL (bytesOf w) a b) := by
  obtain ⟨p, q, r, e, n1, n2, n3, hs, hz⟩ := lac_parts h h1 h2
  unfold spec_loLaced.f
  refine Ev.bindk (loPlaces_ev w a (by omega)) ?_
  rw [e, plc_parts n1 n2 n3]
  dsimp only
  rw [w64 (x := (p.length : Int) + 1) (by omega) (by omega)]
  have hl := bytesOf_length w
  have hq : ∀ j (hj : j < q.length), bt w ((p.length : Int) + 1 + (j : Int)) = q[j] := fun j hj => by
    have hlt : p.length + 1 + j < (bytesOf w).length := by omega
    have e1 := bytesOf_get w (p.length + 1 + j) hlt
    rw [show (((p.length + 1 + j : Nat)) : Int) = (p.length : Int) + 1 + (j : Int) by omega] at e1
    rw [e1]
    have e2 : (bytesOf w)[p.length + 1 + j]? = q[j]? := by
      rw [e, List.getElem?_append_right (by omega), show p.length + 1 + j - p.length = j + 1 by omega, List.getElem?_cons_succ, List.getElem?_append_left hj]
    rw [List.getElem?_eq_getElem hlt, List.getElem?_eq_getElem hj] at e2
    exact Option.some.inj e2
  have ev := Ev.scan0 (fun k i (t : Int) => spec_loLaced.l0 k w a b ((p.length : Int) + 1 + (q.length : Int)) t ((p.length : Int) + 1 + i)) q
    (fun rest t => if a = b then false else (t + ((rest.count b : Nat) : Int) == 1)) (fun i t => 0 ≤ t ∧ t ≤ i)
    (fun t ht => by
      refine Ev.step (fun k => by rw [spec_loLaced.l0]) ?_
      refine Ev.neg (by omega) ?_
      by_cases hab : a = b
      · refine Ev.pos hab (Ev.val ?_)
        rw [if_pos hab]
      · refine Ev.neg hab (Ev.val ?_)
        rw [if_neg hab, List.count_nil, Int.natCast_zero, Int.add_zero])
    (fun i hi t ht => by
      have hx := hq i hi
      generalize q[i] = y at hx ⊢
      by_cases hy : y = b
      · refine .inl ⟨t + 1, by omega, ?_, fun r' hr => ?_⟩
        · subst hy
          rw [List.count_cons_self]
          rw [show t + (((q.drop (i + 1)).count y + 1 : Nat) : Int) = t + 1 + (((q.drop (i + 1)).count y : Nat) : Int) by omega]
        · refine Ev.step (fun k => by rw [spec_loLaced.l0]) ?_
          refine Ev.pos (by omega) (Ev.pos (by omega) (Ev.pos (by omega) (Ev.pos (by rw [hx]; exact hy) ?_)))
          rw [w64 (x := t + 1) (by omega) (by omega), w64 (x := (p.length : Int) + 1 + (i : Int) + 1) (by omega) (by omega)]
          rw [show (p.length : Int) + 1 + (i : Int) + 1 = (p.length : Int) + 1 + ((i : Int) + 1) by omega]
          exact hr
      · refine .inl ⟨t, by omega, ?_, fun r' hr => ?_⟩
        · rw [List.count_cons, show (y == b) = false by simpa using hy]
          simp only [Bool.false_eq_true, if_false, Nat.add_zero]
        · refine Ev.step (fun k => by rw [spec_loLaced.l0]) ?_
          refine Ev.pos (by omega) (Ev.pos (by omega) (Ev.pos (by omega) (Ev.neg (by rw [hx]; exact hy) ?_)))
          rw [w64 (x := (p.length : Int) + 1 + (i : Int) + 1) (by omega) (by omega)]
          rw [show (p.length : Int) + 1 + (i : Int) + 1 = (p.length : Int) + 1 + ((i : Int) + 1) by omega]
          exact hr)
    0 ⟨by omega, by omega⟩
  have e3 : (if a = b then false else ((0 : Int) + ((q.count b : Nat) : Int) == 1)) = lacedL (p ++ a :: (q ++ a :: r)) a b := by
    unfold lacedL
    rw [mid_parts n1 n2]
    by_cases hab : a = b
    · rw [if_pos hab]
      subst hab
      rw [List.count_eq_zero.2 n2]
      rfl
    · rw [if_neg hab, Bool.eq_iff_iff]
      simp
      omega
  rw [e3] at ev
  rw [Int.add_zero] at ev
  exact ev

theorem lettP_byte (p : Int → Bool) : ∀ (d : Nat) (x : Int), 0 ≤ x → x + d ≤ 256 → ∀ y ∈ lettP p x d, 0 ≤ y ∧ y < 256
  | 0, _, _, _, y, hy => by simp [lettP] at hy
  | d + 1, x, h0, h1, y, hy => by
    unfold lettP at hy
    split at hy
    · rcases List.mem_cons.1 hy with e | hy
      · omega
      · exact lettP_byte p d (x + 1) (by omega) (by omega) y hy
    · exact lettP_byte p d (x + 1) (by omega) (by omega) y hy
theorem with_eq {w : ByteArray} {m : Nat} (h : M.Loop (bytesOf w) m) {a : Int} (h1 : 97 ≤ a) (h2 : a < 97 + (m : Int)) {c : Int} (h3 : 97 ≤ c) (h4 : c < 97 + (m : Int)) : withB w a c = lacedL (bytesOf w) a c := by
  unfold withB
  rw [interlaced_eq h h1 h2 h3 h4]
  by_cases e : c = a
  · subst e
    rw [laced_self (h.cnt h1 h2)]
    simp
  · rw [show (c != a) = true by simpa using e]
    rfl
theorem interlacedWith_eq {w : ByteArray} {m : Nat} (h : M.Loop (bytesOf w) m) {a : Int} (h1 : 97 ≤ a) (h2 : a < 97 + (m : Int)) : okWith w a = true ∧ impl_interlacedWith.f w a = some (strOfNums (withL (bytesOf w) m a)) := by
  have hl := bytesOf_length w
  have hlen := h.len
  have hf := h.few
  have hm : w.size / 2 = m := by omega
  have hok : okWith w a = true := by
    unfold okWith
    rw [Bool.and_eq_true, decide_eq_true_eq, List.all_eq_true, hm]
    refine ⟨by omega, fun c hc => ?_⟩
    have := (mem_abc m c).1 hc
    rw [interlaced_eq h h1 h2 this.1 this.2]
    rfl
  refine ⟨hok, ?_⟩
  unfold impl_interlacedWith.f
  rw [if_pos hok, hm]
  unfold withL
  rw [lettP_congr (withB w a) _ m 97 (fun y h3 h4 => with_eq h h1 h2 h3 h4)]
theorem loWith_l0 {w : ByteArray} {m : Nat} (h : M.Loop (bytesOf w) m) {a : Int} (h1 : 97 ≤ a) (h2 : a < 97 + (m : Int)) : ∀ (d i : Nat) (out : ByteArray), i + d = m → out.size ≤ i →
    Ev (fun k => spec_loWith.l0 k w a out (i : Int)) (strOfNums (bytesOf out ++ lettP (fun c => lacedL (bytesOf w) a c) (97 + (i : Int)) d))
  | 0, i, out, hd, hs => by
    have hl := bytesOf_length w
    have hlen := h.len
    have hf := h.few
    refine Ev.step (fun k => by rw [spec_loWith.l0]) ?_
    rw [w64 (x := (w.size : Int) / 2) (by omega) (by omega)]
    refine Ev.neg (by omega) (Ev.val ?_)
    rw [lettP, List.append_nil, strOf_bytesOf]
  | d + 1, i, out, hd, hs => by
    have hl := bytesOf_length w
    have hlen := h.len
    have hf := h.few
    have e97 : (wrap64 (97 + (i : Int))) % 256 = 97 + (i : Int) := by rw [w64 (by omega) (by omega)]; omega
    have h16 : i < 16 := by omega
    have hsz := abc_size i h16
    refine Ev.step (fun k => by rw [spec_loWith.l0]) ?_
    rw [w64 (x := (w.size : Int) / 2) (by omega) (by omega), e97]
    refine Ev.pos (by omega) (Ev.bindk (loLaced_ev h h1 h2) ?_)
    rw [w64 (x := (i : Int) + 1) (by omega) (by omega), show ((i : Int) + 1).toNat = i + 1 by omega, Int.toNat_natCast, lettP]
    by_cases hy : lacedL (bytesOf w) a (97 + (i : Int)) = true
    · rw [if_pos hy]
      refine Ev.pos hy (Ev.pos (by omega) (Ev.pos (by omega) (Ev.pos (by omega) (Ev.pos ?_ ?_))))
      · unfold abc16 at hsz
        omega
      · have e := loWith_l0 h h1 h2 d (i + 1) (out ++ abc16.extract i (i + 1)) (by omega) (by rw [ByteArray.size_append, hsz]; omega)
        rw [bytesOf_append, abc_one i h16, List.append_assoc] at e
        rw [show (97 : Int) + ((i + 1 : Nat) : Int) = 97 + (i : Int) + 1 by omega, show (((i + 1 : Nat)) : Int) = (i : Int) + 1 by omega] at e
        exact e
    · rw [if_neg hy]
      refine Ev.neg hy ?_
      have e := loWith_l0 h h1 h2 d (i + 1) out (by omega) (by omega)
      rw [show (97 : Int) + ((i + 1 : Nat) : Int) = 97 + (i : Int) + 1 by omega, show (((i + 1 : Nat)) : Int) = (i : Int) + 1 by omega] at e
      exact e
theorem loWith_ev {w : ByteArray} {m : Nat} (h : M.Loop (bytesOf w) m) {a : Int} (h1 : 97 ≤ a) (h2 : a < 97 + (m : Int)) : Ev (fun k => spec_loWith.f k w a) (strOfNums (withL (bytesOf w) m a)) := by
  unfold spec_loWith.f withL
  exact loWith_l0 h h1 h2 m 0 ⟨#[]⟩ (by omega) (by simp [ByteArray.size])
end Go.Proofs.YtcgoaipbfnhjhaaGreatDoor.M

/- Whether a loop is even: the program and the reference tell the same. -/
namespace Go.Proofs.YtcgoaipbfnhjhaaGreatDoor.M
open Go.RowKit Go.Proofs.YtcgoaipbfnhjhaaGreatDoorW.PrintWords Go.Proofs.YtcgoaipbfnhjhaaGreatDoorW.PrintLast Go.Proofs.YtcgoaipbfnhjhaaGreatDoor.Pr
set_option linter.unusedVariables false
set_option linter.unusedSimpArgs false

def oddL (w : List Int) (m : Nat) (c : Int) : Bool := (((withL w m c).length : Int) % 2 == 1)
def evR (w : List Int) (m : Nat) : Nat → Int → Bool
  | 0, _ => true
  | d + 1, x => !(oddL w m x) && evR w m d (x + 1)
theorem ev_lett (w : List Int) (m : Nat) : ∀ (d : Nat) (x : Int), (lettP (oddL w m) x d).isEmpty = evR w m d x
  | 0, _ => rfl
  | d + 1, x => by
    unfold lettP evR
    cases h : oddL w m x with
    | true => simp
    | false => simp [ev_lett w m d (x + 1)]
theorem strOf_len (xs : List Int) : (strOfNums xs).size = xs.length := by
  unfold strOfNums
  simp [ByteArray.size]
theorem isEven_eq {w : ByteArray} {m : Nat} (h : M.Loop (bytesOf w) m) : impl_isEvenLoop.f w = some (evR (bytesOf w) m m 97) := by
  have hl := bytesOf_length w
  have hlen := h.len
  have hf := h.few
  have hm : w.size / 2 = m := by omega
  unfold impl_isEvenLoop.f
  rw [hm, if_pos (by
    rw [Bool.and_eq_true, decide_eq_true_eq, List.all_eq_true]
    refine ⟨by omega, fun c hc => ?_⟩
    have := (mem_abc m c).1 hc
    exact (interlacedWith_eq h this.1 this.2).1)]
  congr 1
  rw [lettP_congr (oddB w) (oddL (bytesOf w) m) m 97 (fun y h1 h2 => by
    unfold oddB oddL
    rw [hm, strOf_len]
    unfold withL
    rw [lettP_congr (withB w y) _ m 97 (fun z h3 h4 => with_eq h h1 h2 h3 h4)])]
  rw [← ev_lett, ByteArray.toList_eq]
  unfold strOfNums
  cases lettP (oddL (bytesOf w) m) 97 m <;> rfl
theorem loEven_l0 {w : ByteArray} {m : Nat} (h : M.Loop (bytesOf w) m) : ∀ (d i : Nat), i + d = m → Ev (fun k => spec_loEven.l0 k w (i : Int)) (evR (bytesOf w) m d (97 + (i : Int)))
  | 0, i, hd => by
    have hl := bytesOf_length w
    have hlen := h.len
    have hf := h.few
    refine Ev.step (fun k => by rw [spec_loEven.l0]) ?_
    rw [w64 (x := (w.size : Int) / 2) (by omega) (by omega)]
    exact Ev.neg (by omega) (Ev.val rfl)
  | d + 1, i, hd => by
    have hl := bytesOf_length w
    have hlen := h.len
    have hf := h.few
    have e97 : (wrap64 (97 + (i : Int))) % 256 = 97 + (i : Int) := by rw [w64 (by omega) (by omega)]; omega
    refine Ev.step (fun k => by rw [spec_loEven.l0]) ?_
    rw [w64 (x := (w.size : Int) / 2) (by omega) (by omega), e97]
    refine Ev.pos (by omega) (Ev.bindk (loWith_ev h (by omega) (by omega)) ?_)
    rw [strOf_len, w64 (x := (i : Int) + 1) (by omega) (by omega), evR]
    have ih := loEven_l0 h d (i + 1) (by omega)
    rw [show (97 : Int) + ((i + 1 : Nat) : Int) = 97 + (i : Int) + 1 by omega, show (((i + 1 : Nat)) : Int) = (i : Int) + 1 by omega] at ih
    by_cases ho : ((withL (bytesOf w) m (97 + (i : Int))).length : Int) % 2 = 0
    · refine Ev.pos ho ?_
      have e : oddL (bytesOf w) m (97 + (i : Int)) = false := by
        unfold oddL
        rw [ho]
        rfl
      rw [e]
      exact ih
    · refine Ev.neg ho (Ev.val ?_)
      have e : oddL (bytesOf w) m (97 + (i : Int)) = true := by
        unfold oddL
        rw [show ((withL (bytesOf w) m (97 + (i : Int))).length : Int) % 2 = 1 by omega]
        rfl
      rw [e]
      rfl
theorem loEven_ev {w : ByteArray} {m : Nat} (h : M.Loop (bytesOf w) m) : Ev (fun k => spec_loEven.f k w) (evR (bytesOf w) m m 97) := by
  unfold spec_loEven.f
  exact loEven_l0 h m 0 (by omega)
end Go.Proofs.YtcgoaipbfnhjhaaGreatDoor.M

/- All ways to put letters into two halves, as the bits of a number. Plain lists, no program. -/
namespace Go.Proofs.YtcgoaipbfnhjhaaGreatDoor.M
set_option linter.unusedVariables false
set_option linter.unusedSimpArgs false

def bitH (v a : Nat) : Nat := v / 2 ^ a % 2
/-- The number whose bits are the letters of the second half. -/
def numH (s : Nat → Int) : Nat → Nat
  | 0 => 0
  | n + 1 => numH s n + if s n = -1 then 2 ^ n else 0
theorem numH_lt (s : Nat → Int) : ∀ n, numH s n < 2 ^ n
  | 0 => by simp [numH]
  | n + 1 => by
    have := numH_lt s n
    rw [numH, Nat.pow_succ]
    split <;> omega
theorem numH_bit (s : Nat → Int) : ∀ n j, j < n → bitH (numH s n) j = if s j = -1 then 1 else 0
  | 0, j, h => by omega
  | n + 1, j, h => by
    have hlt := numH_lt s n
    unfold bitH
    rw [numH]
    by_cases e : j = n
    · subst e
      split
      · rw [Nat.add_div_right _ (Nat.two_pow_pos j), Nat.div_eq_of_lt hlt]
      · rw [Nat.add_zero, Nat.div_eq_of_lt hlt]
    · have ih := numH_bit s n j (by omega)
      unfold bitH at ih
      split
      · have e2 : 2 ^ n = 2 ^ j * (2 * 2 ^ (n - j - 1)) := by
          rw [← Nat.mul_assoc, Nat.mul_comm (2 ^ j) 2, ← Nat.pow_succ', ← Nat.pow_add]
          congr 1
          omega
        rw [e2, Nat.add_mul_div_left _ _ (Nat.two_pow_pos j), Nat.add_mul_mod_self_left]
        exact ih
      · rw [Nat.add_zero]; exact ih
theorem bits_iff {n : Nat} {E P : Nat → Nat → Bool} (symE : ∀ a b, a < n → b < n → E a b = E b a) (symP : ∀ a b, a < n → b < n → P a b = P b a) :
    (∃ v, v < 2 ^ n ∧ ∀ a b, a < n → b < a → E a b = true → ((bitH v a ≠ bitH v b) ↔ P a b = true)) ↔ ∃ s, ValidH n E P s := by
  have b01 : ∀ v a, bitH v a = 0 ∨ bitH v a = 1 := fun v a => by unfold bitH; omega
  constructor
  · rintro ⟨v, hv, h⟩
    have main : ∀ a b, a < n → b < a → E a b = true → (if bitH v b = 1 then (-1 : Int) else 1) = (if bitH v a = 1 then (-1 : Int) else 1) * sgH P a b := fun a b ha hb he => by
      have h := h a b ha hb he
      unfold sgH
      rcases b01 v a with e1 | e1 <;> rcases b01 v b with e2 | e2 <;> rw [e1, e2] at h ⊢ <;> cases hp : P a b <;> simp [hp] at h ⊢
    refine ⟨fun j => if bitH v j = 1 then -1 else 1, fun j => by dsimp only; split <;> simp, fun a b ha hb hab he => ?_⟩
    by_cases hlt : b < a
    · exact main a b ha hlt he
    · have e := main b a hb (by omega) (by rw [← symE a b ha hb]; exact he)
      dsimp only at e ⊢
      rw [e, Int.mul_assoc, show sgH P b a = sgH P a b by unfold sgH; rw [symP a b ha hb]]
      rcases sg_pm P a b with h | h <;> rw [h] <;> simp
  · rintro ⟨s, h1, h2⟩
    refine ⟨numH s n, numH_lt s n, fun a b ha hb he => ?_⟩
    rw [numH_bit s n a ha, numH_bit s n b (by omega)]
    have e := h2 a b ha (by omega) (by omega) he
    unfold sgH at e
    rcases h1 a with e1 | e1 <;> rcases h1 b with e2 | e2 <;> rw [e1, e2] at e ⊢ <;> cases hp : P a b <;> simp [hp] at e ⊢
end Go.Proofs.YtcgoaipbfnhjhaaGreatDoor.M

/- Whether a loop can be drawn: the program and the reference tell the same. -/
namespace Go.Proofs.YtcgoaipbfnhjhaaGreatDoor.M
open Go.RowKit Go.Proofs.YtcgoaipbfnhjhaaGreatDoorW.PrintWords Go.Proofs.YtcgoaipbfnhjhaaGreatDoorW.PrintLast Go.Proofs.YtcgoaipbfnhjhaaGreatDoor.Pr
set_option linter.unusedVariables false
set_option linter.unusedSimpArgs false

/-- How many letters are interlaced with both of two. -/
def bothN (w : List Int) (m : Nat) (a b : Int) : Nat := (lettP (fun c => lacedL w a c && lacedL w b c) 97 m).length
theorem bothN_comm (w : List Int) (m : Nat) (a b : Int) : bothN w m a b = bothN w m b a := by
  unfold bothN
  rw [lettP_congr _ (fun c => lacedL w b c && lacedL w a c) m 97 (fun y _ _ => Bool.and_comm _ _)]
theorem bothN_le (w : List Int) (m : Nat) (a b : Int) : bothN w m a b ≤ m := lettP_length _ m 97
theorem common_eq {w : ByteArray} {m : Nat} (h : M.Loop (bytesOf w) m) {a b : Int} (h1 : 97 ≤ a) (h2 : a < 97 + (m : Int)) (h3 : 97 ≤ b) (h4 : b < 97 + (m : Int)) : impl_common.f w a b = some ((bothN (bytesOf w) m a b : Nat) : Int) := by
  have hl := bytesOf_length w
  have hlen := h.len
  have hm : w.size / 2 = m := by omega
  unfold impl_common.f
  rw [if_pos ⟨(interlacedWith_eq h h1 h2).1, (interlacedWith_eq h h3 h4).1⟩, hm]
  unfold bothN
  rw [lettP_congr (commB w a b) (fun c => lacedL (bytesOf w) a c && lacedL (bytesOf w) b c) m 97 (fun y h5 h6 => by
    unfold commB
    rw [interlaced_eq h h1 h2 h5 h6, interlaced_eq h h3 h4 h5 h6]
    by_cases e : y = a
    · subst e
      rw [laced_self (h.cnt h5 h6)]
      simp
    · by_cases e2 : y = b
      · subst e2
        rw [laced_self (h.cnt h5 h6)]
        simp
      · rw [show (y != a) = true by simpa using e, show (y != b) = true by simpa using e2]
        rfl)]
theorem tmod2 (n : Nat) : Int.tmod (n : Int) 2 = ((n % 2 : Nat) : Int) := by
  rw [Int.tmod_eq_emod_of_nonneg (by omega)]
  omega
section
variable {w : ByteArray} {m : Nat} (h : M.Loop (bytesOf w) m)
include h
theorem hvE_eq {i j : Nat} (hi : i < m) (hj : j < m) : hvE w i j = lacedL (bytesOf w) (97 + (i : Int)) (97 + (j : Int)) := by
  unfold hvE
  rw [interlaced_eq h (by omega) (by omega) (by omega) (by omega)]
  rfl
theorem hvP_eq {i j : Nat} (hi : i < m) (hj : j < m) : hvP w i j = (bothN (bytesOf w) m (97 + (i : Int)) (97 + (j : Int)) % 2 == 0) := by
  unfold hvP
  rw [common_eq h (by omega) (by omega) (by omega) (by omega), Option.getD_some, tmod2, Bool.eq_iff_iff, beq_iff_eq, beq_iff_eq]
  omega
theorem symE {i j : Nat} (hi : i < m) (hj : j < m) : hvE w i j = hvE w j i := by
  rw [hvE_eq h hi hj, hvE_eq h hj hi, laced_comm (h.cnt (by omega) (by omega)) (h.cnt (by omega) (by omega))]
theorem symP {i j : Nat} (hi : i < m) (hj : j < m) : hvP w i j = hvP w j i := by
  rw [hvP_eq h hi hj, hvP_eq h hj hi, bothN_comm]
theorem bad_eq {i j : Nat} (hi : i < m) (hj : j < m) : pairBad w i j = (decide (i < j) && !(hvE w i j) && !(hvP w i j)) := by
  unfold pairBad
  rw [hvP_eq h hi hj, common_eq h (by omega) (by omega) (by omega) (by omega), Option.getD_some, tmod2]
  congr 1
  rw [Bool.eq_iff_iff, beq_iff_eq, Bool.not_eq_true', beq_eq_false_iff_ne]
  omega
theorem laced_ij {i j : Nat} (hi : i < m) (hj : j < m) : Ev (fun k => spec_loLaced.f k w ((wrap64 (97 + (i : Int))) % 256) ((wrap64 (97 + (j : Int))) % 256)) (hvE w i j) := by
  have hf := h.few
  rw [w64 (x := 97 + (i : Int)) (by omega) (by omega), w64 (x := 97 + (j : Int)) (by omega) (by omega), show (97 + (i : Int)) % 256 = 97 + (i : Int) by omega, show (97 + (j : Int)) % 256 = 97 + (j : Int) by omega, hvE_eq h hi hj]
  exact loLaced_ev h (by omega) (by omega)
theorem both_l0 {a b : Int} (h1 : 97 ≤ a) (h2 : a < 97 + (m : Int)) (h3 : 97 ≤ b) (h4 : b < 97 + (m : Int)) : ∀ (d i : Nat) (t : Nat), i + d = m → t ≤ i → Ev (fun k => spec_loBoth.l0 k w a b (t : Int) (i : Int)) ((t + (lettP (fun c => lacedL (bytesOf w) a c && lacedL (bytesOf w) b c) (97 + (i : Int)) d).length : Nat) : Int)
  | 0, i, t, hd, ht => by
    have hl := bytesOf_length w
    have hlen := h.len
    have hf := h.few
    refine Ev.step (fun k => by rw [spec_loBoth.l0]) ?_
    rw [w64 (x := (w.size : Int) / 2) (by omega) (by omega)]
    exact Ev.neg (by omega) (Ev.val (by simp [lettP]))
  | d + 1, i, t, hd, ht => by
    have hl := bytesOf_length w
    have hlen := h.len
    have hf := h.few
    refine Ev.step (fun k => by rw [spec_loBoth.l0]) ?_
    rw [w64 (x := (w.size : Int) / 2) (by omega) (by omega), w64 (x := 97 + (i : Int)) (by omega) (by omega), show (97 + (i : Int)) % 256 = 97 + (i : Int) by omega, w64 (x := (i : Int) + 1) (by omega) (by omega), w64 (x := (t : Int) + 1) (by omega) (by omega)]
    have ih := fun t' ht' => both_l0 h1 h2 h3 h4 d (i + 1) t' (by omega) ht'
    rw [show (97 : Int) + ((i + 1 : Nat) : Int) = 97 + (i : Int) + 1 by omega, show (((i + 1 : Nat)) : Int) = (i : Int) + 1 by omega] at ih
    refine Ev.pos (by omega) (Ev.bindk (loLaced_ev h h1 h2) ?_)
    rw [lettP]
    cases e1 : lacedL (bytesOf w) a (97 + (i : Int)) with
    | false =>
      refine Ev.neg (by decide) ?_
      simpa using ih t (by omega)
    | true =>
      refine Ev.pos rfl (Ev.bindk (loLaced_ev h h3 h4) ?_)
      cases e2 : lacedL (bytesOf w) b (97 + (i : Int)) with
      | false =>
        refine Ev.neg (by decide) ?_
        simpa using ih t (by omega)
      | true =>
        refine Ev.pos rfl ?_
        have e := ih (t + 1) (by omega)
        rw [show (((t + 1 : Nat)) : Int) = (t : Int) + 1 by omega] at e
        refine cast ?_ e
        congr 1
        simp
        omega
theorem both_ij {i j : Nat} (hi : i < m) (hj : j < m) : Ev (fun k => spec_loBoth.f k w ((wrap64 (97 + (i : Int))) % 256) ((wrap64 (97 + (j : Int))) % 256)) ((bothN (bytesOf w) m (97 + (i : Int)) (97 + (j : Int)) : Nat) : Int) := by
  have hf := h.few
  rw [w64 (x := 97 + (i : Int)) (by omega) (by omega), w64 (x := 97 + (j : Int)) (by omega) (by omega), show (97 + (i : Int)) % 256 = 97 + (i : Int) by omega, show (97 + (j : Int)) % 256 = 97 + (j : Int) by omega]
  unfold spec_loBoth.f bothN
  have e := both_l0 h (a := 97 + (i : Int)) (b := 97 + (j : Int)) (by omega) (by omega) (by omega) (by omega) m 0 0 (by omega) (by omega)
  simpa using e
end

/-- Whether a number's bits fit two letters. -/
def okV (E P : Nat → Nat → Bool) (v a b : Nat) : Bool := !(E a b) || ((bitH v a != bitH v b) == P a b)
def rowV (E P : Nat → Nat → Bool) (v a : Nat) : Nat → Nat → Bool
  | 0, _ => true
  | d + 1, b => okV E P v a b && rowV E P v a d (b + 1)
def allV (E P : Nat → Nat → Bool) (v : Nat) : Nat → Nat → Bool
  | 0, _ => true
  | d + 1, a => rowV E P v a a 0 && allV E P v d (a + 1)
def anyV (E P : Nat → Nat → Bool) (n : Nat) : Nat → Nat → Bool
  | 0, _ => false
  | d + 1, v => allV E P v n 0 || anyV E P n d (v + 1)
theorem rowV_iff (E P : Nat → Nat → Bool) (v a : Nat) : ∀ (d b : Nat), rowV E P v a d b = true ↔ ∀ q, b ≤ q → q < b + d → okV E P v a q = true
  | 0, b => by simp [rowV]; intro q h1 h2; omega
  | d + 1, b => by
    rw [rowV, Bool.and_eq_true, rowV_iff E P v a d (b + 1)]
    constructor
    · rintro ⟨h1, h2⟩ q h3 h4
      by_cases e : q = b
      · subst e; exact h1
      · exact h2 q (by omega) (by omega)
    · intro h
      exact ⟨h b (by omega) (by omega), fun q h1 h2 => h q (by omega) (by omega)⟩
theorem allV_iff (E P : Nat → Nat → Bool) (v : Nat) : ∀ (d a : Nat), allV E P v d a = true ↔ ∀ q, a ≤ q → q < a + d → rowV E P v q q 0 = true
  | 0, b => by simp [allV]; intro q h1 h2; omega
  | d + 1, b => by
    rw [allV, Bool.and_eq_true, allV_iff E P v d (b + 1)]
    constructor
    · rintro ⟨h1, h2⟩ q h3 h4
      by_cases e : q = b
      · subst e; exact h1
      · exact h2 q (by omega) (by omega)
    · intro h
      exact ⟨h b (by omega) (by omega), fun q h1 h2 => h q (by omega) (by omega)⟩
theorem anyV_iff (E P : Nat → Nat → Bool) (n : Nat) : ∀ (d v : Nat), anyV E P n d v = true ↔ ∃ q, v ≤ q ∧ q < v + d ∧ allV E P q n 0 = true
  | 0, v => by simp [anyV]; intro q h1 h2; omega
  | d + 1, v => by
    rw [anyV, Bool.or_eq_true, anyV_iff E P n d (v + 1)]
    constructor
    · rintro (h | ⟨q, h1, h2, h3⟩)
      · exact ⟨v, by omega, by omega, h⟩
      · exact ⟨q, by omega, by omega, h3⟩
    · rintro ⟨q, h1, h2, h3⟩
      by_cases e : q = v
      · subst e; exact .inl h3
      · exact .inr ⟨q, by omega, by omega, h3⟩
theorem okV_iff (E P : Nat → Nat → Bool) (v a b : Nat) : okV E P v a b = true ↔ (E a b = true → ((bitH v a ≠ bitH v b) ↔ P a b = true)) := by
  unfold okV
  cases E a b <;> cases hp : P a b <;> by_cases e : bitH v a = bitH v b <;> simp [e]
theorem anyV_valid {n : Nat} {E P : Nat → Nat → Bool} (sE : ∀ a b, a < n → b < n → E a b = E b a) (sP : ∀ a b, a < n → b < n → P a b = P b a) : anyV E P n (2 ^ n) 0 = true ↔ ∃ s, ValidH n E P s := by
  rw [← bits_iff sE sP, anyV_iff]
  constructor
  · rintro ⟨v, _, h1, h2⟩
    refine ⟨v, by omega, fun a b ha hb => ?_⟩
    exact (okV_iff E P v a b).1 ((rowV_iff E P v a a 0).1 ((allV_iff E P v n 0).1 h2 a (by omega) (by omega)) b (by omega) (by omega))
  · rintro ⟨v, h1, h2⟩
    refine ⟨v, by omega, by omega, (allV_iff E P v n 0).2 fun a _ ha => (rowV_iff E P v a a 0).2 fun b _ hb => (okV_iff E P v a b).2 (h2 a b (by omega) (by omega))⟩
theorem shl_small : ∀ n : Fin 9, shl .i64 1 (n.val : Int) = ((2 ^ n.val : Nat) : Int) := by decide +kernel
theorem bit_small : ∀ a : Fin 8, ∀ v : Fin 256, Go.bits .and .i64 (shr .i64 (v.val : Int) (a.val : Int)) 1 = ((bitH v.val a.val : Nat) : Int) := by decide +kernel

section
variable {w : ByteArray} {m : Nat} (h : M.Loop (bytesOf w) m)
include h
theorem draw_l4 (v a : Nat) (hv : v < 2 ^ m) (ha : a < m) (r : Bool) : ∀ (d b : Nat) (g : Bool), b + d = a → Ev (fun k => spec_loDrawn.l3 k w (m : Int) (v : Int) (g && rowV (hvE w) (hvP w) v a d b) ((a : Int) + 1)) r →
    Ev (fun k => spec_loDrawn.l4 k w (m : Int) (v : Int) g (a : Int) (b : Int)) r
  | 0, b, g, hd, hr => by
    have hf := h.few
    refine Ev.step (fun k => by rw [spec_loDrawn.l4]) ?_
    rw [w64 (x := (a : Int) + 1) (by omega) (by omega)]
    refine Ev.neg (by omega) ?_
    simpa [rowV] using hr
  | d + 1, b, g, hd, hr => by
    have hf := h.few
    have hv8 : v < 256 := Nat.lt_of_lt_of_le hv (show 2 ^ m ≤ 2 ^ 8 from Nat.pow_le_pow_right (by omega) hf)
    refine Ev.step (fun k => by rw [spec_loDrawn.l4]) ?_
    have hb1 := bit_small ⟨a, by omega⟩ ⟨v, hv8⟩
    have hb2 := bit_small ⟨b, by omega⟩ ⟨v, hv8⟩
    dsimp only at hb1 hb2
    rw [hb1, hb2, w64 (x := (b : Int) + 1) (by omega) (by omega)]
    have ih := fun g' => draw_l4 v a hv ha r d (b + 1) g' (by omega)
    rw [show (((b + 1 : Nat)) : Int) = (b : Int) + 1 by omega] at ih
    rw [rowV] at hr
    refine Ev.pos (by omega) (Ev.bindk (laced_ij h ha (by omega)) ?_)
    cases hE : hvE w a b with
    | false =>
      refine Ev.neg (by decide) (ih g ?_)
      have : okV (hvE w) (hvP w) v a b = true := by unfold okV; rw [hE]; rfl
      rw [this, Bool.true_and] at hr
      exact hr
    | true =>
      refine Ev.pos rfl (Ev.pos (by omega) (Ev.pos (by omega) (Ev.bindk (both_ij h ha (by omega)) ?_)))
      rw [tmod2]
      have hP := hvP_eq h ha (show b < m by omega)
      generalize bothN (bytesOf w) m (97 + (a : Int)) (97 + (b : Int)) = c at hP ⊢
      have e1 : (((bitH v a : Nat) : Int) != ((bitH v b : Nat) : Int)) = (bitH v a != bitH v b) := by
        rw [Bool.eq_iff_iff, bne_iff_ne, bne_iff_ne]; omega
      have e2 : (((c % 2 : Nat) : Int) == 0) = hvP w a b := by
        rw [hP, Bool.eq_iff_iff, beq_iff_eq, beq_iff_eq]; omega
      rw [e1, e2]
      have hok : okV (hvE w) (hvP w) v a b = ((bitH v a != bitH v b) == hvP w a b) := by unfold okV; rw [hE]; rfl
      rw [hok] at hr
      cases e3 : (bitH v a != bitH v b) == hvP w a b with
      | true =>
        rw [e3, Bool.true_and] at hr
        refine Ev.neg ?_ (ih g hr)
        have := beq_iff_eq.1 e3
        rw [this]
        simp
      | false =>
        rw [e3, Bool.false_and, Bool.and_false] at hr
        refine Ev.pos ?_ (ih false (by rw [Bool.false_and]; exact hr))
        exact bne_iff_ne.2 (beq_eq_false_iff_ne.1 e3)
theorem draw_l3 (v : Nat) (hv : v < 2 ^ m) (r : Bool) : ∀ (d a : Nat) (g : Bool), a + d = m → (if (g && allV (hvE w) (hvP w) v d a) = true then r = true else Ev (fun k => spec_loDrawn.l2 k w (m : Int) ((v : Int) + 1)) r) →
    Ev (fun k => spec_loDrawn.l3 k w (m : Int) (v : Int) g (a : Int)) r
  | 0, a, g, hd, hr => by
    have hf := h.few
    have hv8 : v < 256 := Nat.lt_of_lt_of_le hv (show 2 ^ m ≤ 2 ^ 8 from Nat.pow_le_pow_right (by omega) hf)
    refine Ev.step (fun k => by rw [spec_loDrawn.l3]) (Ev.neg (by omega) ?_)
    refine Ev.step (fun k => by rw [spec_loDrawn.j4]) (Ev.neg (by decide) ?_)
    rw [allV, Bool.and_true] at hr
    cases g with
    | true => exact Ev.pos rfl (Ev.val (by rw [if_pos rfl] at hr; exact hr.symm))
    | false =>
      rw [w64 (x := (v : Int) + 1) (by omega) (by omega)]
      rw [if_neg (by decide)] at hr
      exact Ev.neg (by decide) hr
  | d + 1, a, g, hd, hr => by
    have hf := h.few
    have hv8 : v < 256 := Nat.lt_of_lt_of_le hv (show 2 ^ m ≤ 2 ^ 8 from Nat.pow_le_pow_right (by omega) hf)
    refine Ev.step (fun k => by rw [spec_loDrawn.l3]) (Ev.pos (by omega) ?_)
    refine Ev.step (fun k => by rw [spec_loDrawn.j4]) ?_
    cases g with
    | false =>
      rw [w64 (x := (v : Int) + 1) (by omega) (by omega)]
      rw [Bool.false_and, if_neg (by decide)] at hr
      exact Ev.neg (by decide) (Ev.neg (by decide) hr)
    | true =>
      refine Ev.pos rfl ?_
      refine draw_l4 h v a hv (by omega) r a 0 true (by omega) ?_
      have ih := draw_l3 v hv r d (a + 1) (true && rowV (hvE w) (hvP w) v a a 0) (by omega)
      rw [show (((a + 1 : Nat)) : Int) = (a : Int) + 1 by omega] at ih
      refine ih ?_
      rw [allV, Bool.true_and] at hr
      rw [Bool.true_and]
      exact hr
theorem draw_l2 : ∀ (d v : Nat), v + d = 2 ^ m → Ev (fun k => spec_loDrawn.l2 k w (m : Int) (v : Int)) (anyV (hvE w) (hvP w) m d v)
  | 0, v, hd => by
    have hf := h.few
    have hs := shl_small ⟨m, by omega⟩
    dsimp only at hs
    refine Ev.step (fun k => by rw [spec_loDrawn.l2]) (Ev.pos (by omega) ?_)
    rw [hs]
    exact Ev.neg (by omega) (Ev.val rfl)
  | d + 1, v, hd => by
    have hf := h.few
    have hs := shl_small ⟨m, by omega⟩
    dsimp only at hs
    refine Ev.step (fun k => by rw [spec_loDrawn.l2]) (Ev.pos (by omega) ?_)
    rw [hs]
    refine Ev.pos (by omega) (draw_l3 h v (by omega) _ m 0 true (by omega) ?_)
    rw [Bool.true_and, anyV]
    cases e : allV (hvE w) (hvP w) v m 0 with
    | true => rw [if_pos rfl]; rfl
    | false =>
      rw [if_neg (by decide), Bool.false_or]
      have ih := draw_l2 d (v + 1) (by omega)
      rwa [show (((v + 1 : Nat)) : Int) = (v : Int) + 1 by omega] at ih
/-- Whether no earlier letter keeps a loop from being drawn together with one. -/
def clean1 (w : ByteArray) (a : Nat) : Nat → Nat → Bool
  | 0, _ => true
  | d + 1, b => !(pairBad w b a) && clean1 w a d (b + 1)
def clean0 (w : ByteArray) : Nat → Nat → Bool
  | 0, _ => true
  | d + 1, a => clean1 w a a 0 && clean0 w d (a + 1)
theorem draw_l1 (a : Nat) (ha : a < m) (r : Bool) : ∀ (d b : Nat), b + d = a → (if clean1 w a d b = true then Ev (fun k => spec_loDrawn.l0 k w (m : Int) ((a : Int) + 1)) r else r = false) → Ev (fun k => spec_loDrawn.l1 k w (m : Int) (a : Int) (b : Int)) r
  | 0, b, hd, hr => by
    have hf := h.few
    refine Ev.step (fun k => by rw [spec_loDrawn.l1]) (Ev.neg (by omega) ?_)
    rw [w64 (x := (a : Int) + 1) (by omega) (by omega)]
    rw [clean1, if_pos rfl] at hr
    exact hr
  | d + 1, b, hd, hr => by
    have hf := h.few
    have hbm : b < m := by omega
    have hbad := bad_eq h hbm ha
    rw [decide_eq_true (show b < a by omega), Bool.true_and, symE h hbm ha, symP h hbm ha] at hbad
    have ih := draw_l1 a ha r d (b + 1) (by omega)
    rw [show (((b + 1 : Nat)) : Int) = (b : Int) + 1 by omega] at ih
    refine Ev.step (fun k => by rw [spec_loDrawn.l1]) (Ev.pos (by omega) (Ev.bindk (laced_ij h ha hbm) ?_))
    rw [w64 (x := (b : Int) + 1) (by omega) (by omega)]
    rw [clean1, hbad] at hr
    cases hE : hvE w a b with
    | true =>
      rw [hE] at hr
      exact Ev.pos rfl (ih (by simpa using hr))
    | false =>
      rw [hE] at hr
      refine Ev.neg (by decide) (Ev.bindk (both_ij h ha hbm) ?_)
      rw [tmod2]
      have hP := hvP_eq h ha hbm
      generalize bothN (bytesOf w) m (97 + (a : Int)) (97 + (b : Int)) = c at hP ⊢
      cases hv : hvP w a b with
      | true =>
        rw [hv] at hr hP
        have := beq_iff_eq.1 hP.symm
        exact Ev.pos (by omega) (ih (by simpa using hr))
      | false =>
        rw [hv] at hr hP
        have := beq_eq_false_iff_ne.1 hP.symm
        exact Ev.neg (by omega) (Ev.val (by simpa using hr.symm))
theorem draw_l0 (r : Bool) : ∀ (d a : Nat), a + d = m → (if clean0 w d a = true then r = anyV (hvE w) (hvP w) m (2 ^ m) 0 else r = false) → Ev (fun k => spec_loDrawn.l0 k w (m : Int) (a : Int)) r
  | 0, a, hd, hr => by
    refine Ev.step (fun k => by rw [spec_loDrawn.l0]) (Ev.neg (by omega) ?_)
    rw [clean0, if_pos rfl] at hr
    rw [hr]
    exact draw_l2 h (2 ^ m) 0 (by omega)
  | d + 1, a, hd, hr => by
    refine Ev.step (fun k => by rw [spec_loDrawn.l0]) ?_
    refine Ev.pos (by omega) ?_
    refine draw_l1 h a (by omega) r a 0 (by omega) ?_
    rw [clean0] at hr
    have ih := draw_l0 r d (a + 1) (by omega)
    rw [show (((a + 1 : Nat)) : Int) = (a : Int) + 1 by omega] at ih
    cases e : clean1 w a a 0 with
    | true =>
      rw [e, Bool.true_and] at hr
      rw [if_pos rfl]
      exact ih hr
    | false =>
      rw [e, Bool.false_and, if_neg (by decide)] at hr
      rw [if_neg (by decide)]
      exact hr
end
theorem clean1_iff (w : ByteArray) (a : Nat) : ∀ (d b : Nat), clean1 w a d b = true ↔ ∀ q, b ≤ q → q < b + d → pairBad w q a = false
  | 0, b => by simp [clean1]; intro q h1 h2; omega
  | d + 1, b => by
    rw [clean1, Bool.and_eq_true, clean1_iff w a d (b + 1), Bool.not_eq_true']
    constructor
    · rintro ⟨h1, h2⟩ q h3 h4
      by_cases e : q = b
      · subst e; exact h1
      · exact h2 q (by omega) (by omega)
    · intro h
      exact ⟨h b (by omega) (by omega), fun q h1 h2 => h q (by omega) (by omega)⟩
theorem clean0_iff (w : ByteArray) : ∀ (d a : Nat), clean0 w d a = true ↔ ∀ q, a ≤ q → q < a + d → clean1 w q q 0 = true
  | 0, b => by simp [clean0]; intro q h1 h2; omega
  | d + 1, b => by
    rw [clean0, Bool.and_eq_true, clean0_iff w d (b + 1)]
    constructor
    · rintro ⟨h1, h2⟩ q h3 h4
      by_cases e : q = b
      · subst e; exact h1
      · exact h2 q (by omega) (by omega)
    · intro h
      exact ⟨h b (by omega) (by omega), fun q h1 h2 => h q (by omega) (by omega)⟩
theorem clean_any (w : ByteArray) (n : Nat) : clean0 w n 0 = !(anyBad w n) := by
  have hlt : ∀ i j, pairBad w i j = true → i < j := fun i j h => by
    unfold pairBad at h
    simp only [Bool.and_eq_true, decide_eq_true_eq] at h
    exact h.1.1
  cases e : anyBad w n with
  | false =>
    refine (clean0_iff w n 0).2 fun a _ ha => (clean1_iff w a a 0).2 fun b _ hb => ?_
    cases hb2 : pairBad w b a with
    | false => rfl
    | true => rw [anyBad_some (by omega) (by omega) hb2] at e; cases e
  | true =>
    cases e2 : clean0 w n 0 with
    | false => rfl
    | true =>
      exfalso
      have : anyBad w n = false := anyBad_none fun i j hi hj => by
        cases hb : pairBad w i j with
        | false => rfl
        | true =>
          have := (clean1_iff w j j 0).1 ((clean0_iff w n 0).1 e2 j (by omega) (by omega)) i (by omega) (by have := hlt i j hb; omega)
          rw [hb] at this
          cases this
      rw [e] at this
      cases this
/-- Whether a loop can be drawn. -/
def drawnL (w : ByteArray) (m : Nat) : Bool := evR (bytesOf w) m m 97 && !(anyBad w m) && anyV (hvE w) (hvP w) m (2 ^ m) 0
theorem loDrawn_ev {w : ByteArray} {m : Nat} (h : M.Loop (bytesOf w) m) : Ev (fun k => spec_loDrawn.f k w) (drawnL w m) := by
  have hl := bytesOf_length w
  have hlen := h.len
  have hf := h.few
  unfold spec_loDrawn.f drawnL
  refine Ev.bindk (loEven_ev h) ?_
  cases e : evR (bytesOf w) m m 97 with
  | false => exact Ev.neg (by decide) (Ev.val rfl)
  | true =>
    refine Ev.pos rfl ?_
    rw [w64 (x := (w.size : Int) / 2) (by omega) (by omega), show (w.size : Int) / 2 = (m : Int) by omega]
    refine draw_l0 h _ m 0 (by omega) ?_
    rw [clean_any, Bool.true_and]
    cases anyBad w m <;> simp
theorem canBeDrawn_ev {w : ByteArray} {m : Nat} (h : M.Loop (bytesOf w) m) : Ev (fun k => impl_canBeDrawn.f k w) (drawnL w m) := by
  have hl := bytesOf_length w
  have hlen := h.len
  have hf := h.few
  have hm : w.size / 2 = m := by omega
  unfold impl_canBeDrawn.f drawnL
  refine Ev.bindc (isEven_eq h) ?_
  cases e : evR (bytesOf w) m m 97 with
  | false => exact Ev.neg (by decide) (Ev.val rfl)
  | true =>
    have hok : okAll w = true := by
      unfold okAll
      rw [hm, Bool.and_eq_true, decide_eq_true_eq, List.all_eq_true]
      refine ⟨by omega, fun c hc => ?_⟩
      have := (mem_abc m c).1 hc
      exact (interlacedWith_eq h this.1 this.2).1
    refine Ev.pos rfl (Ev.pos hok ?_)
    rw [hm]
    cases ea : anyBad w m with
    | true => exact Ev.pos rfl (Ev.val rfl)
    | false =>
      refine Ev.neg (by decide) ?_
      obtain ⟨b, hb1, hb2⟩ := search_ok (n := m) (E := hvE w) (P := hvP w) (by omega) (fun i j hi hj => symE h hi hj) (fun i j hi hj => symP h hi hj)
      have hbv : anyV (hvE w) (hvP w) m (2 ^ m) 0 = b := by
        rw [Bool.eq_iff_iff, anyV_valid (fun i j hi hj => symE h hi hj) (fun i j hi hj => symP h hi hj), hb2]
      rw [hbv]
      obtain ⟨Z, hZ⟩ := hb1
      refine ⟨Z, fun k hk => ?_⟩
      have := hZ k hk
      unfold impl_haveHalves.f
      simp only [hok, if_true, hm]
      rw [Nat.sub_zero] at this
      rw [this]
      rfl
end Go.Proofs.YtcgoaipbfnhjhaaGreatDoor.M

/- Letters named anew: the program's way and the reference's. -/
namespace Go.Proofs.YtcgoaipbfnhjhaaGreatDoor.M
open Go.RowKit Go.Proofs.YtcgoaipbfnhjhaaGreatDoorW.PrintWords Go.Proofs.YtcgoaipbfnhjhaaGreatDoor.Pr
set_option linter.unusedVariables false
set_option linter.unusedSimpArgs false

theorem anew_byte : ∀ (w ns : List Int), ns.length + w.length ≤ 100 → ∀ x ∈ anew ns w, 0 ≤ x ∧ x < 256
  | [], _, _, x, hx => by simp [anew] at hx
  | y :: r, ns, h, x, hx => by
    unfold anew at hx
    simp only [List.length_cons] at h
    rcases List.mem_cons.1 hx with e | hx
    · have := List.idxOf_le_length (a := y) (l := ns)
      omega
    · refine anew_byte r _ ?_ x hx
      split
      · omega
      · simp; omega
/-- A text with its letters named anew. -/
def anewS (w : ByteArray) : ByteArray := strOfNums (anew [] (bytesOf w))
theorem bytesOf_anew (w : ByteArray) (h : w.size ≤ 100) : bytesOf (anewS w) = anew [] (bytesOf w) :=
  bytesOf_strOf _ (anew_byte _ _ (by rw [bytesOf_length]; simp; omega))

theorem named_ev (w : ByteArray) (hw : w.size ≤ 100) : Ev (fun k => impl_named.f k w) (anewS w) := by
  unfold impl_named.f
  have hlen := bytesOf_length w
  have e := Ev.scan0 (fun k i (acc : ByteArray × List Int) => impl_named.l0 k w acc.1 acc.2 (w.size : Int) i) (bytesOf w) (fun rest acc => strOfNums (acc.2 ++ anew (bytesOf acc.1) rest)) (fun i acc => acc.2.length = i ∧ acc.1.size ≤ i)
    (fun acc hp => by
      refine Ev.step (fun k => by rw [impl_named.l0]) ?_
      refine Ev.neg (by omega) (Ev.val ?_)
      simp [anew])
    (fun i hi acc hp => by
      obtain ⟨p1, p2⟩ := hp
      have hi2 : i < w.size := by omega
      have hx := bytesOf_get w i hi
      have hr := bytesOf_byte w _ (List.getElem_mem hi)
      have hone := bytesOf_one w i hi
      have hs1 : (w.extract i (i + 1)).size = 1 := by rw [← bytesOf_length, hone]; rfl
      have hal := bytesOf_length acc.1
      generalize (bytesOf w)[i] = x at hx hr hone
      have hix := indexB_eq acc.1 x hr.1 hr.2
      by_cases hm : x ∈ bytesOf acc.1
      · have hlt : (bytesOf acc.1).idxOf x < (bytesOf acc.1).length := List.idxOf_lt_length_iff.2 hm
        rw [ixL, if_pos hm] at hix
        refine .inl ⟨(acc.1, acc.2 ++ [97 + ((bytesOf acc.1).idxOf x : Int)]), ⟨by simp; omega, by dsimp only; omega⟩, ?_, fun r hr2 => ?_⟩
        · rw [anew, if_pos hm]
          simp
        · refine Ev.step (fun k => by rw [impl_named.l0]) ?_
          refine Ev.pos (by omega) (Ev.pos (by omega) (Ev.pos (by omega) ?_))
          rw [hx]
          refine Ev.bindc (a := ((bytesOf acc.1).idxOf x : Int)) (by unfold strings_IndexByte.f; rw [hix]) (Ev.neg (by omega) (Ev.pos (by omega) ?_))
          rw [w64 (x := (i : Int) + 1) (by omega) (by omega)]
          have e : (97 + ((bytesOf acc.1).idxOf x : Int)) % 256 = 97 + ((bytesOf acc.1).idxOf x : Int) := by omega
          simp only [e]
          exact hr2
      · rw [ixL, if_neg hm] at hix
        have hsz : (acc.1 ++ w.extract i (i + 1)).size = acc.1.size + 1 := by rw [ByteArray.size_append, hs1]
        refine .inl ⟨(acc.1 ++ w.extract i (i + 1), acc.2 ++ [97 + ((bytesOf acc.1).idxOf x : Int)]), ⟨by simp; omega, by dsimp only; omega⟩, ?_, fun r hr2 => ?_⟩
        · rw [anew, if_neg hm]
          dsimp only
          rw [bytesOf_append, hone]
          simp
        · refine Ev.step (fun k => by rw [impl_named.l0]) ?_
          refine Ev.pos (by omega) (Ev.pos (by omega) (Ev.pos (by omega) ?_))
          rw [hx]
          refine Ev.bindc (a := (-1 : Int)) (by unfold strings_IndexByte.f; rw [hix]) (Ev.pos (by omega) ?_)
          rw [w64 (x := (i : Int) + 1) (by omega) (by omega)]
          rw [show ((i : Int) + 1).toNat = i + 1 by omega, Int.toNat_natCast]
          refine Ev.pos (by omega) (Ev.pos (by omega) (Ev.pos (by omega) (Ev.pos (by omega) ?_)))
          have hid : (bytesOf acc.1).idxOf x = acc.1.size := by rw [idx_none _ _ hm, hal]
          have e : (97 + (acc.1.size : Int)) % 256 = 97 + ((bytesOf acc.1).idxOf x : Int) := by omega
          simp only [e]
          exact hr2)
    ((⟨#[]⟩ : ByteArray), []) ⟨rfl, by simp [ByteArray.size]⟩
  exact e

/-- The inner loop: the place of a letter among those that have come. -/
theorem anew_l1 (w names out : ByteArray) (i : Int) (x : Int) (hi0 : 0 ≤ i) (hi : i < (w.size : Int)) (hx : bt w i = x) (hn : names.size ≤ 1000) (hnd : (bytesOf names).Nodup) (r : ByteArray)
    (hr : Ev (fun k => spec_loAnew.l1 k w names out i (ixL (bytesOf names) x) (names.size : Int)) r) : Ev (fun k => spec_loAnew.l1 k w names out i (-1) 0) r := by
  have hlen := bytesOf_length names
  have e := Ev.cpsB (fun k j (at_ : Int) => spec_loAnew.l1 k w names out i at_ j) (fun k at_ => spec_loAnew.l1 k w names out i at_ ((bytesOf names).length : Int)) (bytesOf names)
    (fun rest at_ => if x ∈ rest then (((bytesOf names).length - rest.length : Nat) : Int) + (rest.idxOf x : Int) else at_) (fun _ _ => True)
    (fun at_ r _ hr => by simpa using hr)
    (fun j hj at_ _ => by
      have hgj := bytesOf_get names j hj
      have hsplit : bytesOf names = (bytesOf names).take j ++ (bytesOf names)[j] :: (bytesOf names).drop (j + 1) := by
        rw [← List.drop_eq_getElem_cons hj, List.take_append_drop]
      have hdl : ((bytesOf names).drop (j + 1)).length = (bytesOf names).length - (j + 1) := List.length_drop
      generalize hR : (bytesOf names).drop (j + 1) = rest at hsplit hdl ⊢
      generalize hy : (bytesOf names)[j] = y at hsplit hgj ⊢
      by_cases e : y = x
      · subst e
        have hnot : y ∉ rest := by
          rw [hsplit] at hnd
          have := (List.nodup_append.1 hnd).2.1
          exact (List.nodup_cons.1 this).1
        refine ⟨(j : Int), trivial, ?_, fun r hr2 => ?_⟩
        · rw [if_pos (List.mem_cons_self ..), if_neg hnot, List.idxOf_cons_self, List.length_cons, hdl]
          omega
        · refine Ev.step (fun k => by rw [spec_loAnew.l1]) ?_
          refine Ev.pos (by omega) (Ev.pos (by omega) (Ev.pos hi0 (Ev.pos hi ?_)))
          rw [w64 (x := (j : Int) + 1) (by omega) (by omega)]
          exact Ev.pos (by rw [hgj, hx]) hr2
      · refine ⟨at_, trivial, ?_, fun r hr2 => ?_⟩
        · by_cases hm : x ∈ rest
          · rw [if_pos hm, if_pos (List.mem_cons_of_mem _ hm), List.idxOf_cons, show (y == x) = false by simpa using e, cond_false, List.length_cons, hdl]
            omega
          · rw [if_neg hm, if_neg (by simp only [List.mem_cons, not_or]; exact ⟨fun h => e h.symm, hm⟩)]
        · refine Ev.step (fun k => by rw [spec_loAnew.l1]) ?_
          refine Ev.pos (by omega) (Ev.pos (by omega) (Ev.pos hi0 (Ev.pos hi ?_)))
          rw [w64 (x := (j : Int) + 1) (by omega) (by omega)]
          exact Ev.neg (by rw [hgj, hx]; exact e) hr2)
    (bytesOf names).length 0 (-1) r (by omega) trivial (by
      rw [List.drop_zero, Nat.sub_self]
      unfold ixL at hr
      rw [hlen]
      simpa using hr)
  simpa using e
theorem loAnew_ev (w : ByteArray) (hw : w.size ≤ 16) : Ev (fun k => spec_loAnew.f k w) (anewS w) := by
  unfold spec_loAnew.f
  have hlen := bytesOf_length w
  have e := Ev.scan0 (fun k i (acc : ByteArray × ByteArray) => spec_loAnew.l0 k w acc.1 acc.2 i) (bytesOf w) (fun rest acc => strOfNums (bytesOf acc.2 ++ anew (bytesOf acc.1) rest)) (fun i acc => acc.2.size = i ∧ acc.1.size ≤ i ∧ (bytesOf acc.1).Nodup)
    (fun acc hp => by
      refine Ev.step (fun k => by rw [spec_loAnew.l0]) ?_
      refine Ev.neg (by omega) (Ev.val ?_)
      rw [anew, List.append_nil, strOf_bytesOf])
    (fun i hi acc hp => by
      obtain ⟨p1, p2, p3⟩ := hp
      have hi2 : i < w.size := by omega
      have hx := bytesOf_get w i hi
      have hone := bytesOf_one w i hi
      have hs1 : (w.extract i (i + 1)).size = 1 := by rw [← bytesOf_length, hone]; rfl
      have hal := bytesOf_length acc.1
      generalize (bytesOf w)[i] = x at hx hone
      have hstep : ∀ r, Ev (fun k => spec_loAnew.l1 k w acc.1 acc.2 i (ixL (bytesOf acc.1) x) (acc.1.size : Int)) r → Ev (fun k => spec_loAnew.l0 k w acc.1 acc.2 i) r := fun r hr => by
        refine Ev.step (fun k => by rw [spec_loAnew.l0]) ?_
        exact Ev.pos (by omega) (anew_l1 w acc.1 acc.2 i x (by omega) (by omega) hx (by omega) p3 r hr)
      by_cases hm : x ∈ bytesOf acc.1
      · have hlt : (bytesOf acc.1).idxOf x < (bytesOf acc.1).length := List.idxOf_lt_length_iff.2 hm
        rw [ixL, if_pos hm] at hstep
        generalize ha : (bytesOf acc.1).idxOf x = a at hlt hstep
        have h16 : a < 16 := by omega
        have hsz : (acc.2 ++ abc16.extract a (a + 1)).size = acc.2.size + 1 := by rw [ByteArray.size_append, abc_size a h16]
        refine .inl ⟨(acc.1, acc.2 ++ abc16.extract a (a + 1)), ⟨by dsimp only; omega, by dsimp only; omega, p3⟩, ?_, fun r hr2 => hstep r ?_⟩
        · rw [anew, if_pos hm, ha]
          dsimp only
          rw [bytesOf_append, abc_one a h16]
          simp
        · refine Ev.step (fun k => by rw [spec_loAnew.l1]) ?_
          refine Ev.neg (by omega) (Ev.neg (by omega) (Ev.pos (by omega) ?_))
          rw [w64 (x := (a : Int) + 1) (by omega) (by omega), w64 (x := (i : Int) + 1) (by omega) (by omega), show ((a : Int) + 1).toNat = a + 1 by omega, Int.toNat_natCast]
          refine Ev.pos (by omega) (Ev.pos (by omega) (Ev.pos ?_ hr2))
          have h := abc_size a h16
          unfold abc16 at h
          omega
      · rw [ixL, if_neg hm] at hstep
        have h16 : acc.1.size < 16 := by omega
        have hsz : (acc.1 ++ w.extract i (i + 1)).size = acc.1.size + 1 := by rw [ByteArray.size_append, hs1]
        have hsz2 : (acc.2 ++ abc16.extract acc.1.size (acc.1.size + 1)).size = acc.2.size + 1 := by rw [ByteArray.size_append, abc_size _ h16]
        refine .inl ⟨(acc.1 ++ w.extract i (i + 1), acc.2 ++ abc16.extract acc.1.size (acc.1.size + 1)), ⟨by dsimp only; omega, by dsimp only; omega, ?_⟩, ?_, fun r hr2 => hstep r ?_⟩
        · dsimp only
          rw [bytesOf_append, hone]
          refine List.nodup_append.2 ⟨p3, by simp, fun a ha b hb => ?_⟩
          obtain rfl : b = x := by simpa using hb
          exact fun e => hm (e ▸ ha)
        · rw [anew, if_neg hm, idx_none _ _ hm, hal]
          dsimp only
          rw [bytesOf_append, bytesOf_append, hone, abc_one _ h16]
          simp
        · refine Ev.step (fun k => by rw [spec_loAnew.l1]) ?_
          refine Ev.neg (by omega) (Ev.pos (by omega) (Ev.pos (by omega) ?_))
          rw [w64 (x := (acc.1.size : Int) + 1) (by omega) (by omega), w64 (x := (i : Int) + 1) (by omega) (by omega), show ((acc.1.size : Int) + 1).toNat = acc.1.size + 1 by omega, show ((i : Int) + 1).toNat = i + 1 by omega, Int.toNat_natCast, Int.toNat_natCast]
          refine Ev.pos (by omega) (Ev.pos (by omega) (Ev.pos (by omega) (Ev.pos (by omega) (Ev.pos (by omega) (Ev.pos (by omega) (Ev.pos ?_ hr2))))))
          have h := abc_size _ h16
          unfold abc16 at h
          omega)
    ((⟨#[]⟩ : ByteArray), (⟨#[]⟩ : ByteArray)) ⟨rfl, by simp [ByteArray.size], by simp [bytesOf]⟩
  exact e
end Go.Proofs.YtcgoaipbfnhjhaaGreatDoor.M

/- When a trimmed text is empty. -/
namespace Go.Proofs.YtcgoaipbfnhjhaaGreatDoor.M
open Go.RowKit
set_option linter.unusedVariables false
set_option linter.unusedSimpArgs false

theorem dropWhile_nil {α : Type} (p : α → Bool) : ∀ l : List α, l.dropWhile p = [] ↔ ∀ x ∈ l, p x = true
  | [] => by simp
  | x :: r => by
    rw [List.dropWhile_cons]
    cases h : p x with
    | true => simp [dropWhile_nil p r, h]
    | false => simp [h]
theorem trim_nil (l cs : List UInt8) : Lib.trimS l cs = [] ↔ ∀ x ∈ l, cs.contains x = true := by
  unfold Lib.trimS Lib.trimLeftS Lib.trimRightS
  rw [dropWhile_nil]
  constructor
  · intro h
    have h2 : (l.reverse.dropWhile (cs.contains ·)) = [] ∨ (l.reverse.dropWhile (cs.contains ·)) ≠ [] := Classical.em _
    rcases h2 with h2 | h2
    · rw [dropWhile_nil] at h2
      intro x hx
      exact h2 x (List.mem_reverse.2 hx)
    · exfalso
      have h3 : cs.contains ((l.reverse.dropWhile (cs.contains ·)).head h2) = false := List.head_dropWhile_not (cs.contains ·) h2
      rw [h _ (List.mem_reverse.2 (List.head_mem h2))] at h3
      cases h3
  · intro h x hx
    rw [List.mem_reverse] at hx
    exact h x (List.mem_reverse.1 ((List.dropWhile_sublist _).mem hx))
end Go.Proofs.YtcgoaipbfnhjhaaGreatDoor.M

/- What a loop is: the program and the reference tell the same. -/
namespace Go.Proofs.YtcgoaipbfnhjhaaGreatDoor.M
open Go.RowKit Go.Proofs.YtcgoaipbfnhjhaaGreatDoorW.PrintWords Go.Proofs.YtcgoaipbfnhjhaaGreatDoor.Pr
set_option linter.unusedVariables false
set_option linter.unusedSimpArgs false

/-- A text that is a loop. -/
def goodS (w : ByteArray) : Bool := goodL (bytesOf w)
theorem anew_beq (w : ByteArray) (h : w.size ≤ 16) : ((anewS w).toList == w.toList) = (anew [] (bytesOf w) == bytesOf w) := by
  rw [toList_beq, bytesOf_anew w (by omega)]
theorem isLoop_ev (w : ByteArray) : Ev (fun k => impl_IsLoop.f k w) (goodS w) := by
  unfold impl_IsLoop.f
  by_cases h16 : w.size ≤ 16
  · refine Ev.pos h16 ?_
    have hcon : ∀ b : UInt8, ([97, 98, 99, 100, 101, 102, 103, 104] : List UInt8).contains b = true ↔ 97 ≤ (b.toNat : Int) ∧ (b.toNat : Int) ≤ 104 := by
      intro b
      simp only [List.contains_iff_mem, List.mem_cons, List.not_mem_nil, or_false]
      constructor
      · rintro (rfl | rfl | rfl | rfl | rfl | rfl | rfl | rfl) <;> decide
      · intro h
        have e : b = UInt8.ofNat b.toNat := by simp
        obtain h | h | h | h | h | h | h | h : b.toNat = 97 ∨ b.toNat = 98 ∨ b.toNat = 99 ∨ b.toNat = 100 ∨ b.toNat = 101 ∨ b.toNat = 102 ∨ b.toNat = 103 ∨ b.toNat = 104 := by omega
        all_goals (rw [h] at e; subst e; simp)
    have htr : Lib.trimS w.data.toList [97, 98, 99, 100, 101, 102, 103, 104] = [] ↔ ∀ x ∈ bytesOf w, 97 ≤ x ∧ x ≤ 104 := by
      rw [trim_nil]
      unfold bytesOf
      constructor
      · intro h x hx
        obtain ⟨b, hb, rfl⟩ := List.mem_map.1 hx
        exact (hcon b).1 (h b hb)
      · intro h b hb
        exact (hcon b).2 (h _ (List.mem_map.2 ⟨b, hb, rfl⟩))
    have hmiss : (!((bytesOf w).any (missB w))) = (bytesOf w).all (fun x => (bytesOf w).count x == 2) := by
      rw [List.not_any_eq_all_not]
      have key : ∀ x ∈ bytesOf w, (!(missB w x)) = ((bytesOf w).count x == 2) := fun x hx => by
        have := bytesOf_byte w x hx
        unfold missB
        rw [count_eq w x this.1 this.2, Bool.eq_iff_iff]
        simp
        omega
      rw [Bool.eq_iff_iff, List.all_eq_true, List.all_eq_true]
      exact ⟨fun h x hx => (key x hx) ▸ h x hx, fun h x hx => (key x hx).symm ▸ h x hx⟩
    by_cases ht : Lib.trimS w.data.toList [97, 98, 99, 100, 101, 102, 103, 104] = []
    · have hz := htr.1 ht
      refine Ev.pos ⟨ht, fun x hx => by have := hz x hx; omega⟩ (Ev.bindk (named_ev w (by omega)) ?_)
      have hb := bytesOf_length w
      by_cases e : anewS w = w
      · refine Ev.pos e (Ev.val ?_)
        have e2 : anew [] (bytesOf w) = bytesOf w := by rw [← bytesOf_anew w (by omega), e]
        rw [hmiss]
        unfold goodS goodL
        rw [e2]
        simp [hb, h16]
      · refine Ev.neg e (Ev.val ?_)
        have e2 : anew [] (bytesOf w) ≠ bytesOf w := fun h => e (bytesOf_inj (by rw [bytesOf_anew w (by omega), h]))
        unfold goodS goodL
        rw [show (anew [] (bytesOf w) == bytesOf w) = false by simpa using e2]
        simp
    · refine Ev.neg (fun h => ht h.1) (Ev.neg ht (Ev.val ?_))
      have hg : goodS w = false := by
        cases hg : goodS w with
        | false => rfl
        | true => exact absurd (htr.2 (good_letters hg)) ht
      exact hg.symm
  · refine Ev.neg h16 (Ev.val ?_)
    unfold goodS goodL
    rw [decide_eq_false (by rw [bytesOf_length]; exact h16)]
    rfl

theorem good_l1 (w : ByteArray) (i : Int) (x : Int) (hi0 : 0 ≤ i) (hi : i < (w.size : Int)) (hx : bt w i = x) (hw : w.size ≤ 1000) (r : Bool)
    (hr : Ev (fun k => spec_loGood.l1 k w i (((bytesOf w).count x : Nat) : Int) (w.size : Int)) r) : Ev (fun k => spec_loGood.l1 k w i 0 0) r := by
  have hlen := bytesOf_length w
  have hcl : (bytesOf w).count x ≤ (bytesOf w).length := List.count_le_length
  have e := Ev.cpsB (fun k j (t : Int) => spec_loGood.l1 k w i t j) (fun k t => spec_loGood.l1 k w i t ((bytesOf w).length : Int)) (bytesOf w)
    (fun rest t => t + ((rest.count x : Nat) : Int)) (fun j t => 0 ≤ t ∧ t ≤ j)
    (fun t r _ hr => by simpa using hr)
    (fun j hj t hp => by
      have hgj := bytesOf_get w j hj
      generalize (bytesOf w)[j] = y at hgj ⊢
      by_cases e : y = x
      · refine ⟨t + 1, by omega, ?_, fun r hr2 => ?_⟩
        · subst e
          rw [List.count_cons_self]
          omega
        · refine Ev.step (fun k => by rw [spec_loGood.l1]) ?_
          refine Ev.pos (by omega) (Ev.pos (by omega) (Ev.pos hi0 (Ev.pos hi ?_)))
          rw [w64 (x := (j : Int) + 1) (by omega) (by omega), w64 (x := t + 1) (by omega) (by omega)]
          exact Ev.pos (by rw [hgj, hx]; exact e) hr2
      · refine ⟨t, by omega, ?_, fun r hr2 => ?_⟩
        · rw [List.count_cons, if_neg (by simpa using e)]
          omega
        · refine Ev.step (fun k => by rw [spec_loGood.l1]) ?_
          refine Ev.pos (by omega) (Ev.pos (by omega) (Ev.pos hi0 (Ev.pos hi ?_)))
          rw [w64 (x := (j : Int) + 1) (by omega) (by omega)]
          exact Ev.neg (by rw [hgj, hx]; exact e) hr2)
    (bytesOf w).length 0 0 r (by omega) (by omega) (by
      rw [List.drop_zero, hlen]
      simpa using hr)
  simpa using e
theorem loGood_l0 (w : ByteArray) (h16 : w.size ≤ 16) : Ev (fun k => spec_loGood.l0 k w 0) ((bytesOf w).all (fun x => (bytesOf w).count x == 2) && (anew [] (bytesOf w) == bytesOf w)) := by
  have hlen := bytesOf_length w
  exact Ev.scan0 (fun k i (_ : Unit) => spec_loGood.l0 k w i) (bytesOf w) (fun rest _ => rest.all (fun x => (bytesOf w).count x == 2) && (anew [] (bytesOf w) == bytesOf w)) (fun _ _ => True)
    (fun _ _ => by
      refine Ev.step (fun k => by rw [spec_loGood.l0]) ?_
      refine Ev.neg (by omega) (Ev.bindk (loAnew_ev w h16) (Ev.val ?_))
      rw [anew_beq w h16]
      rfl)
    (fun i hi _ _ => by
      have hx := bytesOf_get w i hi
      generalize (bytesOf w)[i] = x at hx ⊢
      have hstep : ∀ r, Ev (fun k => spec_loGood.l1 k w i (((bytesOf w).count x : Nat) : Int) (w.size : Int)) r → Ev (fun k => spec_loGood.l0 k w i) r := fun r hr => by
        refine Ev.step (fun k => by rw [spec_loGood.l0]) ?_
        exact Ev.pos (by omega) (good_l1 w i x (by omega) (by omega) hx (by omega) r hr)
      rw [List.all_cons]
      by_cases hc : (bytesOf w).count x = 2
      · refine .inl ⟨(), trivial, by rw [hc]; rfl, fun r hr => hstep r ?_⟩
        refine Ev.step (fun k => by rw [spec_loGood.l1]) ?_
        refine Ev.neg (by omega) (Ev.pos (by omega) ?_)
        rw [w64 (x := (i : Int) + 1) (by omega) (by omega)]
        exact hr
      · refine .inr (hstep _ ?_)
        refine Ev.step (fun k => by rw [spec_loGood.l1]) ?_
        refine Ev.neg (by omega) (Ev.neg (by omega) (Ev.val ?_))
        rw [show ((bytesOf w).count x == 2) = false by simpa using hc]
        rfl)
    () trivial
theorem loGood_ev (w : ByteArray) : Ev (fun k => spec_loGood.f k w) (goodS w) := by
  unfold spec_loGood.f
  have hlen := bytesOf_length w
  by_cases h16 : w.size ≤ 16
  · refine Ev.neg (by omega) ?_
    refine Ev.step (fun k => by rw [spec_loGood.j0]) ?_
    by_cases he : w.size % 2 = 0
    · refine Ev.neg (by simp; omega) ?_
      have e := loGood_l0 w h16
      have e2 : goodS w = ((bytesOf w).all (fun x => (bytesOf w).count x == 2) && (anew [] (bytesOf w) == bytesOf w)) := by
        unfold goodS goodL
        rw [decide_eq_true (by omega), Bool.true_and, Bool.and_comm]
      rw [e2]
      exact e
    · refine Ev.pos (by simp; omega) (Ev.val ?_)
      cases hg : goodS w with
      | false => rfl
      | true => have := good_even hg; omega
  · refine Ev.pos (by omega) ?_
    refine Ev.step (fun k => by rw [spec_loGood.j0]) ?_
    refine Ev.pos rfl (Ev.val ?_)
    unfold goodS goodL
    rw [decide_eq_false (by rw [bytesOf_length]; exact h16)]
    rfl
theorem good_size {w : ByteArray} (h : goodS w = true) : w.size ≤ 16 := by
  have := bytesOf_length w
  unfold goodS goodL at h
  simp only [Bool.and_eq_true, decide_eq_true_eq] at h
  omega
end Go.Proofs.YtcgoaipbfnhjhaaGreatDoor.M

/- A loop told back. -/
namespace Go.Proofs.YtcgoaipbfnhjhaaGreatDoor.M
open Go.RowKit Go.Proofs.YtcgoaipbfnhjhaaGreatDoorW.PrintWords Go.Proofs.YtcgoaipbfnhjhaaGreatDoor.Pr
set_option linter.unusedVariables false
set_option linter.unusedSimpArgs false

/-- A text told back. -/
def backS (w : ByteArray) : ByteArray := strOfNums (bytesOf w).reverse
theorem bytesOf_back (w : ByteArray) : bytesOf (backS w) = (bytesOf w).reverse :=
  bytesOf_strOf _ (fun x hx => bytesOf_byte w x (List.mem_reverse.1 hx))
theorem back_size (w : ByteArray) : (backS w).size = w.size := by
  rw [← bytesOf_length, bytesOf_back, List.length_reverse, bytesOf_length]
theorem backward_eq (w : ByteArray) (h : w.size ≤ 1000000) : impl_backward.f w = some (backS w) := by
  unfold impl_backward.f
  rw [if_pos h]
  rfl
theorem loBack_l0 (w : ByteArray) (hw : w.size ≤ 16) : ∀ (d : Nat) (out : ByteArray), d ≤ w.size → bytesOf out = ((bytesOf w).drop d).reverse → Ev (fun k => spec_loBack.l0 k w out ((d : Int) - 1)) (anewS (backS w))
  | 0, out, _, ho => by
    refine Ev.step (fun k => by rw [spec_loBack.l0]) ?_
    have e : out = backS w := bytesOf_inj (by rw [ho, bytesOf_back, List.drop_zero])
    subst e
    have hs := back_size w
    exact Ev.neg (by omega) (Ev.bindk (loAnew_ev _ (by omega)) (Ev.val rfl))
  | d + 1, out, hd, ho => by
    have hlen := bytesOf_length w
    have hd2 : d < (bytesOf w).length := by omega
    have hone := bytesOf_one w d hd2
    have hs1 : (w.extract d (d + 1)).size = 1 := by rw [← bytesOf_length, hone]; rfl
    have hol := bytesOf_length out
    rw [ho] at hol
    simp at hol
    refine Ev.step (fun k => by rw [spec_loBack.l0]) ?_
    have e1 : ((d + 1 : Nat) : Int) - 1 = d := by omega
    simp only [e1]
    rw [w64 (x := (d : Int) + 1) (by omega) (by omega), w64 (x := (d : Int) - 1) (by omega) (by omega), show ((d : Int) + 1).toNat = d + 1 by omega, Int.toNat_natCast]
    refine Ev.pos (by omega) (Ev.pos (by omega) (Ev.pos (by omega) (Ev.pos (by omega) (Ev.pos (by omega) ?_))))
    refine loBack_l0 w hw d _ (by omega) ?_
    rw [bytesOf_append, hone, ho, List.drop_eq_getElem_cons hd2, List.reverse_cons]
theorem loBack_ev (w : ByteArray) (hw : w.size ≤ 16) : Ev (fun k => spec_loBack.f k w) (anewS (backS w)) := by
  unfold spec_loBack.f
  have hlen := bytesOf_length w
  have e := loBack_l0 w hw w.size ⟨#[]⟩ (Nat.le_refl _) (by rw [← hlen, List.drop_length]; rfl)
  rw [w64 (by omega) (by omega)]
  exact e
end Go.Proofs.YtcgoaipbfnhjhaaGreatDoor.M

/- The first of a loop's names: the reference's walk and the program's agree. -/
namespace Go.Proofs.YtcgoaipbfnhjhaaGreatDoor.M
open Go.RowKit Go.Proofs.YtcgoaipbfnhjhaaGreatDoor.Pr Go.Proofs.YtcgoaipbfnhjhaaGreatDoorW.PrintWords Go.Proofs.YtcgoaipbfnhjhaaGreatDoorW.PrintLast
set_option linter.unusedVariables false
set_option linter.unusedSimpArgs false

theorem newN_pre : ∀ (w ns : List Int), ∃ t, newN ns w = ns ++ t
  | [], ns => ⟨[], by simp [newN]⟩
  | x :: r, ns => by
    unfold newN
    obtain ⟨t, ht⟩ := newN_pre r (if x ∈ ns then ns else ns ++ [x])
    by_cases h : x ∈ ns
    · rw [if_pos h] at ht ⊢
      exact ⟨t, ht⟩
    · rw [if_neg h] at ht ⊢
      exact ⟨x :: t, by rw [ht, List.append_assoc]; rfl⟩
theorem newN_mem : ∀ (w ns : List Int), ∀ x ∈ w, x ∈ newN ns w
  | [], _, x, hx => by simp at hx
  | y :: r, ns, x, hx => by
    unfold newN
    rcases List.mem_cons.1 hx with e | hx
    · subst e
      obtain ⟨t, ht⟩ := newN_pre r (if x ∈ ns then ns else ns ++ [x])
      rw [ht]
      refine List.mem_append_left _ ?_
      by_cases h : x ∈ ns
      · rw [if_pos h]; exact h
      · rw [if_neg h]; simp
    · exact newN_mem r _ x hx
theorem anew_as_map : ∀ (w ns : List Int), anew ns w = w.map fun x => 97 + ((newN ns w).idxOf x : Int)
  | [], _ => rfl
  | x :: r, ns => by
    rw [anew, List.map_cons, newN]
    obtain ⟨t, ht⟩ := newN_pre r (if x ∈ ns then ns else ns ++ [x])
    have hx : (newN (if x ∈ ns then ns else ns ++ [x]) r).idxOf x = ns.idxOf x := by
      rw [ht]
      by_cases h : x ∈ ns
      · rw [if_pos h, List.idxOf_append, if_pos h]
      · rw [if_neg h, List.idxOf_append, if_pos (by simp), List.idxOf_eq_length h, List.idxOf_append, if_neg h]
        simp
    rw [hx, anew_as_map r]
theorem anew_anew (w v : List Int) (h : ∀ x ∈ v, x ∈ w) : anew [] (v.map fun x => 97 + ((newN [] w).idxOf x : Int)) = anew [] v := by
  have e := anew_map (fun x => 97 + ((newN [] w).idxOf x : Int)) v [] (fun x hx y hy hxy => by
    have hx' := newN_mem w [] x (h x (by simpa using hx))
    have hy' := newN_mem w [] y (h y (by simpa using hy))
    have e1 : (newN [] w).idxOf x = (newN [] w).idxOf y := by
      have : (97 : Int) + ((newN [] w).idxOf x : Int) = 97 + ((newN [] w).idxOf y : Int) := hxy
      omega
    have h1 : (newN [] w)[(newN [] w).idxOf x]? = some x := by
      rw [List.getElem?_eq_getElem (List.idxOf_lt_length_of_mem hx'), List.getElem_idxOf]
    have h2 : (newN [] w)[(newN [] w).idxOf y]? = some y := by
      rw [List.getElem?_eq_getElem (List.idxOf_lt_length_of_mem hy'), List.getElem_idxOf]
    rw [e1, h2] at h1
    exact (Option.some.inj h1).symm)
  simpa using e
/-- A text turned by i. -/
def rotS (s : ByteArray) (i : Nat) : ByteArray := s.extract i s.size ++ s.extract 0 i
theorem bytesOf_rot (s : ByteArray) (i : Nat) : bytesOf (rotS s i) = (bytesOf s).drop i ++ (bytesOf s).take i := by
  unfold rotS
  rw [bytesOf_append, bytesOf_extract, bytesOf_extract, List.drop_zero, ← bytesOf_length, List.take_length]
theorem rot_size (s : ByteArray) (i : Nat) (h : i ≤ s.size) : (rotS s i).size = s.size := by
  unfold rotS
  rw [ByteArray.size_append, ByteArray.size_extract, ByteArray.size_extract]
  omega
theorem anewS_size (s : ByteArray) (h : s.size ≤ 100) : (anewS s).size = s.size := by
  rw [← bytesOf_length, bytesOf_anew s h, anew_length, bytesOf_length]
theorem anew_rot (s : ByteArray) (i : Nat) (h : s.size ≤ 100) (hi : i ≤ s.size) : anewS (rotS (anewS s) i) = anewS (rotS s i) := by
  refine bytesOf_inj ?_
  rw [bytesOf_anew _ (by rw [rot_size _ _ (by rw [anewS_size s h]; exact hi), anewS_size s h]; exact h), bytesOf_anew _ (by rw [rot_size _ _ hi]; exact h), bytesOf_rot, bytesOf_rot, bytesOf_anew s h, anew_as_map (bytesOf s), ← List.map_drop, ← List.map_take, ← List.map_append]
  refine anew_anew _ _ (fun x hx => ?_)
  rcases List.mem_append.1 hx with e | e
  · exact List.mem_of_mem_drop e
  · exact List.mem_of_mem_take e
/-- The lesser of what has been told and a new text. -/
def stpS (best o : ByteArray) : ByteArray := if Op.bytesLess o.toList best.toList = true then o else best
theorem stp_min (best o : ByteArray) : Lib.minS best o = stpS best o := by
  unfold Lib.minS stpS
  rw [Proofs.bytesLess_eq, Lib.toList_data, Lib.toList_data]
  by_cases h : o.data.toList < best.data.toList
  · rw [if_pos (decide_eq_true h)]
    refine if_neg ?_
    intro h1
    rcases h1 with h1 | h1
    · exact absurd h1 (List.lt_asymm h)
    · rw [h1] at h
      exact absurd h (List.lt_irrefl _)
  · rw [if_neg (show ¬ decide (o.data.toList < best.data.toList) = true from fun e => h (of_decide_eq_true e))]
    refine if_pos ?_
    by_cases h1 : best.data.toList < o.data.toList
    · exact Or.inl h1
    · exact Or.inr (List.le_antisymm h h1)
/-- What has been told after the turns of a text. -/
def turnsL (s : ByteArray) : Nat → Nat → ByteArray → ByteArray
  | 0, _, best => best
  | d + 1, i, best => turnsL s d (i + 1) (stpS best (anewS (rotS s i)))
theorem turns_anew (s : ByteArray) (h : s.size ≤ 100) : ∀ (d i : Nat) (best : ByteArray), i + d ≤ s.size → turnsL (anewS s) d i best = turnsL s d i best
  | 0, _, _, _ => rfl
  | d + 1, i, best, hi => by
    unfold turnsL
    rw [anew_rot s i h (by omega)]
    exact turns_anew s h d (i + 1) _ (by omega)
/-- The first of a loop's names. -/
def firstS (w : ByteArray) : ByteArray := turnsL (backS w) w.size 0 (turnsL w w.size 0 w)
theorem turnsF_ev (s : ByteArray) (h : s.size ≤ 16) : ∀ (d i : Nat) (best : ByteArray), i + d ≤ s.size → Ev (fun k => turnsF k s d i best) (turnsL s d i best)
  | 0, _, _, _ => Ev.val rfl
  | d + 1, i, best, hi => by
    simp only [turnsF]
    unfold turnsL
    exact Ev.bindk (loAnew_ev (rotS s i) (by rw [rot_size s i (by omega)]; exact h)) (turnsF_ev s h d (i + 1) _ (by omega))
theorem ascii_of (s : ByteArray) (h : s.size ≤ 1000) (hb : ∀ x ∈ bytesOf s, x < 128) : asciiB s = true := by
  unfold asciiB
  simp only [Bool.and_eq_true, decide_eq_true_eq, List.all_eq_true]
  exact ⟨h, hb⟩
theorem loFirst_ev (w : ByteArray) (hg : goodS w = true) : Ev (fun k => spec_loFirst.f k w) (firstS w) := by
  have h16 := good_size hg
  have hbz := back_size w
  have hbs : (anewS (backS w)).size = w.size := by rw [anewS_size _ (by omega), hbz]
  unfold spec_loFirst.f
  refine Ev.bindk (loBack_ev w h16) (Ev.pos ⟨ascii_of w (by omega) (fun x hx => ?_), ascii_of _ (by omega) (fun x hx => ?_)⟩ ?_)
  · have := good_letters (show goodL (bytesOf w) = true from hg) x hx
    omega
  · rw [bytesOf_anew _ (by omega), anew_as_map] at hx
    obtain ⟨y, hy, rfl⟩ := List.mem_map.1 hx
    have h1 := List.idxOf_le_length (a := y) (l := newN [] (bytesOf (backS w)))
    have h2 := newN_length (bytesOf (backS w)) []
    have h3 := bytesOf_length (backS w)
    simp at h2
    omega
  · refine Ev.bindk (turnsF_ev w h16 w.size 0 w (by omega)) ?_
    rw [hbs]
    have e := turnsF_ev (anewS (backS w)) (by omega) w.size 0 (turnsL w w.size 0 w) (by omega)
    rw [turns_anew (backS w) (by omega) w.size 0 _ (by omega)] at e
    exact e
theorem firstLoop_l1 (w y : ByteArray) (hw : w.size ≤ 16) (hy : y.size = w.size) (xs : List ByteArray) (a b : Int) : ∀ (d i : Nat) (best r : ByteArray), i + d = w.size → Ev (fun k => impl_firstLoop.l0 k w (turnsL y d i best) xs a (wrap64 (b + 1))) r → Ev (fun k => impl_firstLoop.l1 k w best y xs a b (w.size : Int) (i : Int)) r
  | 0, i, best, r, hi, h => by
    refine Ev.step (fun k => by rw [impl_firstLoop.l1]) ?_
    exact Ev.neg (by omega) h
  | d + 1, i, best, r, hi, h => by
    refine Ev.step (fun k => by rw [impl_firstLoop.l1]) ?_
    have hz : (y.extract (i : Int).toNat y.size).size + (y.extract 0 (i : Int).toNat).size ≤ 9223372036854775807 := by
      rw [ByteArray.size_extract, ByteArray.size_extract]
      omega
    rw [Int.toNat_natCast] at hz
    simp only [Int.toNat_natCast]
    refine Ev.pos (by omega) (Ev.pos (by omega) (Ev.pos (by omega) (Ev.pos hz (Ev.bindk (named_ev (rotS y i) (by rw [rot_size y i (by omega)]; omega)) ?_))))
    rw [w64 (x := (i : Int) + 1) (by omega) (by omega), stp_min]
    exact firstLoop_l1 w y hw hy xs a b d (i + 1) _ r (by omega) h
theorem firstLoop_ev (w : ByteArray) (h16 : w.size ≤ 16) : Ev (fun k => impl_firstLoop.f k w) (firstS w) := by
  unfold impl_firstLoop.f
  have hbz := back_size w
  refine Ev.bindc (backward_eq w (by omega)) ?_
  show Ev (fun k => impl_firstLoop.l0 k w w [w, backS w] 2 0) _
  refine Ev.step (fun k => by rw [impl_firstLoop.l0]) ?_
  refine Ev.pos (show _ < (2 : Int) by omega) (Ev.pos (by omega) (Ev.pos (show _ < (2 : Int) by omega) ?_))
  refine firstLoop_l1 w w h16 rfl _ _ 0 w.size 0 w _ (by omega) ?_
  rw [w64 (by omega) (by omega)]
  show Ev (fun k => impl_firstLoop.l0 k w (turnsL w w.size 0 w) [w, backS w] 2 1) _
  refine Ev.step (fun k => by rw [impl_firstLoop.l0]) ?_
  refine Ev.pos (show _ < (2 : Int) by omega) (Ev.pos (by omega) (Ev.pos (show _ < (2 : Int) by omega) ?_))
  refine firstLoop_l1 w (backS w) h16 hbz _ _ 1 w.size 0 _ _ (by omega) ?_
  rw [w64 (by omega) (by omega)]
  show Ev (fun k => impl_firstLoop.l0 k w (turnsL (backS w) w.size 0 (turnsL w w.size 0 w)) [w, backS w] 2 2) _
  refine Ev.step (fun k => by rw [impl_firstLoop.l0]) ?_
  exact Ev.neg (by decide) (Ev.val rfl)
end Go.Proofs.YtcgoaipbfnhjhaaGreatDoor.M

/- Whether a loop can be drawn, told of the table of what is interlaced; two loops one behind the other. Plain lists, no program. -/
namespace Go.Proofs.YtcgoaipbfnhjhaaGreatDoor.M
set_option linter.unusedVariables false
set_option linter.unusedSimpArgs false

def degM (E : Nat → Nat → Bool) (n a : Nat) : Nat := (List.range n).countP (fun c => E a c)
def bothM (E : Nat → Nat → Bool) (n a b : Nat) : Nat := (List.range n).countP (fun c => E a c && E b c)
def DrawnM (n : Nat) (E : Nat → Nat → Bool) : Prop :=
  (∀ a, a < n → degM E n a % 2 = 0) ∧ (∀ a b, a < n → b < n → a ≠ b → E a b = false → bothM E n a b % 2 = 0) ∧ ∃ s, ValidH n E (fun a b => bothM E n a b % 2 == 0) s
theorem sg_eq {P Q : Nat → Nat → Bool} {a b c d : Nat} (h : P a b = Q c d) : sgH P a b = sgH Q c d := by
  unfold sgH
  rw [h]
theorem degM_congr {E F : Nat → Nat → Bool} {n a : Nat} (h : ∀ b, b < n → E a b = F a b) : degM E n a = degM F n a :=
  List.countP_congr fun c hc => by rw [h c (List.mem_range.1 hc)]
theorem bothM_congr {E F : Nat → Nat → Bool} {n a b : Nat} (h : ∀ c, c < n → E a c = F a c ∧ E b c = F b c) : bothM E n a b = bothM F n a b :=
  List.countP_congr fun c hc => by
    have := h c (List.mem_range.1 hc)
    rw [this.1, this.2]
theorem drawnM_of {n : Nat} {E F : Nat → Nat → Bool} (h : ∀ a b, a < n → b < n → E a b = F a b) (hd : DrawnM n E) : DrawnM n F := by
  obtain ⟨h1, h2, s, h3, h4⟩ := hd
  have hb : ∀ a b, a < n → b < n → bothM E n a b = bothM F n a b := fun a b ha hb => bothM_congr fun c hc => ⟨h a c ha hc, h b c hb hc⟩
  refine ⟨fun a ha => ?_, fun a b ha hb' hn he => ?_, s, h3, fun a b ha hb' hn he => ?_⟩
  · rw [← degM_congr (fun b hb => h a b ha hb)]; exact h1 a ha
  · rw [← hb a b ha hb']; exact h2 a b ha hb' hn (by rw [h a b ha hb']; exact he)
  · have e := h4 a b ha hb' hn (by rw [h a b ha hb']; exact he)
    exact e.trans (congrArg (s a * ·) (sg_eq (by rw [hb a b ha hb'])))
theorem drawnM_congr {n : Nat} {E F : Nat → Nat → Bool} (h : ∀ a b, a < n → b < n → E a b = F a b) : DrawnM n E ↔ DrawnM n F :=
  ⟨drawnM_of h, drawnM_of fun a b ha hb => (h a b ha hb).symm⟩
/-- Two tables one behind the other. -/
def joinM (n : Nat) (E F : Nat → Nat → Bool) (a b : Nat) : Bool := if a < n then (if b < n then E a b else false) else if b < n then false else F (a - n) (b - n)
theorem count_add (p : Nat → Bool) (n k : Nat) : (List.range (n + k)).countP p = (List.range n).countP p + (List.range k).countP (fun c => p (n + c)) := by
  rw [List.range_add, List.countP_append, List.countP_map]
  rfl
theorem count_none (p : Nat → Bool) (n : Nat) (h : ∀ c, c < n → p c = false) : (List.range n).countP p = 0 :=
  List.countP_eq_zero.2 fun c hc => by rw [h c (List.mem_range.1 hc)]; decide
section
variable {n k : Nat} {E F : Nat → Nat → Bool}
theorem join_lo {a b : Nat} (ha : a < n) (hb : b < n) : joinM n E F a b = E a b := by rw [joinM, if_pos ha, if_pos hb]
theorem join_hi (a b : Nat) : joinM n E F (n + a) (n + b) = F a b := by rw [joinM, if_neg (by omega), if_neg (by omega), Nat.add_sub_cancel_left, Nat.add_sub_cancel_left]
theorem join_lh {a : Nat} (ha : a < n) (b : Nat) : joinM n E F a (n + b) = false := by rw [joinM, if_pos ha, if_neg (by omega)]
theorem join_hl {b : Nat} (a : Nat) (hb : b < n) : joinM n E F (n + a) b = false := by rw [joinM, if_neg (by omega), if_pos hb]
theorem deg_lo {a : Nat} (ha : a < n) : degM (joinM n E F) (n + k) a = degM E n a := by
  unfold degM
  rw [count_add, count_none _ k (fun c _ => join_lh ha c), Nat.add_zero]
  exact List.countP_congr fun c hc => by rw [join_lo ha (List.mem_range.1 hc)]
theorem deg_hi (a : Nat) : degM (joinM n E F) (n + k) (n + a) = degM F k a := by
  unfold degM
  rw [count_add, count_none _ n (fun c hc => join_hl a hc), Nat.zero_add]
  exact List.countP_congr fun c hc => by rw [join_hi]
theorem both_lo {a b : Nat} (ha : a < n) (hb : b < n) : bothM (joinM n E F) (n + k) a b = bothM E n a b := by
  unfold bothM
  rw [count_add, count_none _ k (fun c _ => by rw [join_lh ha c]; rfl), Nat.add_zero]
  exact List.countP_congr fun c hc => by rw [join_lo ha (List.mem_range.1 hc), join_lo hb (List.mem_range.1 hc)]
theorem both_hi (a b : Nat) : bothM (joinM n E F) (n + k) (n + a) (n + b) = bothM F k a b := by
  unfold bothM
  rw [count_add, count_none _ n (fun c hc => by rw [join_hl a hc]; rfl), Nat.zero_add]
  exact List.countP_congr fun c hc => by rw [join_hi, join_hi]
theorem both_lh {a : Nat} (ha : a < n) (b : Nat) : bothM (joinM n E F) (n + k) a (n + b) = 0 := by
  unfold bothM
  rw [count_add, count_none _ n (fun c hc => by rw [join_hl b hc, Bool.and_false]), count_none _ k (fun c _ => by rw [join_lh ha c]; rfl)]
theorem both_hl {b : Nat} (a : Nat) (hb : b < n) : bothM (joinM n E F) (n + k) (n + a) b = 0 := by
  unfold bothM
  rw [count_add, count_none _ n (fun c hc => by rw [join_hl a hc]; rfl), count_none _ k (fun c _ => by rw [join_lh hb c, Bool.and_false])]
theorem drawnM_join : DrawnM (n + k) (joinM n E F) ↔ DrawnM n E ∧ DrawnM k F := by
  constructor
  · rintro ⟨h1, h2, s, h3, h4⟩
    refine ⟨⟨fun a ha => ?_, fun a b ha hb hn he => ?_, s, h3, fun a b ha hb hn he => ?_⟩, fun a ha => ?_, fun a b ha hb hn he => ?_, fun j => s (n + j), fun j => h3 _, fun a b ha hb hn he => ?_⟩
    · rw [← deg_lo (F := F) (k := k) ha]; exact h1 a (by omega)
    · rw [← both_lo (F := F) (k := k) ha hb]; exact h2 a b (by omega) (by omega) hn (by rw [join_lo ha hb]; exact he)
    · have e := h4 a b (by omega) (by omega) hn (by rw [join_lo ha hb]; exact he)
      exact e.trans (congrArg (s a * ·) (sg_eq (by rw [both_lo ha hb])))
    · rw [← deg_hi (n := n) (E := E)]; exact h1 (n + a) (by omega)
    · rw [← both_hi (n := n) (E := E)]; exact h2 (n + a) (n + b) (by omega) (by omega) (by omega) (by rw [join_hi]; exact he)
    · have e := h4 (n + a) (n + b) (by omega) (by omega) (by omega) (by rw [join_hi]; exact he)
      exact e.trans (congrArg (s (n + a) * ·) (sg_eq (by rw [both_hi])))
  · rintro ⟨⟨h1, h2, s, h3, h4⟩, g1, g2, t, g3, g4⟩
    have sp : ∀ a, a < n + k → a < n ∨ ∃ c, a = n + c ∧ c < k := fun a ha => by
      by_cases e : a < n
      · exact .inl e
      · exact .inr ⟨a - n, by omega, by omega⟩
    refine ⟨fun a ha => ?_, fun a b ha hb hn he => ?_, fun j => if j < n then s j else t (j - n), fun j => ?_, fun a b ha hb hn he => ?_⟩
    · rcases sp a ha with ha | ⟨c, rfl, hc⟩
      · rw [deg_lo ha]; exact h1 a ha
      · rw [deg_hi]; exact g1 c hc
    · rcases sp a ha with ha | ⟨c, rfl, hc⟩ <;> rcases sp b hb with hb | ⟨d, rfl, hd⟩
      · rw [both_lo ha hb]; exact h2 a b ha hb hn (by rw [join_lo ha hb] at he; exact he)
      · rw [both_lh ha]
      · rw [both_hl _ hb]
      · rw [both_hi]; exact g2 c d hc hd (by omega) (by rw [join_hi] at he; exact he)
    · dsimp only
      split
      · exact h3 j
      · exact g3 _
    · dsimp only
      rcases sp a ha with ha | ⟨c, rfl, hc⟩ <;> rcases sp b hb with hb | ⟨d, rfl, hd⟩
      · rw [join_lo ha hb] at he
        have e := h4 a b ha hb hn he
        rw [if_pos ha, if_pos hb]
        exact e.trans (congrArg (s a * ·) (sg_eq (by rw [both_lo ha hb])))
      · rw [join_lh ha] at he; cases he
      · rw [join_hl _ hb] at he; cases he
      · rw [join_hi] at he
        have e := g4 c d hc hd (by omega) he
        rw [if_neg (by omega), if_neg (by omega), Nat.add_sub_cancel_left, Nat.add_sub_cancel_left]
        exact e.trans (congrArg (t c * ·) (sg_eq (by rw [both_hi])))
end
theorem lettP_len (p : Int → Bool) : ∀ (d : Nat) (x : Int), (lettP p x d).length = (List.range d).countP (fun i : Nat => p (x + (i : Int)))
  | 0, x => rfl
  | d + 1, x => by
    rw [List.range_succ_eq_map, List.countP_cons, List.countP_map]
    have ih := lettP_len p d (x + 1)
    have e : (List.range d).countP ((fun i : Nat => p (x + (i : Int))) ∘ Nat.succ) = (List.range d).countP (fun i : Nat => p (x + 1 + (i : Int))) :=
      List.countP_congr fun c _ => by
        show p (x + ((c + 1 : Nat) : Int)) = true ↔ _
        rw [show x + ((c + 1 : Nat) : Int) = x + 1 + (c : Int) by omega]
    rw [e, ← ih, lettP, show x + ((0 : Nat) : Int) = x by omega]
    split <;> rfl
/-- The table of a loop. -/
def tabM (w : List Int) (a b : Nat) : Bool := lacedL w (97 + (a : Int)) (97 + (b : Int))
/-- Letters moved on. -/
def movL (m : Nat) (l : List Int) : List Int := l.map fun x => x + (m : Int)
theorem mov_count (m : Nat) : ∀ (l : List Int) (x : Int), (movL m l).count (x + (m : Int)) = l.count x
  | [], x => rfl
  | y :: r, x => by
    have ec : movL m (y :: r) = (y + (m : Int)) :: movL m r := rfl
    rw [ec, List.count_cons, List.count_cons, mov_count m r x]
    by_cases e : y = x
    · subst e; simp
    · rw [show (y == x) = false by simpa using e, show (y + (m : Int) == x + (m : Int)) = false by simpa using e]
theorem mov_mem (m : Nat) (l : List Int) (x : Int) : x + (m : Int) ∈ movL m l ↔ x ∈ l := by
  unfold movL
  rw [List.mem_map]
  exact ⟨fun ⟨y, hy, e⟩ => by rw [show x = y by omega]; exact hy, fun h => ⟨x, h, rfl⟩⟩
theorem runL_app : ∀ (w v : List Int) (j J : Nat), runL j w = some J → runL j (w ++ v) = runL J v
  | [], v, j, J, h => by
    rw [runL] at h
    rw [Option.some.inj h]
    rfl
  | x :: r, v, j, J, h => by
    rw [List.cons_append, runL]
    rw [runL] at h
    by_cases h1 : 97 ≤ x ∧ x < 97 + (j : Int)
    · rw [if_pos h1] at h ⊢; exact runL_app r v j J h
    · rw [if_neg h1] at h ⊢
      by_cases h2 : x = 97 + (j : Int)
      · rw [if_pos h2] at h ⊢; exact runL_app r v (j + 1) J h
      · rw [if_neg h2] at h; cases h
theorem runL_mov (m : Nat) : ∀ (w : List Int) (j J : Nat), runL j w = some J → runL (m + j) (movL m w) = some (m + J)
  | [], j, J, h => by
    rw [runL] at h
    rw [← Option.some.inj h]
    rfl
  | x :: r, j, J, h => by
    have ec : movL m (x :: r) = (x + (m : Int)) :: movL m r := rfl
    rw [ec, runL]
    rw [runL] at h
    by_cases h1 : 97 ≤ x ∧ x < 97 + (j : Int)
    · rw [if_pos h1] at h
      rw [if_pos (by omega)]
      exact runL_mov m r j J h
    · rw [if_neg h1] at h
      by_cases h2 : x = 97 + (j : Int)
      · rw [if_pos h2] at h
        rw [if_neg (by omega), if_pos (by omega)]
        exact runL_mov m r (j + 1) J h
      · rw [if_neg h2] at h; cases h
section
variable {w v : List Int} {m k : Nat}
theorem join_loop (hw : Loop w m) (hv : Loop v k) (h8 : m + k ≤ 8) : Loop (w ++ movL m v) (m + k) := by
  have hmv : ∀ x ∈ movL m v, 97 + (m : Int) ≤ x ∧ x < 97 + ((m + k : Nat) : Int) := fun x hx => by
    obtain ⟨y, hy, e⟩ := List.mem_map.1 hx
    have e2 : y + (m : Int) = x := e
    have := hv.lo y hy
    have := hv.hi y hy
    omega
  refine ⟨by have := hw.len; have := hv.len; simp [movL]; omega, h8, ?_, fun x hx => ?_, fun x hx => ?_, fun i hi => ?_⟩
  · rw [runL_app w _ 0 m hw.run]
    have := runL_mov m v 0 k hv.run
    simpa using this
  · rcases List.mem_append.1 hx with h | h
    · exact hw.lo x h
    · have := hmv x h; omega
  · rcases List.mem_append.1 hx with h | h
    · have := hw.hi x h; omega
    · exact (hmv x h).2
  · rw [List.count_append]
    by_cases e : i < m
    · rw [hw.two i e, List.count_eq_zero.2 (fun h => by have := hmv _ h; omega)]
    · rw [List.count_eq_zero.2 (fun h => by have := hw.hi _ h; omega), show (97 : Int) + (i : Int) = (97 + ((i - m : Nat) : Int)) + (m : Int) by omega, mov_count, hv.two (i - m) (by omega)]
theorem join_tab (hw : Loop w m) (hv : Loop v k) {a b : Nat} (ha : a < m + k) (hb : b < m + k) : tabM (w ++ movL m v) a b = joinM m (tabM w) (tabM v) a b := by
  have hmv : ∀ x ∈ movL m v, 97 + (m : Int) ≤ x := fun x hx => by
    obtain ⟨y, hy, e⟩ := List.mem_map.1 hx
    have e2 : y + (m : Int) = x := e
    have := hv.lo y hy
    omega
  unfold joinM tabM lacedL
  by_cases h1 : a < m
  · rw [if_pos h1]
    obtain ⟨p, q, r, e, n1, n2, n3⟩ := two_parts _ w (hw.two a h1)
    have e2 : w ++ movL m v = p ++ (97 + (a : Int)) :: (q ++ (97 + (a : Int)) :: (r ++ movL m v)) := by rw [e]; simp
    rw [e2, mid_parts n1 n2]
    by_cases h2 : b < m
    · rw [if_pos h2, e, mid_parts n1 n2]
    · rw [if_neg h2, List.count_eq_zero.2 (fun h => by
        have := hw.hi _ (show (97 + (b : Int)) ∈ w by rw [e]; simp [h])
        omega)]
      rfl
  · rw [if_neg h1]
    obtain ⟨p, q, r, e, n1, n2, n3⟩ := two_parts _ v (hv.two (a - m) (by omega))
    have ea : (97 : Int) + (a : Int) = (97 + ((a - m : Nat) : Int)) + (m : Int) := by omega
    have e2 : w ++ movL m v = (w ++ movL m p) ++ (97 + (a : Int)) :: (movL m q ++ (97 + (a : Int)) :: movL m r) := by rw [e, ea]; simp [movL]
    have na : (97 + (a : Int)) ∉ w := fun h => by have := hw.hi _ h; omega
    rw [e2, mid_parts (by rw [List.mem_append, not_or]; exact ⟨na, by rw [ea, mov_mem]; exact n1⟩) (by rw [ea, mov_mem]; exact n2)]
    by_cases h2 : b < m
    · rw [if_pos h2, List.count_eq_zero.2 (fun h => by
        obtain ⟨y, hy, ey⟩ := List.mem_map.1 h
        have ey2 : y + (m : Int) = 97 + (b : Int) := ey
        have := hv.lo y (by rw [e]; simp [hy])
        omega)]
      rfl
    · rw [if_neg h2, e, mid_parts n1 n2, show (97 : Int) + (b : Int) = (97 + ((b - m : Nat) : Int)) + (m : Int) by omega, mov_count]
theorem join_drawn (hw : Loop w m) (hv : Loop v k) : DrawnM (m + k) (tabM (w ++ movL m v)) ↔ DrawnM m (tabM w) ∧ DrawnM k (tabM v) := by
  rw [drawnM_congr (fun a b ha hb => join_tab hw hv ha hb), drawnM_join]
end
end Go.Proofs.YtcgoaipbfnhjhaaGreatDoor.M

/- JoinLoops, SameLoops, RankOfLoop, FirstLoop and CanBeDrawn: the program and the reference tell the same. -/
namespace Go.Proofs.YtcgoaipbfnhjhaaGreatDoor.M
open Go.RowKit Go.Proofs.YtcgoaipbfnhjhaaGreatDoor.Pr Go.Proofs.YtcgoaipbfnhjhaaGreatDoorW.PrintWords Go.Proofs.YtcgoaipbfnhjhaaGreatDoorW.PrintLast
set_option linter.unusedVariables false
set_option linter.unusedSimpArgs false

def sameR (w v : ByteArray) : Bool × Bool := if goodS w = true ∧ goodS v = true then ((firstS w).toList == (firstS v).toList, true) else (false, false)
theorem sameI_ev (w v : ByteArray) : Ev (fun k => impl_SameLoops.f k w v) (sameR w v) := by
    unfold impl_SameLoops.f sameR
    refine Ev.bindk (isLoop_ev w) ?_
    by_cases h : goodS w = true
    · refine Ev.pos h (Ev.bindk (isLoop_ev v) ?_)
      refine Ev.step (fun k => by rw [impl_SameLoops.j0]) ?_
      by_cases h2 : goodS v = true
      · rw [if_pos ⟨h, h2⟩]
        exact Ev.neg (by simp [h2]) (Ev.bindk (firstLoop_ev w (good_size h)) (Ev.bindk (firstLoop_ev v (good_size h2)) (Ev.val rfl)))
      · rw [if_neg (fun e => h2 e.2)]
        exact Ev.pos (by simpa using h2) (Ev.val rfl)
    · refine Ev.neg h ?_
      rw [if_neg (fun e => h e.1)]
      refine Ev.step (fun k => by rw [impl_SameLoops.j0]) ?_
      exact Ev.pos rfl (Ev.val rfl)
def firstR (w : ByteArray) : ByteArray × Bool := if goodS w = true then (firstS w, true) else (⟨#[]⟩, false)
theorem firstI_ev (w : ByteArray) : Ev (fun k => impl_FirstLoop.f k w) (firstR w) := by
      unfold impl_FirstLoop.f firstR
      refine Ev.bindk (isLoop_ev w) ?_
      by_cases h : goodS w = true
      · refine Ev.pos h ?_
        rw [if_pos h]
        exact Ev.bindk (firstLoop_ev w (good_size h)) (Ev.val rfl)
      · refine Ev.neg h ?_
        rw [if_neg h]
        exact Ev.val rfl
def drawR (w : ByteArray) : Bool × Bool := if goodS w = true then (drawnL w (w.size / 2), true) else (false, false)
theorem drawI_ev (w : ByteArray) : Ev (fun k => impl_CanBeDrawn.f k w) (drawR w) := by
      unfold impl_CanBeDrawn.f
      refine Ev.bindk (isLoop_ev w) ?_
      by_cases h : goodS w = true
      · obtain ⟨m, hm⟩ := loop_of h
        have hl := bytesOf_length w
        have hlen := hm.len
        refine Ev.pos h ?_
        rw [drawR, if_pos h, show w.size / 2 = m by omega]
        exact Ev.bindk (canBeDrawn_ev hm) (Ev.val rfl)
      · refine Ev.neg h (Ev.val ?_)
        rw [drawR, if_neg h]
end Go.Proofs.YtcgoaipbfnhjhaaGreatDoor.M

/- A letter of a loop: the program's test and the reference's. -/
namespace Go.Proofs.YtcgoaipbfnhjhaaGreatDoor.M
open Go.RowKit Go.Proofs.YtcgoaipbfnhjhaaGreatDoorW.PrintWords Go.Proofs.YtcgoaipbfnhjhaaGreatDoor.Pr
set_option linter.unusedVariables false
set_option linter.unusedSimpArgs false

/-- Whether a text is a letter of a loop. -/
def letB (w a : ByteArray) : Bool := decide (a.size = 1) && decide (97 ≤ bt a 0 ∧ bt a 0 < 97 + ((w.size / 2 : Nat) : Int))
theorem one_bytes {a : ByteArray} (h : a.size = 1) : bytesOf a = [bt a 0] := by
  have hl := bytesOf_length a
  have e := bytesOf_get a 0 (by omega)
  match hb : bytesOf a, hl with
  | [x], _ =>
    simp only [hb] at e
    rw [show ((0 : Nat) : Int) = 0 from rfl] at e
    rw [e]
    rfl
  | [], hl => simp at hl; omega
  | x :: y :: r, hl => simp at hl; omega
theorem isLetter_ev (w a : ByteArray) : Ev (fun k => impl_isLetter.f k w a) (goodS w && letB w a) := by
  unfold impl_isLetter.f
  refine Ev.bindk (isLoop_ev w) ?_
  by_cases hg : goodS w = true
  · refine Ev.pos hg ?_
    rw [hg, Bool.true_and]
    by_cases h1 : a.size = 1
    · refine Ev.pos (by omega) ?_
      have hb := one_bytes h1
      have hh := head_byte a _ hb
      have hr := bt_range a 0
      obtain ⟨m, hm⟩ := loop_of hg
      have hl := bytesOf_length w
      have hlen := hm.len
      refine Ev.bindc (a := letB w a) ?_ (Ev.val rfl)
      unfold strings_Contains.f
      rw [if_pos hh.1, hh.2, indexB_eq w _ (by omega) (by omega)]
      congr 1
      unfold letB ixL
      rw [decide_eq_true h1, Bool.true_and, Bool.eq_iff_iff, decide_eq_true_eq, decide_eq_true_eq, show w.size / 2 = m by omega]
      constructor
      · intro h
        have hx : bt a 0 ∈ bytesOf w := by
          by_cases hx : bt a 0 ∈ bytesOf w
          · exact hx
          · rw [if_neg hx] at h; omega
        exact ⟨hm.lo _ hx, hm.hi _ hx⟩
      · intro h
        have hc := hm.cnt h.1 h.2
        rw [if_pos (List.count_pos_iff.1 (by omega))]
        omega
    · refine Ev.neg (by omega) (Ev.val ?_)
      unfold letB
      rw [decide_eq_false h1]
      rfl
  · refine Ev.neg hg (Ev.val ?_)
    cases h : goodS w with
    | true => exact absurd h hg
    | false => rfl
theorem l1In_at (n lo hi : Int) : spec_l1In.f n lo hi = some (decide (lo ≤ n ∧ n ≤ hi)) := by
  unfold spec_l1In.f
  by_cases h : n ≥ lo
  · rw [if_pos h]; congr 1; rw [Bool.eq_iff_iff]; simp; omega
  · rw [if_neg h]; congr 1; rw [Bool.eq_iff_iff]; simp; omega
theorem loLetter_eq (w a : ByteArray) (hw : w.size ≤ 16) : spec_loLetter.f w a = some (letB w a) := by
  unfold spec_loLetter.f letB
  by_cases h1 : a.size = 1
  · have hr := bt_range a 0
    rw [if_pos (by omega), if_pos (by omega), w64 (x := bt a 0) (by omega) (by omega), w64 (x := bt a 0 - 97) (by omega) (by omega), w64 (x := (w.size : Int) / 2) (by omega) (by omega), w64 (x := (w.size : Int) / 2 - 1) (by omega) (by omega), l1In_at, Option.bind_some]
    congr 1
    rw [decide_eq_true h1, Bool.true_and, Bool.eq_iff_iff, decide_eq_true_eq, decide_eq_true_eq]
    omega
  · rw [if_neg (by omega), decide_eq_false h1]
    rfl

end Go.Proofs.YtcgoaipbfnhjhaaGreatDoor.M

/- Between two bounds. -/
namespace Go.Proofs.YtcgoaipbfnhjhaaGreatDoor.M
open Go.RowKit Go.Proofs.YtcgoaipbfnhjhaaGreatDoorW.PrintWords Go.Proofs.YtcgoaipbfnhjhaaGreatDoor.Pr
set_option linter.unusedVariables false
set_option linter.unusedSimpArgs false
def inB (n lo hi : Int) : Bool := decide (lo ≤ n ∧ n ≤ hi)
theorem within_eq (n lo hi : Int) : impl_within.f n lo hi = some (inB n lo hi) := by
  unfold impl_within.f inB
  by_cases h : n ≥ lo
  · rw [if_pos h]; congr 1; rw [Bool.eq_iff_iff]; simp; omega
  · rw [if_neg h]; congr 1; rw [Bool.eq_iff_iff]; simp; omega
theorem l1In_eq (n lo hi : Int) : spec_l1In.f n lo hi = some (inB n lo hi) := within_eq n lo hi
/-- Whether there is a star of so many points, with that step. -/
def okStar (n s : Int) : Bool := decide (3 ≤ n ∧ n ≤ 60) && inB s 1 (n - 1)
end Go.Proofs.YtcgoaipbfnhjhaaGreatDoor.M
