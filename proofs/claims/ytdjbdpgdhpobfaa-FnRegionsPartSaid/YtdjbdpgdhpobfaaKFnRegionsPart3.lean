/- Regions are as many as chords and crossings and one, pieces as chords and twice the crossings, and arcs are parted as shades tell. (Part 4 of 6.) -/
import Derived.Shelf.Abstract
import Derived.Test.YtdjbdpgdhpobfaaKFnRegionsPart0
import Derived.Test.YtdjbdpgdhpobfaaKFnRegionsPart1
import Derived.Test.YtdjbdpgdhpobfaaKFnRegionsPart2
set_option linter.unusedVariables false
set_option linter.unusedSimpArgs false
namespace Go.Proofs.Ytdjbdpgdhpobfaa.Pr
open Go.RowKit Go.Proofs.YtdjbdpgdhpobfaaW.PrintWords Go.Proofs.YtdjbdpgdhpobfaaW.PrintLast Go.Proofs.YtdjbdpgdhpobfaaW.PrintMore
attribute [local go_sem] max2_int min2_int max_two min_two max_three min_three max_four min_four
attribute [local go_sem high] eqA60
def spec_srPut.l0 : Nat → List (S60) → Int → Int → Int → Option ((List (S60)))
 | 0, _, _, _, _ => none
 | k + 1, x0, x5, x264000, x264001 => if x5 < (x0.length : Int) then (if 0 ≤ x5 then ((spec_srLess.f ((rd_T60 x0 x5).f0) ((rd_T60 x0 x5).f1) x264000 x264001).bind fun t265 => (if t265 = true then (spec_srPut.l0 k x0 (wrap64 (x5 + 1)) x264000 x264001) else (if (((rd_T60 x0 x5).f0) == x264000 && (((rd_T60 x0 x5).f1) == x264001)) = true then (some x0) else ((some (([] : List (S60)) : List (S60))).bind fun y267 => (if x5 ≤ (x0.length : Int) then ((some (x0.take (x5 : Int).toNat : List (S60))).bind fun y270 => (if y267.length + y270.length < 8796093022208 then ((some (y267 ++ y270 : List (S60))).bind fun y274 => ((some (([(⟨x264000, x264001⟩ : S60)] : List (S60)) : List (S60))).bind fun y277 => (if y274.length + y277.length < 8796093022208 then ((some (y274 ++ y277 : List (S60))).bind fun y280 => ((some (x0.drop (x5 : Int).toNat : List (S60))).bind fun y283 => (if y280.length + y283.length < 8796093022208 then (some (y280 ++ y283)) else (none)))) else (none)))) else (none))) else (none)))))) else (none)) else ((some (([] : List (S60)) : List (S60))).bind fun y290 => (if 0 ≤ x5 then (if x5 ≤ (x0.length : Int) then ((some (x0.take (x5 : Int).toNat : List (S60))).bind fun y293 => (if y290.length + y293.length < 8796093022208 then ((some (y290 ++ y293 : List (S60))).bind fun y297 => ((some (([(⟨x264000, x264001⟩ : S60)] : List (S60)) : List (S60))).bind fun y300 => (if y297.length + y300.length < 8796093022208 then ((some (y297 ++ y300 : List (S60))).bind fun y303 => ((some (x0.drop (x5 : Int).toNat : List (S60))).bind fun y306 => (if y303.length + y306.length < 8796093022208 then (some (y303 ++ y306)) else (none)))) else (none)))) else (none))) else (none)) else (none)))
def spec_srPut.f (k : Nat) (l0 : List (S60)) (a1_0 : Int) (a1_1 : Int) : Option ((List (S60))) := spec_srPut.l0 k l0 0 a1_0 a1_1
theorem spec_srPut.mono_l : ∀ k, (∀ y0 y1 y2 y3, LeO (spec_srPut.l0 k y0 y1 y2 y3) (spec_srPut.l0 (k + 1) y0 y1 y2 y3))
 | 0 => fun _ _ _ _ r h => by simp [spec_srPut.l0] at h
 | k + 1 => by
  have ih0 := spec_srPut.mono_l k
  ·intro y0 y1 y2 y3
   unfold spec_srPut.l0
   repeat' first
   | (with_reducible exact ih0 _ _ _ _)
   | (with_reducible exact LeO.refl _)
   | (with_reducible exact LeO.none _)
   | (with_reducible refine LeO.ite ?_ ?_)
   | (with_reducible refine LeO.bind ?_ (fun _ => ?_))
   | exact ih0 _ _ _ _
   | exact LeO.none _
   | refine LeO.ite ?_ ?_
   | refine LeO.bind ?_ (fun _ => ?_)
theorem spec_srPut.mono : ∀ a0 a1 a2 k, LeO (spec_srPut.f k a0 a1 a2) (spec_srPut.f (k + 1) a0 a1 a2) := by
 intro a0 a1 a2 k
 have ih0 := spec_srPut.mono_l k
 unfold spec_srPut.f
 repeat' first
   | (with_reducible exact ih0 _ _ _ _)
   | (with_reducible exact LeO.refl _)
   | (with_reducible exact LeO.none _)
   | (with_reducible refine LeO.ite ?_ ?_)
   | (with_reducible refine LeO.bind ?_ (fun _ => ?_))
   | exact ih0 _ _ _ _
   | exact LeO.none _
   | refine LeO.ite ?_ ?_
   | refine LeO.bind ?_ (fun _ => ?_)
def spec_srPut.T2 : Bool × List (List Nat × List Nat) := (true, [([], []), ([], []), ([1], [1]), ([0, 2], [0, 2]), ([3], [3]), ([4], [4]), ([4], [4]), ([5, 6, 4], [4, 5, 6]), ([7, 4], [4, 7]), ([4], [4]), ([8, 9, 4, 4], [4, 8, 9]), ([4, 10], [4, 10])])
def spec_srPut.B2 : List Nat := [0, 0, 2, 7, 15, 31, 31, 127, 255, 31, 1023, 2047]
theorem spec_srPut.tab2 : rtab .any (opsOf Try.f52 2) = spec_srPut.T2 := by kernel_rfl
theorem spec_srPut.bits2 : waitsOk spec_srPut.T2.2 spec_srPut.B2 = true := by kernel_rfl
def spec_srPut.T4 : Bool × List (List Nat × List Nat) := (true, [([], []), ([], []), ([1], [1]), ([0, 2], [0, 2]), ([3], [3]), ([4], [4]), ([4], [4]), ([5, 6, 4], [4, 5, 6]), ([7, 4], [4, 7]), ([4], [4]), ([8, 9, 4], [4, 8, 9]), ([4, 10], [4, 10])])
def spec_srPut.B4 : List Nat := [0, 0, 2, 7, 15, 31, 31, 127, 255, 31, 1023, 2047]
theorem spec_srPut.tab4 : rtab .any (opsOf Try.f52 4) = spec_srPut.T4 := by kernel_rfl
theorem spec_srPut.bits4 : waitsOk spec_srPut.T4.2 spec_srPut.B4 = true := by kernel_rfl
def spec_srPut.T6 : Bool × List (List Nat × List Nat) := (true, [([], []), ([], []), ([], []), ([1, 2], [1, 2]), ([0, 3], [0, 3]), ([], []), ([5], [5]), ([4, 6, 4], [4, 6]), ([7, 7, 0, 1, 2, 3, 4, 5, 6, 7], [7])])
def spec_srPut.B6 : List Nat := [0, 0, 0, 6, 15, 0, 32, 127, 255]
theorem spec_srPut.tab6 : rtab .any (opsOf Try.f52 6) = spec_srPut.T6 := by kernel_rfl
theorem spec_srPut.bits6 : waitsOk spec_srPut.T6.2 spec_srPut.B6 = true := by kernel_rfl
set_option maxHeartbeats 8000000 in
set_option maxRecDepth 100000 in
theorem spec_srPut.calls (k : Nat) (P0_ : Nat → Prop) (u9000_ : Value) (l0 : List (S60)) (a1_0 : Int) (a1_1 : Int) (r : List (S60)) (w0 w : World) (hB : Below w0.heap.size w0 w) (ho0 : Kd.R k60 60 w w0.heap.size P0_ u9000_ l0) (h : spec_srPut.f k l0 a1_0 a1_1 = some r) :
  Calls Try.prog 52 #[u9000_, .agg #[.int .i64 a1_0, .int .i64 a1_1]] w fun e w' => ∃ v0_ : Value, e = .returned (v0_) ∧ Kd.R k60 60 w' w0.heap.size (fun k_ => (P0_ k_ ∨ w.heap.size ≤ k_)) v0_ r ∧ Below w0.heap.size w0 w' ∧ Kept w w' (fun k_ => P0_ k_) := by
 have hu60 := Try.underlying60
 have HO0 := Aside0.mk (show Kd.R k60 60 w w0.heap.size (fun k_ => (P0_ k_ ∨ w.heap.size ≤ k_)) u9000_ l0 from Kd.R_mono ho0 (fun k_ hk => (.inl hk)))
 have HK := Aside0.mk (Kept.refl w (fun k_ => P0_ k_))
 have HW0 := Aside0.mk hB.size
 have HB := Aside0.mk hB
 clear hB
 have H : (spec_srPut.l0 k l0 0 a1_0 a1_1) = some r := h
 clear h
 have H' := Aside0.mk H
 clear H
 go_enter Try.func52, Try.ntmps52
 go_wp2_with (first | ((with_reducible refine gate_dst (N := 3) rfl ?_); refine box_event ?hg (N := 3) ?hd (cs := #[.int .i64 a1_0, .int .i64 a1_1]) (t := 60) ?hr ?_; (case hd => rfl); (case hg => rfl); (case hr => first | (go_simp; done) | (go_simp; rfl)); intro gb263 hg w3 hbox hb; have n0_ := Aside0.mk (Kd.R_below (Kd.R_elderB (ra_ HO0.out) gb263 (Nat.le_of_eq hg.symm)) hb); have n1_ := Aside0.mk (Kept.below (S := (fun k_ => P0_ k_)) (by repeat (first | (with_reducible first | exact HK.out | apply Kept.alloc | apply Kept.drewN | apply Kept.drew) | exact HK.out)) hb); have n2_ := Aside0.mk (below_step hb_ hb); have n3_ := Aside0.mk (hbox); have n4_ := Aside0.mk ((by rw [hg]; exact (by first | exact HK.out.1 | exact (show Kept w _ (fun k_ => P0_ k_) from by repeat (first | (with_reducible first | exact HK.out | apply Kept.alloc | apply Kept.drewN | apply Kept.drew) | exact HK.out)).1) : w.heap.size ≤ gb263)); have n5_ := Aside0.mk ((by rw [hg]; exact (below_size hb_) : w0.heap.size ≤ gb263)); clear HO0; clear HK; clear HB; have HO0 := n0_; have HK := n1_; have HB := n2_; have BK263 := n3_; have GW263 := n4_; have GE263 := n5_; clear n0_ n1_ n2_ n3_ n4_ n5_; clear hb hbox hg))
 go_loopg [5] k (fun kq v5 w' => ∃ (x5_1 : Int), v5 = .int .i64 x5_1 ∧ Aside0 (spec_srPut.l0 kq l0 x5_1 a1_0 a1_1 = some r) ∧ Aside0 (kq ≤ k) ∧ Aside0 (Kd.R k60 60 w' w0.heap.size (fun k_ => (P0_ k_ ∨ w.heap.size ≤ k_) ∧ k_ ≠ gb263) u9000_ l0) ∧ Aside0 (w'.heap[gb263]? = some (.cells #[.int .i64 a1_0, .int .i64 a1_1] 60 (0, 0))) ∧ Aside0 (Kept w w' (fun k_ => P0_ k_)) ∧ Aside0 (Below w0.heap.size w0 w'))
 case atStart => exact ⟨(0), (by first | rfl | (simp; done) | (simp [*]; done)), H', ⟨Nat.le_refl _⟩, ⟨by (with_reducible repeat (first | apply rA | apply rN | apply rD)); exact HO0.out⟩, ⟨by (with_reducible repeat (first | refine kN ?_ _ | refine kD ?_ | refine kA ?_ _)); exact BK263.out⟩, ⟨by repeat (first | (with_reducible first | exact HK.out | apply Kept.alloc | apply Kept.drewN | apply Kept.drew | refine Kept.setCell ?_ (.inr GW263.out) _) | exact HK.out)⟩, ⟨hs_ GE263.out⟩⟩
 case round =>
  clear H'
  try clear p2
  obtain ⟨x5_1, rfl, HA, HK1, HO_0, BK263, HK, HB⟩ := hrel
  cases gk with
  | zero => exact absurd HA.out (by simp [spec_srPut.l0])
  | succ k1 =>
   have H := HA.out
   clear HA
   simp only [spec_srPut.l0] at H
   by_cases c4 : x5_1 < (l0.length : Int)
   ·rw [if_pos c4] at H
    have c4b0 : decide (x5_1 < (l0.length : Int)) = true := decide_eq_true c4
    clear c4
    by_cases c5 : 0 ≤ x5_1
    ·rw [if_pos c5] at H
     have c5b0 : decide (0 ≤ x5_1) = true := decide_eq_true c5
     clear c5
     replace H := bI H
     obtain ⟨t265, A60, H⟩ := H
     replace H : (if t265 = true then (spec_srPut.l0 k1 l0 (wrap64 (x5_1 + 1)) a1_0 a1_1) else (if (((rd_T60 l0 x5_1).f0) == a1_0 && (((rd_T60 l0 x5_1).f1) == a1_1)) = true then (some l0) else ((some (([] : List (S60)) : List (S60))).bind fun y267 => (if x5_1 ≤ (l0.length : Int) then ((some (l0.take (x5_1 : Int).toNat : List (S60))).bind fun y270 => (if y267.length + y270.length < 8796093022208 then ((some (y267 ++ y270 : List (S60))).bind fun y274 => ((some (([(⟨a1_0, a1_1⟩ : S60)] : List (S60)) : List (S60))).bind fun y277 => (if y274.length + y277.length < 8796093022208 then ((some (y274 ++ y277 : List (S60))).bind fun y280 => ((some (l0.drop (x5_1 : Int).toNat : List (S60))).bind fun y283 => (if y280.length + y283.length < 8796093022208 then (some (y280 ++ y283)) else (none)))) else (none)))) else (none))) else (none))))) = some r := H
     have A6 := Aside0.mk A60
     clear A60
     by_cases c7 : t265 = true
     ·subst c7
      have H1 : (spec_srPut.l0 k1 l0 (wrap64 (x5_1 + 1)) a1_0 a1_1) = some r := by rw [if_pos rfl] at H; exact H
      clear H
      have H := H1
      clear H1
      have H' := Aside0.mk H
      clear H
      try go_wp2
      have n0_ := Aside0.mk (Kd.R_drew HO_0.out)
      have n1_ := Aside0.mk (blk_drew BK263.out)
      have n2_ := Aside0.mk (Kept.drew HK.out)
      have n3_ := Aside0.mk (below_drew1 HB.out)
      clear HO_0
      clear BK263
      clear HK
      clear HB
      have HO_0 := n0_
      have BK263 := n1_
      have HK := n2_
      have HB := n3_
      clear n0_ n1_ n2_ n3_
      obtain ⟨Ao9, co9, eo9⟩ := Kd.R_slice HO_0.out
      (first | subst eo9 | (injection eo9 with f1_ f2_ f3_; have f4_ := f1_.symm; have f5_ := f3_.symm; clear f1_ f2_ f3_; subst f4_; subst f5_))
      have p264 : 0 ≤ (x5_1 : Int) := of_decide_eq_true (by assumption)
      have q264 : x5_1 < (l0.length : Int) := of_decide_eq_true (by assumption)
      obtain ⟨ad264, e264, hx264_0, hx264_1⟩ := at_T60 (Kd.R_reads' HO_0.out).2.2 x5_1 p264 q264
      cases e264
      replace p264 := eq_true p264
      replace q264 := eq_true q264
      refine start_ (n := 12) (S := fun w' => w'.cell? ⟨gb263, 0, none⟩ = some (.int .i64 a1_0) ∧ w'.cell? ⟨gb263, 1, none⟩ = some (.int .i64 a1_1) ∧ w'.cell? (ad264.add ((x5_1).toNat * 2)) = some (.int .i64 ((rd_T60 l0 x5_1).f0)) ∧ w'.cell? ⟨(ad264.add ((x5_1).toNat * 2)).block, (ad264.add ((x5_1).toNat * 2)).off + 1, none⟩ = some (.int .i64 ((rd_T60 l0 x5_1).f1))) (ds := []) #[false, false, false, false, false, false, false, false, false, false, false, false] (by kernel_rfl) rfl rfl ⟨bc_ BK263 0, bc_ BK263 1, hx264_0, hx264_1⟩ (fun hHeld => ?_); refine with_tabW spec_srPut.tab2 spec_srPut.bits2 (fun HT_ HW_ => ?_)
      generalize wr.drew = w8 at HO_0 BK263 HK HB hx264_0 hx264_1 hHeld ⊢
      refine pure_ (i := 0) (N := some 7) (v := ?_) (a' := ?_) #[true, false, false, false, false, false, false, false, false, false, false, false] rfl rfl (any_of HT_.out (by kernel_rfl)) (fun _ _ _ h => h) (Or.inl ⟨by rfl, ?_⟩) ?_ ?_
      rotate_left
      ·intro w'
       go_simp
       with_reducible rfl
      rotate_left
      ·simp only [Act.put, sT, sZ, sS, i64_w, i32_w]
       rfl
      refine pure_ (i := 1) (N := some 8) (v := ?_) (a' := ?_) #[true, true, false, false, false, false, false, false, false, false, false, false] rfl rfl (any_of HT_.out (by kernel_rfl)) (fun _ _ _ h => h) (Or.inl ⟨by rfl, ?_⟩) ?_ ?_
      rotate_left
      ·intro w'
       go_simp
       with_reducible rfl
      rotate_left
      ·simp only [Act.put, sT, sZ, sS, i64_w, i32_w]
       rfl
      refine pure_ (i := 2) (N := some 9) (v := ?_) (a' := ?_) #[true, true, true, false, false, false, false, false, false, false, false, false] rfl rfl (any_of HT_.out (by kernel_rfl)) (fun _ _ _ h => h) (Or.inl ⟨by rfl, ?_⟩) ?_ ?_
      rotate_left
      ·intro w'
       go_simp
       with_reducible rfl
      rotate_left
      ·simp only [Act.put, sT, sZ, sS, i64_w, i32_w]
       rfl
      refine pure_ (i := 3) (N := some 10) (v := ?_) (a' := ?_) #[true, true, true, true, false, false, false, false, false, false, false, false] rfl rfl (any_of HT_.out (by kernel_rfl)) (fun _ _ _ h => h) (Or.inl ⟨by rfl, ?_⟩) ?_ ?_
      rotate_left
      ·intro w'
       go_simp
       with_reducible rfl
      rotate_left
      ·simp only [Act.put, sT, sZ, sS, i64_w, i32_w]
       rfl
      refine pure_ (i := 4) (N := some 11) (v := ?_) (a' := ?_) #[true, true, true, true, true, false, false, false, false, false, false, false] rfl rfl (any_of HT_.out (by kernel_rfl)) (fun _ _ _ h => h) (Or.inl ⟨by rfl, ?_⟩) ?_ ?_
      rotate_left
      ·intro w'
       go_simp
       with_reducible rfl
      rotate_left
      ·simp only [Act.put, sT, sZ, sS, i64_w, i32_w]
       rfl
      refine pure_ (i := 5) (N := some 12) (v := ?_) (a' := ?_) #[true, true, true, true, true, true, false, false, false, false, false, false] rfl rfl (any_of HT_.out (by kernel_rfl)) (fun _ _ _ h => h) (Or.inl ⟨by rfl, ?_⟩) ?_ ?_
      rotate_left
      ·intro w'
       go_simp
       with_reducible rfl
      rotate_left
      ·simp only [Act.put, sT, sZ, sS, i64_w, i32_w]
       rfl
      refine pure_ (i := 6) (N := some 13) (v := ?_) (a' := ?_) #[true, true, true, true, true, true, true, false, false, false, false, false] rfl rfl (any_of HT_.out (by kernel_rfl)) (fun _ _ _ h => h) (Or.inl ⟨by rfl, ?_⟩) ?_ ?_
      rotate_left
      ·intro w'
       go_simp
       with_reducible rfl
      rotate_left
      ·simp only [Act.put, sT, sZ, sS, i64_w, i32_w]
       rfl
      refine pure_ (i := 7) (N := some 14) (v := ?_) (a' := ?_) #[true, true, true, true, true, true, true, true, false, false, false, false] rfl rfl (any_of HT_.out (by kernel_rfl)) (fun _ _ _ h => h) (Or.inl ⟨by rfl, ?_⟩) ?_ ?_
      rotate_left
      ·intro w'
       go_simp
       with_reducible rfl
      rotate_left
      ·simp only [Act.put, sT, sZ, sS, i64_w, i32_w]
       rfl
      refine take_ (i := 8) (N := some 15) (v := ?_) (a' := ?_) #[true, true, true, true, true, true, true, true, true, false, false, false] rfl rfl (take_ofW HT_.out HW_.out (by kernel_rfl)) (fun _ _ _ h => h) (Or.inl ⟨by rfl, ?_⟩) hHeld ?_ ?_
      rotate_left
      ·rintro w' ⟨s0, s1, s2, s3⟩
       go_simp
       with_reducible rfl
      rotate_left
      ·simp only [Act.put, sT, sZ, sS, i64_w, i32_w]
       rfl
      refine take_ (i := 9) (N := some 16) (v := ?_) (a' := ?_) #[true, true, true, true, true, true, true, true, true, true, false, false] rfl rfl (take_ofW HT_.out HW_.out (by kernel_rfl)) (fun _ _ _ h => h) (Or.inl ⟨by rfl, ?_⟩) hHeld ?_ ?_
      rotate_left
      ·rintro w' ⟨s0, s1, s2, s3⟩
       go_simp
       with_reducible rfl
      rotate_left
      ·simp only [Act.put, sT, sZ, sS, i64_w, i32_w]
       rfl
      refine one_ (i := 10) (N := some 17) #[true, true, true, true, true, true, true, true, true, true, true, false] rfl rfl (one_of HT_.out (by kernel_rfl)) (by decide) (fun K hK => ?_)
      refine goes_ Try.func62 (by kernel_rfl) rfl #[.agg #[.int .i64 ((rd_T60 l0 x5_1).f0), .int .i64 ((rd_T60 l0 x5_1).f1)], .agg #[.int .i64 a1_0, .int .i64 a1_1]] (by rfl) rfl rfl ar_ ?_
      with_reducible refine (spec_srLess.calls ((rd_T60 l0 x5_1).f0) ((rd_T60 l0 x5_1).f1) a1_0 a1_1 true _ A6.out).mono ?_
      rintro e w10 ⟨rfl, hb⟩
      have HS2_ := (hb.cell (World.block_lt_of_cell? _ _ (hHeld.2.2.1))).trans (hHeld.2.2.1)
      have HS3_ := (hb.cell (World.block_lt_of_cell? _ _ (hHeld.2.2.2))).trans (hHeld.2.2.2)
      refine ⟨_, rfl, ?_⟩
      have n0_ := Aside0.mk (Kd.R_below (ra_ HO_0.out) hb)
      have n1_ := Aside0.mk (blk_below (g := gb263) (o := .cells #[.int .i64 a1_0, .int .i64 a1_1] 60 (0, 0)) (kx_ BK263.out) hb)
      have n2_ := Aside0.mk (Kept.below (S := (fun k_ => P0_ k_)) (by repeat (first | (with_reducible first | exact HK.out | apply Kept.alloc | apply Kept.drewN | apply Kept.drew | refine Kept.setCell ?_ (.inr GW263.out) _) | exact HK.out)) hb)
      have n3_ := Aside0.mk (below_step (hs_ GE263.out) hb)
      clear HO_0
      clear BK263
      clear HK
      clear HB
      have HO_0 := n0_
      have BK263 := n1_
      have HK := n2_
      have HB := n3_
      clear n0_ n1_ n2_ n3_
      (try clear hb)
      (try clear hb2)
      (try clear hk)
      (try clear hi)
      refine hK.out _ _ ⟨bc_ BK263 0, bc_ BK263 1, HS2_, HS3_⟩ (fun hHeld => ?_)
      clear hK K
      refine norm_ (a' := ?_) ?_ ?_
      rotate_left
      ·show Act.put _ (some 17) _ = _
       simp only [Act.put, sT, sZ, sS, i64_w, i32_w]
       rfl
      refine pure_ (i := 11) (N := some 18) (v := ?_) (a' := ?_) #[true, true, true, true, true, true, true, true, true, true, true, true] rfl rfl (any_of HT_.out (by kernel_rfl)) (fun _ _ _ h => h) (Or.inl ⟨by rfl, ?_⟩) ?_ ?_
      rotate_left
      ·intro w'
       go_simp
       with_reducible rfl
      rotate_left
      ·simp only [Act.put, sT, sZ, sS, i64_w, i32_w]
       rfl
      refine done_ (done_of HT_.out (by kernel_rfl)) ?_
      try go_wp2
      go_roundg k1
      case measure => have := HK1.out; omega
      case rel => exact ⟨(wrap64 (x5_1 + 1)), (by first | rfl | (simp; done) | (simp [*]; done)), H', ⟨by have := HK1.out; omega⟩, ⟨by (with_reducible repeat (first | apply rA | apply rN | apply rD)); exact HO_0.out⟩, ⟨by (with_reducible repeat (first | refine kN ?_ _ | refine kD ?_ | refine kA ?_ _)); exact BK263.out⟩, ⟨by repeat (first | (with_reducible first | exact HK.out | apply Kept.alloc | apply Kept.drewN | apply Kept.drew | refine Kept.setCell ?_ (.inr GW263.out) _) | exact HK.out)⟩, ⟨hs_ GE263.out⟩⟩
     ·replace c7 := Bool.eq_false_iff.mpr c7
      subst c7
      have H1 : (if (((rd_T60 l0 x5_1).f0) == a1_0 && (((rd_T60 l0 x5_1).f1) == a1_1)) = true then (some l0) else ((some (([] : List (S60)) : List (S60))).bind fun y267 => (if x5_1 ≤ (l0.length : Int) then ((some (l0.take (x5_1 : Int).toNat : List (S60))).bind fun y270 => (if y267.length + y270.length < 8796093022208 then ((some (y267 ++ y270 : List (S60))).bind fun y274 => ((some (([(⟨a1_0, a1_1⟩ : S60)] : List (S60)) : List (S60))).bind fun y277 => (if y274.length + y277.length < 8796093022208 then ((some (y274 ++ y277 : List (S60))).bind fun y280 => ((some (l0.drop (x5_1 : Int).toNat : List (S60))).bind fun y283 => (if y280.length + y283.length < 8796093022208 then (some (y280 ++ y283)) else (none)))) else (none)))) else (none))) else (none)))) = some r := by rw [if_neg (show ¬ (false = true) by decide)] at H; exact H
      clear H
      have H := H1
      clear H1
      by_cases c11 : (((rd_T60 l0 x5_1).f0) == a1_0 && (((rd_T60 l0 x5_1).f1) == a1_1)) = true
      ·rw [if_pos c11] at H
       have c11b0 : (((rd_T60 l0 x5_1).f0) == a1_0 && (((rd_T60 l0 x5_1).f1) == a1_1)) = true := c11
       (try (have c11b1 : decide (((rd_T60 l0 x5_1).f0) = a1_0 && (((rd_T60 l0 x5_1).f1) == a1_1)) = true := by simpa using c11))
       (try (have c11b2 : (((rd_T60 l0 x5_1).f0) == a1_0 && (((rd_T60 l0 x5_1).f1) == a1_1)) = true := by simpa using c11))
       clear c11
       obtain rfl := oI H
       try go_wp2
       have n0_ := Aside0.mk (Kd.R_drew HO_0.out)
       have n1_ := Aside0.mk (blk_drew BK263.out)
       have n2_ := Aside0.mk (Kept.drew HK.out)
       have n3_ := Aside0.mk (below_drew1 HB.out)
       clear HO_0
       clear BK263
       clear HK
       clear HB
       have HO_0 := n0_
       have BK263 := n1_
       have HK := n2_
       have HB := n3_
       clear n0_ n1_ n2_ n3_
       obtain ⟨Ao13, co13, eo13⟩ := Kd.R_slice HO_0.out
       (first | subst eo13 | (injection eo13 with f1_ f2_ f3_; have f4_ := f1_.symm; have f5_ := f3_.symm; clear f1_ f2_ f3_; subst f4_; subst f5_))
       have p264 : 0 ≤ (x5_1 : Int) := of_decide_eq_true (by assumption)
       have q264 : x5_1 < (l0.length : Int) := of_decide_eq_true (by assumption)
       obtain ⟨ad264, e264, hx264_0, hx264_1⟩ := at_T60 (Kd.R_reads' HO_0.out).2.2 x5_1 p264 q264
       cases e264
       replace p264 := eq_true p264
       replace q264 := eq_true q264
       refine start_ (n := 12) (S := fun w' => w'.cell? ⟨gb263, 0, none⟩ = some (.int .i64 a1_0) ∧ w'.cell? ⟨gb263, 1, none⟩ = some (.int .i64 a1_1) ∧ w'.cell? (ad264.add ((x5_1).toNat * 2)) = some (.int .i64 ((rd_T60 l0 x5_1).f0)) ∧ w'.cell? ⟨(ad264.add ((x5_1).toNat * 2)).block, (ad264.add ((x5_1).toNat * 2)).off + 1, none⟩ = some (.int .i64 ((rd_T60 l0 x5_1).f1))) (ds := []) #[false, false, false, false, false, false, false, false, false, false, false, false] (by kernel_rfl) rfl rfl ⟨bc_ BK263 0, bc_ BK263 1, hx264_0, hx264_1⟩ (fun hHeld => ?_); refine with_tabW spec_srPut.tab2 spec_srPut.bits2 (fun HT_ HW_ => ?_)
       generalize wr.drew = w12 at HO_0 BK263 HK HB hx264_0 hx264_1 hHeld ⊢
       refine pure_ (i := 0) (N := some 7) (v := ?_) (a' := ?_) #[true, false, false, false, false, false, false, false, false, false, false, false] rfl rfl (any_of HT_.out (by kernel_rfl)) (fun _ _ _ h => h) (Or.inl ⟨by rfl, ?_⟩) ?_ ?_
       rotate_left
       ·intro w'
        go_simp
        with_reducible rfl
       rotate_left
       ·simp only [Act.put, sT, sZ, sS, i64_w, i32_w]
        rfl
       refine pure_ (i := 1) (N := some 8) (v := ?_) (a' := ?_) #[true, true, false, false, false, false, false, false, false, false, false, false] rfl rfl (any_of HT_.out (by kernel_rfl)) (fun _ _ _ h => h) (Or.inl ⟨by rfl, ?_⟩) ?_ ?_
       rotate_left
       ·intro w'
        go_simp
        with_reducible rfl
       rotate_left
       ·simp only [Act.put, sT, sZ, sS, i64_w, i32_w]
        rfl
       refine pure_ (i := 2) (N := some 9) (v := ?_) (a' := ?_) #[true, true, true, false, false, false, false, false, false, false, false, false] rfl rfl (any_of HT_.out (by kernel_rfl)) (fun _ _ _ h => h) (Or.inl ⟨by rfl, ?_⟩) ?_ ?_
       rotate_left
       ·intro w'
        go_simp
        with_reducible rfl
       rotate_left
       ·simp only [Act.put, sT, sZ, sS, i64_w, i32_w]
        rfl
       refine pure_ (i := 3) (N := some 10) (v := ?_) (a' := ?_) #[true, true, true, true, false, false, false, false, false, false, false, false] rfl rfl (any_of HT_.out (by kernel_rfl)) (fun _ _ _ h => h) (Or.inl ⟨by rfl, ?_⟩) ?_ ?_
       rotate_left
       ·intro w'
        go_simp
        with_reducible rfl
       rotate_left
       ·simp only [Act.put, sT, sZ, sS, i64_w, i32_w]
        rfl
       refine pure_ (i := 4) (N := some 11) (v := ?_) (a' := ?_) #[true, true, true, true, true, false, false, false, false, false, false, false] rfl rfl (any_of HT_.out (by kernel_rfl)) (fun _ _ _ h => h) (Or.inl ⟨by rfl, ?_⟩) ?_ ?_
       rotate_left
       ·intro w'
        go_simp
        with_reducible rfl
       rotate_left
       ·simp only [Act.put, sT, sZ, sS, i64_w, i32_w]
        rfl
       refine pure_ (i := 5) (N := some 12) (v := ?_) (a' := ?_) #[true, true, true, true, true, true, false, false, false, false, false, false] rfl rfl (any_of HT_.out (by kernel_rfl)) (fun _ _ _ h => h) (Or.inl ⟨by rfl, ?_⟩) ?_ ?_
       rotate_left
       ·intro w'
        go_simp
        with_reducible rfl
       rotate_left
       ·simp only [Act.put, sT, sZ, sS, i64_w, i32_w]
        rfl
       refine pure_ (i := 6) (N := some 13) (v := ?_) (a' := ?_) #[true, true, true, true, true, true, true, false, false, false, false, false] rfl rfl (any_of HT_.out (by kernel_rfl)) (fun _ _ _ h => h) (Or.inl ⟨by rfl, ?_⟩) ?_ ?_
       rotate_left
       ·intro w'
        go_simp
        with_reducible rfl
       rotate_left
       ·simp only [Act.put, sT, sZ, sS, i64_w, i32_w]
        rfl
       refine pure_ (i := 7) (N := some 14) (v := ?_) (a' := ?_) #[true, true, true, true, true, true, true, true, false, false, false, false] rfl rfl (any_of HT_.out (by kernel_rfl)) (fun _ _ _ h => h) (Or.inl ⟨by rfl, ?_⟩) ?_ ?_
       rotate_left
       ·intro w'
        go_simp
        with_reducible rfl
       rotate_left
       ·simp only [Act.put, sT, sZ, sS, i64_w, i32_w]
        rfl
       refine take_ (i := 8) (N := some 15) (v := ?_) (a' := ?_) #[true, true, true, true, true, true, true, true, true, false, false, false] rfl rfl (take_ofW HT_.out HW_.out (by kernel_rfl)) (fun _ _ _ h => h) (Or.inl ⟨by rfl, ?_⟩) hHeld ?_ ?_
       rotate_left
       ·rintro w' ⟨s0, s1, s2, s3⟩
        go_simp
        with_reducible rfl
       rotate_left
       ·simp only [Act.put, sT, sZ, sS, i64_w, i32_w]
        rfl
       refine take_ (i := 9) (N := some 16) (v := ?_) (a' := ?_) #[true, true, true, true, true, true, true, true, true, true, false, false] rfl rfl (take_ofW HT_.out HW_.out (by kernel_rfl)) (fun _ _ _ h => h) (Or.inl ⟨by rfl, ?_⟩) hHeld ?_ ?_
       rotate_left
       ·rintro w' ⟨s0, s1, s2, s3⟩
        go_simp
        with_reducible rfl
       rotate_left
       ·simp only [Act.put, sT, sZ, sS, i64_w, i32_w]
        rfl
       refine one_ (i := 10) (N := some 17) #[true, true, true, true, true, true, true, true, true, true, true, false] rfl rfl (one_of HT_.out (by kernel_rfl)) (by decide) (fun K hK => ?_)
       refine goes_ Try.func62 (by kernel_rfl) rfl #[.agg #[.int .i64 ((rd_T60 l0 x5_1).f0), .int .i64 ((rd_T60 l0 x5_1).f1)], .agg #[.int .i64 a1_0, .int .i64 a1_1]] (by rfl) rfl rfl ar_ ?_
       with_reducible refine (spec_srLess.calls ((rd_T60 l0 x5_1).f0) ((rd_T60 l0 x5_1).f1) a1_0 a1_1 false _ A6.out).mono ?_
       rintro e w14 ⟨rfl, hb⟩
       have HS2_ := (hb.cell (World.block_lt_of_cell? _ _ (hHeld.2.2.1))).trans (hHeld.2.2.1)
       have HS3_ := (hb.cell (World.block_lt_of_cell? _ _ (hHeld.2.2.2))).trans (hHeld.2.2.2)
       refine ⟨_, rfl, ?_⟩
       have n0_ := Aside0.mk (Kd.R_below (ra_ HO_0.out) hb)
       have n1_ := Aside0.mk (blk_below (g := gb263) (o := .cells #[.int .i64 a1_0, .int .i64 a1_1] 60 (0, 0)) (kx_ BK263.out) hb)
       have n2_ := Aside0.mk (Kept.below (S := (fun k_ => P0_ k_)) (by repeat (first | (with_reducible first | exact HK.out | apply Kept.alloc | apply Kept.drewN | apply Kept.drew | refine Kept.setCell ?_ (.inr GW263.out) _) | exact HK.out)) hb)
       have n3_ := Aside0.mk (below_step (hs_ GE263.out) hb)
       clear HO_0
       clear BK263
       clear HK
       clear HB
       have HO_0 := n0_
       have BK263 := n1_
       have HK := n2_
       have HB := n3_
       clear n0_ n1_ n2_ n3_
       (try clear hb)
       (try clear hb2)
       (try clear hk)
       (try clear hi)
       refine hK.out _ _ ⟨bc_ BK263 0, bc_ BK263 1, HS2_, HS3_⟩ (fun hHeld => ?_)
       clear hK K
       refine norm_ (a' := ?_) ?_ ?_
       rotate_left
       ·show Act.put _ (some 17) _ = _
        simp only [Act.put, sT, sZ, sS, i64_w, i32_w]
        rfl
       refine pure_ (i := 11) (N := some 18) (v := ?_) (a' := ?_) #[true, true, true, true, true, true, true, true, true, true, true, true] rfl rfl (any_of HT_.out (by kernel_rfl)) (fun _ _ _ h => h) (Or.inl ⟨by rfl, ?_⟩) ?_ ?_
       rotate_left
       ·intro w'
        go_simp
        with_reducible rfl
       rotate_left
       ·simp only [Act.put, sT, sZ, sS, i64_w, i32_w]
        rfl
       refine done_ (done_of HT_.out (by kernel_rfl)) ?_
       try go_wp2
       have n0_ := Aside0.mk (Kd.R_drew HO_0.out)
       have n1_ := Aside0.mk (blk_drew BK263.out)
       have n2_ := Aside0.mk (Kept.drew HK.out)
       have n3_ := Aside0.mk (below_drew1 HB.out)
       clear HO_0
       clear BK263
       clear HK
       clear HB
       have HO_0 := n0_
       have BK263 := n1_
       have HK := n2_
       have HB := n3_
       clear n0_ n1_ n2_ n3_
       have p266 : 0 ≤ (x5_1 : Int) := of_decide_eq_true (by assumption)
       have q266 : x5_1 < (l0.length : Int) := of_decide_eq_true (by assumption)
       obtain ⟨ad266, e266, hx266_0, hx266_1⟩ := at_T60 (Kd.R_reads' HO_0.out).2.2 x5_1 p266 q266
       obtain rfl : ad264 = ad266 := (by injection e266)
       replace p266 := eq_true p266
       replace q266 := eq_true q266
       refine start_ (n := 12) (S := fun w' => w'.cell? ⟨gb263, 0, none⟩ = some (.int .i64 a1_0) ∧ w'.cell? ⟨gb263, 1, none⟩ = some (.int .i64 a1_1) ∧ w'.cell? (ad264.add ((x5_1).toNat * 2)) = some (.int .i64 ((rd_T60 l0 x5_1).f0)) ∧ w'.cell? ⟨(ad264.add ((x5_1).toNat * 2)).block, (ad264.add ((x5_1).toNat * 2)).off + 1, none⟩ = some (.int .i64 ((rd_T60 l0 x5_1).f1))) (ds := []) #[false, false, false, false, false, false, false, false, false, false, false, false] (by kernel_rfl) rfl rfl ⟨bc_ BK263 0, bc_ BK263 1, hx266_0, hx266_1⟩ (fun hHeld => ?_); refine with_tabW spec_srPut.tab4 spec_srPut.bits4 (fun HT_ HW_ => ?_)
       generalize w14.drew = w15 at HO_0 BK263 HK HB hx266_0 hx266_1 hHeld ⊢
       refine pure_ (i := 0) (N := some 21) (v := ?_) (a' := ?_) #[true, false, false, false, false, false, false, false, false, false, false, false] rfl rfl (any_of HT_.out (by kernel_rfl)) (fun _ _ _ h => h) (Or.inl ⟨by rfl, ?_⟩) ?_ ?_
       rotate_left
       ·intro w'
        go_simp
        with_reducible rfl
       rotate_left
       ·simp only [Act.put, sT, sZ, sS, i64_w, i32_w]
        rfl
       refine pure_ (i := 1) (N := some 22) (v := ?_) (a' := ?_) #[true, true, false, false, false, false, false, false, false, false, false, false] rfl rfl (any_of HT_.out (by kernel_rfl)) (fun _ _ _ h => h) (Or.inl ⟨by rfl, ?_⟩) ?_ ?_
       rotate_left
       ·intro w'
        go_simp
        with_reducible rfl
       rotate_left
       ·simp only [Act.put, sT, sZ, sS, i64_w, i32_w]
        rfl
       refine pure_ (i := 2) (N := some 23) (v := ?_) (a' := ?_) #[true, true, true, false, false, false, false, false, false, false, false, false] rfl rfl (any_of HT_.out (by kernel_rfl)) (fun _ _ _ h => h) (Or.inl ⟨by rfl, ?_⟩) ?_ ?_
       rotate_left
       ·intro w'
        go_simp
        with_reducible rfl
       rotate_left
       ·simp only [Act.put, sT, sZ, sS, i64_w, i32_w]
        rfl
       refine pure_ (i := 3) (N := some 24) (v := ?_) (a' := ?_) #[true, true, true, true, false, false, false, false, false, false, false, false] rfl rfl (any_of HT_.out (by kernel_rfl)) (fun _ _ _ h => h) (Or.inl ⟨by rfl, ?_⟩) ?_ ?_
       rotate_left
       ·intro w'
        go_simp
        with_reducible rfl
       rotate_left
       ·simp only [Act.put, sT, sZ, sS, i64_w, i32_w]
        rfl
       refine pure_ (i := 4) (N := some 25) (v := ?_) (a' := ?_) #[true, true, true, true, true, false, false, false, false, false, false, false] rfl rfl (any_of HT_.out (by kernel_rfl)) (fun _ _ _ h => h) (Or.inl ⟨by rfl, ?_⟩) ?_ ?_
       rotate_left
       ·intro w'
        go_simp
        with_reducible rfl
       rotate_left
       ·simp only [Act.put, sT, sZ, sS, i64_w, i32_w]
        rfl
       refine pure_ (i := 5) (N := some 26) (v := ?_) (a' := ?_) #[true, true, true, true, true, true, false, false, false, false, false, false] rfl rfl (any_of HT_.out (by kernel_rfl)) (fun _ _ _ h => h) (Or.inl ⟨by rfl, ?_⟩) ?_ ?_
       rotate_left
       ·intro w'
        go_simp
        with_reducible rfl
       rotate_left
       ·simp only [Act.put, sT, sZ, sS, i64_w, i32_w]
        rfl
       refine pure_ (i := 6) (N := some 27) (v := ?_) (a' := ?_) #[true, true, true, true, true, true, true, false, false, false, false, false] rfl rfl (any_of HT_.out (by kernel_rfl)) (fun _ _ _ h => h) (Or.inl ⟨by rfl, ?_⟩) ?_ ?_
       rotate_left
       ·intro w'
        go_simp
        with_reducible rfl
       rotate_left
       ·simp only [Act.put, sT, sZ, sS, i64_w, i32_w]
        rfl
       refine pure_ (i := 7) (N := some 28) (v := ?_) (a' := ?_) #[true, true, true, true, true, true, true, true, false, false, false, false] rfl rfl (any_of HT_.out (by kernel_rfl)) (fun _ _ _ h => h) (Or.inl ⟨by rfl, ?_⟩) ?_ ?_
       rotate_left
       ·intro w'
        go_simp
        with_reducible rfl
       rotate_left
       ·simp only [Act.put, sT, sZ, sS, i64_w, i32_w]
        rfl
       refine take_ (i := 8) (N := some 29) (v := ?_) (a' := ?_) #[true, true, true, true, true, true, true, true, true, false, false, false] rfl rfl (take_ofW HT_.out HW_.out (by kernel_rfl)) (fun _ _ _ h => h) (Or.inl ⟨by rfl, ?_⟩) hHeld ?_ ?_
       rotate_left
       ·rintro w' ⟨s0, s1, s2, s3⟩
        go_simp
        with_reducible rfl
       rotate_left
       ·simp only [Act.put, sT, sZ, sS, i64_w, i32_w]
        rfl
       refine take_ (i := 9) (N := some 30) (v := ?_) (a' := ?_) #[true, true, true, true, true, true, true, true, true, true, false, false] rfl rfl (take_ofW HT_.out HW_.out (by kernel_rfl)) (fun _ _ _ h => h) (Or.inl ⟨by rfl, ?_⟩) hHeld ?_ ?_
       rotate_left
       ·rintro w' ⟨s0, s1, s2, s3⟩
        go_simp
        with_reducible rfl
       rotate_left
       ·simp only [Act.put, sT, sZ, sS, i64_w, i32_w]
        rfl
       refine pure_ (i := 10) (N := some 31) (v := ?_) (a' := ?_) #[true, true, true, true, true, true, true, true, true, true, true, false] rfl rfl (any_of HT_.out (by kernel_rfl)) (fun _ _ _ h => h) (Or.inl ⟨by rfl, ?_⟩) ?_ ?_
       rotate_left
       ·intro w'
        go_simp
        with_reducible rfl
       rotate_left
       ·simp only [Act.put, sT, sZ, sS, i64_w, i32_w]
        rfl
       refine pure_ (i := 11) (N := some 32) (v := ?_) (a' := ?_) #[true, true, true, true, true, true, true, true, true, true, true, true] rfl rfl (any_of HT_.out (by kernel_rfl)) (fun _ _ _ h => h) (Or.inl ⟨by rfl, ?_⟩) ?_ ?_
       rotate_left
       ·intro w'
        go_simp
        with_reducible rfl
       rotate_left
       ·simp only [Act.put, sT, sZ, sS, i64_w, i32_w]
        rfl
       refine done_ (done_of HT_.out (by kernel_rfl)) ?_
       try go_wp2
       go_ret
       exact ⟨_, by first | rfl | (simp [errW_none, errW_some] <;> rfl) | (simp [*, errW_none, errW_some] <;> rfl), by (with_reducible repeat (first | apply rA | apply rN | apply rD)); exact Kd.R_mono HO_0.out (fun _ hk => hk.1), hs_ GE263.out, by repeat (first | (with_reducible first | exact HK.out | apply Kept.alloc | apply Kept.drewN | apply Kept.drew | refine Kept.setCell ?_ (.inr GW263.out) _) | exact HK.out)⟩
      ·rw [if_neg c11] at H
       have c11b0 : (((rd_T60 l0 x5_1).f0) == a1_0 && (((rd_T60 l0 x5_1).f1) == a1_1)) = false := by simpa using c11
       (try (have c11b1 : decide (((rd_T60 l0 x5_1).f0) = a1_0 && (((rd_T60 l0 x5_1).f1) == a1_1)) = false := by simpa using c11))
       (try (have c11b2 : (((rd_T60 l0 x5_1).f0) == a1_0 && (((rd_T60 l0 x5_1).f1) == a1_1)) = false := by simpa using c11))
       (try (have c11b3 : ¬ (((rd_T60 l0 x5_1).f0) = a1_0 && (((rd_T60 l0 x5_1).f1) == a1_1)) := by simpa using c11))
       clear c11
       obtain ⟨y267, hy267⟩ : ∃ y_ : List (S60), y_ = (([] : List (S60))) := ⟨_, rfl⟩
       replace H : (if x5_1 ≤ (l0.length : Int) then ((some (l0.take (x5_1 : Int).toNat : List (S60))).bind fun y270 => (if y267.length + y270.length < 8796093022208 then ((some (y267 ++ y270 : List (S60))).bind fun y274 => ((some (([(⟨a1_0, a1_1⟩ : S60)] : List (S60)) : List (S60))).bind fun y277 => (if y274.length + y277.length < 8796093022208 then ((some (y274 ++ y277 : List (S60))).bind fun y280 => ((some (l0.drop (x5_1 : Int).toNat : List (S60))).bind fun y283 => (if y280.length + y283.length < 8796093022208 then (some (y280 ++ y283)) else (none)))) else (none)))) else (none))) else (none)) = some r := by first | (rw [hy267]; with_reducible exact H) | (have H2_ := (Option.bind_some _ _).symm.trans H; rw [hy267]; with_reducible exact H2_) | (have H2_ := (Option.bind_some _ _).symm.trans H; with_reducible exact H2_) | with_reducible exact H | (rw [hy267]; exact H) | exact H
       have Ny267 := Aside0.mk hy267
       clear hy267
       have c16b0 := eq_true (of_decide_eq_true (by assumption) : 0 ≤ x5_1)
       by_cases c17 : x5_1 ≤ (l0.length : Int)
       ·rw [if_pos c17] at H
        have c17b0 := eq_true c17
        have c17b1 : decide (x5_1 ≤ (l0.length : Int)) = true := decide_eq_true c17
        clear c17
        obtain ⟨y270, hy270⟩ : ∃ y_ : List (S60), y_ = (l0.take (x5_1 : Int).toNat) := ⟨_, rfl⟩
        replace H : (if y267.length + y270.length < 8796093022208 then ((some (y267 ++ y270 : List (S60))).bind fun y274 => ((some (([(⟨a1_0, a1_1⟩ : S60)] : List (S60)) : List (S60))).bind fun y277 => (if y274.length + y277.length < 8796093022208 then ((some (y274 ++ y277 : List (S60))).bind fun y280 => ((some (l0.drop (x5_1 : Int).toNat : List (S60))).bind fun y283 => (if y280.length + y283.length < 8796093022208 then (some (y280 ++ y283)) else (none)))) else (none)))) else (none)) = some r := by first | (rw [hy270]; with_reducible exact H) | (have H2_ := (Option.bind_some _ _).symm.trans H; rw [hy270]; with_reducible exact H2_) | (have H2_ := (Option.bind_some _ _).symm.trans H; with_reducible exact H2_) | with_reducible exact H | (rw [hy270]; exact H) | exact H
        have Ny270 := Aside0.mk hy270
        clear hy270
        by_cases c18 : y267.length + y270.length < 8796093022208
        ·rw [if_pos c18] at H
         have LMc18 := Aside0.mk c18
         clear c18
         obtain ⟨y274, hy274⟩ : ∃ y_ : List (S60), y_ = (y267 ++ y270) := ⟨_, rfl⟩
         replace H : ((some (([(⟨a1_0, a1_1⟩ : S60)] : List (S60)) : List (S60))).bind fun y277 => (if y274.length + y277.length < 8796093022208 then ((some (y274 ++ y277 : List (S60))).bind fun y280 => ((some (l0.drop (x5_1 : Int).toNat : List (S60))).bind fun y283 => (if y280.length + y283.length < 8796093022208 then (some (y280 ++ y283)) else (none)))) else (none))) = some r := by first | (rw [hy274]; with_reducible exact H) | (have H2_ := (Option.bind_some _ _).symm.trans H; rw [hy274]; with_reducible exact H2_) | (have H2_ := (Option.bind_some _ _).symm.trans H; with_reducible exact H2_) | with_reducible exact H | (rw [hy274]; exact H) | exact H
         have Ny274 := Aside0.mk hy274
         clear hy274
         obtain ⟨y277, hy277⟩ : ∃ y_ : List (S60), y_ = (([(⟨a1_0, a1_1⟩ : S60)] : List (S60))) := ⟨_, rfl⟩
         replace H : (if y274.length + y277.length < 8796093022208 then ((some (y274 ++ y277 : List (S60))).bind fun y280 => ((some (l0.drop (x5_1 : Int).toNat : List (S60))).bind fun y283 => (if y280.length + y283.length < 8796093022208 then (some (y280 ++ y283)) else (none)))) else (none)) = some r := by first | (rw [hy277]; with_reducible exact H) | (have H2_ := (Option.bind_some _ _).symm.trans H; rw [hy277]; with_reducible exact H2_) | (have H2_ := (Option.bind_some _ _).symm.trans H; with_reducible exact H2_) | with_reducible exact H | (rw [hy277]; exact H) | exact H
         have Ny277 := Aside0.mk hy277
         clear hy277
         by_cases c19 : y274.length + y277.length < 8796093022208
         ·rw [if_pos c19] at H
          have LMc19 := Aside0.mk c19
          clear c19
          obtain ⟨y280, hy280⟩ : ∃ y_ : List (S60), y_ = (y274 ++ y277) := ⟨_, rfl⟩
          replace H : ((some (l0.drop (x5_1 : Int).toNat : List (S60))).bind fun y283 => (if y280.length + y283.length < 8796093022208 then (some (y280 ++ y283)) else (none))) = some r := by first | (rw [hy280]; with_reducible exact H) | (have H2_ := (Option.bind_some _ _).symm.trans H; rw [hy280]; with_reducible exact H2_) | (have H2_ := (Option.bind_some _ _).symm.trans H; with_reducible exact H2_) | with_reducible exact H | (rw [hy280]; exact H) | exact H
          have Ny280 := Aside0.mk hy280
          clear hy280
          have c20b0 := eq_true (of_decide_eq_true (by assumption) : 0 ≤ x5_1)
          have c21b0 := eq_true (of_decide_eq_true (by assumption) : x5_1 ≤ (l0.length : Int))
          obtain ⟨y283, hy283⟩ : ∃ y_ : List (S60), y_ = (l0.drop (x5_1 : Int).toNat) := ⟨_, rfl⟩
          replace H : (if y280.length + y283.length < 8796093022208 then (some (y280 ++ y283)) else (none)) = some r := by first | (rw [hy283]; with_reducible exact H) | (have H2_ := (Option.bind_some _ _).symm.trans H; rw [hy283]; with_reducible exact H2_) | (have H2_ := (Option.bind_some _ _).symm.trans H; with_reducible exact H2_) | with_reducible exact H | (rw [hy283]; exact H) | exact H
          have Ny283 := Aside0.mk hy283
          clear hy283
          by_cases c22 : y280.length + y283.length < 8796093022208
          ·rw [if_pos c22] at H
           have LMc22 := Aside0.mk c22
           clear c22
           obtain ⟨y287, hy287⟩ : ∃ y_ : List (S60), y_ = (y280 ++ y283) := ⟨_, rfl⟩
           replace H : (some y287) = some r := by first | (rw [hy287]; with_reducible exact H) | (have H2_ := (Option.bind_some _ _).symm.trans H; rw [hy287]; with_reducible exact H2_) | (have H2_ := (Option.bind_some _ _).symm.trans H; with_reducible exact H2_) | with_reducible exact H | (rw [hy287]; exact H) | exact H
           have Ny287 := Aside0.mk hy287
           clear hy287
           obtain rfl := oI H
           try go_wp2
           have n0_ := Aside0.mk (Kd.R_drew HO_0.out)
           have n1_ := Aside0.mk (blk_drew BK263.out)
           have n2_ := Aside0.mk (Kept.drew HK.out)
           have n3_ := Aside0.mk (below_drew1 HB.out)
           clear HO_0
           clear BK263
           clear HK
           clear HB
           have HO_0 := n0_
           have BK263 := n1_
           have HK := n2_
           have HB := n3_
           clear n0_ n1_ n2_ n3_
           obtain ⟨Ao24, co24, eo24⟩ := Kd.R_slice HO_0.out
           (first | subst eo24 | (injection eo24 with f1_ f2_ f3_; have f4_ := f1_.symm; have f5_ := f3_.symm; clear f1_ f2_ f3_; subst f4_; subst f5_))
           have p264 : 0 ≤ (x5_1 : Int) := of_decide_eq_true (by assumption)
           have q264 : x5_1 < (l0.length : Int) := of_decide_eq_true (by assumption)
           obtain ⟨ad264, e264, hx264_0, hx264_1⟩ := at_T60 (Kd.R_reads' HO_0.out).2.2 x5_1 p264 q264
           cases e264
           replace p264 := eq_true p264
           replace q264 := eq_true q264
           refine start_ (n := 12) (S := fun w' => w'.cell? ⟨gb263, 0, none⟩ = some (.int .i64 a1_0) ∧ w'.cell? ⟨gb263, 1, none⟩ = some (.int .i64 a1_1) ∧ w'.cell? (ad264.add ((x5_1).toNat * 2)) = some (.int .i64 ((rd_T60 l0 x5_1).f0)) ∧ w'.cell? ⟨(ad264.add ((x5_1).toNat * 2)).block, (ad264.add ((x5_1).toNat * 2)).off + 1, none⟩ = some (.int .i64 ((rd_T60 l0 x5_1).f1))) (ds := []) #[false, false, false, false, false, false, false, false, false, false, false, false] (by kernel_rfl) rfl rfl ⟨bc_ BK263 0, bc_ BK263 1, hx264_0, hx264_1⟩ (fun hHeld => ?_); refine with_tabW spec_srPut.tab2 spec_srPut.bits2 (fun HT_ HW_ => ?_)
           generalize wr.drew = w23 at HO_0 BK263 HK HB hx264_0 hx264_1 hHeld ⊢
           refine pure_ (i := 0) (N := some 7) (v := ?_) (a' := ?_) #[true, false, false, false, false, false, false, false, false, false, false, false] rfl rfl (any_of HT_.out (by kernel_rfl)) (fun _ _ _ h => h) (Or.inl ⟨by rfl, ?_⟩) ?_ ?_
           rotate_left
           ·intro w'
            go_simp
            with_reducible rfl
           rotate_left
           ·simp only [Act.put, sT, sZ, sS, i64_w, i32_w]
            rfl
           refine pure_ (i := 1) (N := some 8) (v := ?_) (a' := ?_) #[true, true, false, false, false, false, false, false, false, false, false, false] rfl rfl (any_of HT_.out (by kernel_rfl)) (fun _ _ _ h => h) (Or.inl ⟨by rfl, ?_⟩) ?_ ?_
           rotate_left
           ·intro w'
            go_simp
            with_reducible rfl
           rotate_left
           ·simp only [Act.put, sT, sZ, sS, i64_w, i32_w]
            rfl
           refine pure_ (i := 2) (N := some 9) (v := ?_) (a' := ?_) #[true, true, true, false, false, false, false, false, false, false, false, false] rfl rfl (any_of HT_.out (by kernel_rfl)) (fun _ _ _ h => h) (Or.inl ⟨by rfl, ?_⟩) ?_ ?_
           rotate_left
           ·intro w'
            go_simp
            with_reducible rfl
           rotate_left
           ·simp only [Act.put, sT, sZ, sS, i64_w, i32_w]
            rfl
           refine pure_ (i := 3) (N := some 10) (v := ?_) (a' := ?_) #[true, true, true, true, false, false, false, false, false, false, false, false] rfl rfl (any_of HT_.out (by kernel_rfl)) (fun _ _ _ h => h) (Or.inl ⟨by rfl, ?_⟩) ?_ ?_
           rotate_left
           ·intro w'
            go_simp
            with_reducible rfl
           rotate_left
           ·simp only [Act.put, sT, sZ, sS, i64_w, i32_w]
            rfl
           refine pure_ (i := 4) (N := some 11) (v := ?_) (a' := ?_) #[true, true, true, true, true, false, false, false, false, false, false, false] rfl rfl (any_of HT_.out (by kernel_rfl)) (fun _ _ _ h => h) (Or.inl ⟨by rfl, ?_⟩) ?_ ?_
           rotate_left
           ·intro w'
            go_simp
            with_reducible rfl
           rotate_left
           ·simp only [Act.put, sT, sZ, sS, i64_w, i32_w]
            rfl
           refine pure_ (i := 5) (N := some 12) (v := ?_) (a' := ?_) #[true, true, true, true, true, true, false, false, false, false, false, false] rfl rfl (any_of HT_.out (by kernel_rfl)) (fun _ _ _ h => h) (Or.inl ⟨by rfl, ?_⟩) ?_ ?_
           rotate_left
           ·intro w'
            go_simp
            with_reducible rfl
           rotate_left
           ·simp only [Act.put, sT, sZ, sS, i64_w, i32_w]
            rfl
           refine pure_ (i := 6) (N := some 13) (v := ?_) (a' := ?_) #[true, true, true, true, true, true, true, false, false, false, false, false] rfl rfl (any_of HT_.out (by kernel_rfl)) (fun _ _ _ h => h) (Or.inl ⟨by rfl, ?_⟩) ?_ ?_
           rotate_left
           ·intro w'
            go_simp
            with_reducible rfl
           rotate_left
           ·simp only [Act.put, sT, sZ, sS, i64_w, i32_w]
            rfl
           refine pure_ (i := 7) (N := some 14) (v := ?_) (a' := ?_) #[true, true, true, true, true, true, true, true, false, false, false, false] rfl rfl (any_of HT_.out (by kernel_rfl)) (fun _ _ _ h => h) (Or.inl ⟨by rfl, ?_⟩) ?_ ?_
           rotate_left
           ·intro w'
            go_simp
            with_reducible rfl
           rotate_left
           ·simp only [Act.put, sT, sZ, sS, i64_w, i32_w]
            rfl
           refine take_ (i := 8) (N := some 15) (v := ?_) (a' := ?_) #[true, true, true, true, true, true, true, true, true, false, false, false] rfl rfl (take_ofW HT_.out HW_.out (by kernel_rfl)) (fun _ _ _ h => h) (Or.inl ⟨by rfl, ?_⟩) hHeld ?_ ?_
           rotate_left
           ·rintro w' ⟨s0, s1, s2, s3⟩
            go_simp
            with_reducible rfl
           rotate_left
           ·simp only [Act.put, sT, sZ, sS, i64_w, i32_w]
            rfl
           refine take_ (i := 9) (N := some 16) (v := ?_) (a' := ?_) #[true, true, true, true, true, true, true, true, true, true, false, false] rfl rfl (take_ofW HT_.out HW_.out (by kernel_rfl)) (fun _ _ _ h => h) (Or.inl ⟨by rfl, ?_⟩) hHeld ?_ ?_
           rotate_left
           ·rintro w' ⟨s0, s1, s2, s3⟩
            go_simp
            with_reducible rfl
           rotate_left
           ·simp only [Act.put, sT, sZ, sS, i64_w, i32_w]
            rfl
           refine one_ (i := 10) (N := some 17) #[true, true, true, true, true, true, true, true, true, true, true, false] rfl rfl (one_of HT_.out (by kernel_rfl)) (by decide) (fun K hK => ?_)
           refine goes_ Try.func62 (by kernel_rfl) rfl #[.agg #[.int .i64 ((rd_T60 l0 x5_1).f0), .int .i64 ((rd_T60 l0 x5_1).f1)], .agg #[.int .i64 a1_0, .int .i64 a1_1]] (by rfl) rfl rfl ar_ ?_
           with_reducible refine (spec_srLess.calls ((rd_T60 l0 x5_1).f0) ((rd_T60 l0 x5_1).f1) a1_0 a1_1 false _ A6.out).mono ?_
           rintro e w25 ⟨rfl, hb⟩
           have HS2_ := (hb.cell (World.block_lt_of_cell? _ _ (hHeld.2.2.1))).trans (hHeld.2.2.1)
           have HS3_ := (hb.cell (World.block_lt_of_cell? _ _ (hHeld.2.2.2))).trans (hHeld.2.2.2)
           refine ⟨_, rfl, ?_⟩
           have n0_ := Aside0.mk (Kd.R_below (ra_ HO_0.out) hb)
           have n1_ := Aside0.mk (blk_below (g := gb263) (o := .cells #[.int .i64 a1_0, .int .i64 a1_1] 60 (0, 0)) (kx_ BK263.out) hb)
           have n2_ := Aside0.mk (Kept.below (S := (fun k_ => P0_ k_)) (by repeat (first | (with_reducible first | exact HK.out | apply Kept.alloc | apply Kept.drewN | apply Kept.drew | refine Kept.setCell ?_ (.inr GW263.out) _) | exact HK.out)) hb)
           have n3_ := Aside0.mk (below_step (hs_ GE263.out) hb)
           clear HO_0
           clear BK263
           clear HK
           clear HB
           have HO_0 := n0_
           have BK263 := n1_
           have HK := n2_
           have HB := n3_
           clear n0_ n1_ n2_ n3_
           (try clear hb)
           (try clear hb2)
           (try clear hk)
           (try clear hi)
           refine hK.out _ _ ⟨bc_ BK263 0, bc_ BK263 1, HS2_, HS3_⟩ (fun hHeld => ?_)
           clear hK K
           refine norm_ (a' := ?_) ?_ ?_
           rotate_left
           ·show Act.put _ (some 17) _ = _
            simp only [Act.put, sT, sZ, sS, i64_w, i32_w]
            rfl
           refine pure_ (i := 11) (N := some 18) (v := ?_) (a' := ?_) #[true, true, true, true, true, true, true, true, true, true, true, true] rfl rfl (any_of HT_.out (by kernel_rfl)) (fun _ _ _ h => h) (Or.inl ⟨by rfl, ?_⟩) ?_ ?_
           rotate_left
           ·intro w'
            go_simp
            with_reducible rfl
           rotate_left
           ·simp only [Act.put, sT, sZ, sS, i64_w, i32_w]
            rfl
           refine done_ (done_of HT_.out (by kernel_rfl)) ?_
           try go_wp2
           have n0_ := Aside0.mk (Kd.R_drew HO_0.out)
           have n1_ := Aside0.mk (blk_drew BK263.out)
           have n2_ := Aside0.mk (Kept.drew HK.out)
           have n3_ := Aside0.mk (below_drew1 HB.out)
           clear HO_0
           clear BK263
           clear HK
           clear HB
           have HO_0 := n0_
           have BK263 := n1_
           have HK := n2_
           have HB := n3_
           clear n0_ n1_ n2_ n3_
           have p266 : 0 ≤ (x5_1 : Int) := of_decide_eq_true (by assumption)
           have q266 : x5_1 < (l0.length : Int) := of_decide_eq_true (by assumption)
           obtain ⟨ad266, e266, hx266_0, hx266_1⟩ := at_T60 (Kd.R_reads' HO_0.out).2.2 x5_1 p266 q266
           obtain rfl : ad264 = ad266 := (by injection e266)
           replace p266 := eq_true p266
           replace q266 := eq_true q266
           refine start_ (n := 12) (S := fun w' => w'.cell? ⟨gb263, 0, none⟩ = some (.int .i64 a1_0) ∧ w'.cell? ⟨gb263, 1, none⟩ = some (.int .i64 a1_1) ∧ w'.cell? (ad264.add ((x5_1).toNat * 2)) = some (.int .i64 ((rd_T60 l0 x5_1).f0)) ∧ w'.cell? ⟨(ad264.add ((x5_1).toNat * 2)).block, (ad264.add ((x5_1).toNat * 2)).off + 1, none⟩ = some (.int .i64 ((rd_T60 l0 x5_1).f1))) (ds := []) #[false, false, false, false, false, false, false, false, false, false, false, false] (by kernel_rfl) rfl rfl ⟨bc_ BK263 0, bc_ BK263 1, hx266_0, hx266_1⟩ (fun hHeld => ?_); refine with_tabW spec_srPut.tab4 spec_srPut.bits4 (fun HT_ HW_ => ?_)
           generalize w25.drew = w26 at HO_0 BK263 HK HB hx266_0 hx266_1 hHeld ⊢
           refine pure_ (i := 0) (N := some 21) (v := ?_) (a' := ?_) #[true, false, false, false, false, false, false, false, false, false, false, false] rfl rfl (any_of HT_.out (by kernel_rfl)) (fun _ _ _ h => h) (Or.inl ⟨by rfl, ?_⟩) ?_ ?_
           rotate_left
           ·intro w'
            go_simp
            with_reducible rfl
           rotate_left
           ·simp only [Act.put, sT, sZ, sS, i64_w, i32_w]
            rfl
           refine pure_ (i := 1) (N := some 22) (v := ?_) (a' := ?_) #[true, true, false, false, false, false, false, false, false, false, false, false] rfl rfl (any_of HT_.out (by kernel_rfl)) (fun _ _ _ h => h) (Or.inl ⟨by rfl, ?_⟩) ?_ ?_
           rotate_left
           ·intro w'
            go_simp
            with_reducible rfl
           rotate_left
           ·simp only [Act.put, sT, sZ, sS, i64_w, i32_w]
            rfl
           refine pure_ (i := 2) (N := some 23) (v := ?_) (a' := ?_) #[true, true, true, false, false, false, false, false, false, false, false, false] rfl rfl (any_of HT_.out (by kernel_rfl)) (fun _ _ _ h => h) (Or.inl ⟨by rfl, ?_⟩) ?_ ?_
           rotate_left
           ·intro w'
            go_simp
            with_reducible rfl
           rotate_left
           ·simp only [Act.put, sT, sZ, sS, i64_w, i32_w]
            rfl
           refine pure_ (i := 3) (N := some 24) (v := ?_) (a' := ?_) #[true, true, true, true, false, false, false, false, false, false, false, false] rfl rfl (any_of HT_.out (by kernel_rfl)) (fun _ _ _ h => h) (Or.inl ⟨by rfl, ?_⟩) ?_ ?_
           rotate_left
           ·intro w'
            go_simp
            with_reducible rfl
           rotate_left
           ·simp only [Act.put, sT, sZ, sS, i64_w, i32_w]
            rfl
           refine pure_ (i := 4) (N := some 25) (v := ?_) (a' := ?_) #[true, true, true, true, true, false, false, false, false, false, false, false] rfl rfl (any_of HT_.out (by kernel_rfl)) (fun _ _ _ h => h) (Or.inl ⟨by rfl, ?_⟩) ?_ ?_
           rotate_left
           ·intro w'
            go_simp
            with_reducible rfl
           rotate_left
           ·simp only [Act.put, sT, sZ, sS, i64_w, i32_w]
            rfl
           refine pure_ (i := 5) (N := some 26) (v := ?_) (a' := ?_) #[true, true, true, true, true, true, false, false, false, false, false, false] rfl rfl (any_of HT_.out (by kernel_rfl)) (fun _ _ _ h => h) (Or.inl ⟨by rfl, ?_⟩) ?_ ?_
           rotate_left
           ·intro w'
            go_simp
            with_reducible rfl
           rotate_left
           ·simp only [Act.put, sT, sZ, sS, i64_w, i32_w]
            rfl
           refine pure_ (i := 6) (N := some 27) (v := ?_) (a' := ?_) #[true, true, true, true, true, true, true, false, false, false, false, false] rfl rfl (any_of HT_.out (by kernel_rfl)) (fun _ _ _ h => h) (Or.inl ⟨by rfl, ?_⟩) ?_ ?_
           rotate_left
           ·intro w'
            go_simp
            with_reducible rfl
           rotate_left
           ·simp only [Act.put, sT, sZ, sS, i64_w, i32_w]
            rfl
           refine pure_ (i := 7) (N := some 28) (v := ?_) (a' := ?_) #[true, true, true, true, true, true, true, true, false, false, false, false] rfl rfl (any_of HT_.out (by kernel_rfl)) (fun _ _ _ h => h) (Or.inl ⟨by rfl, ?_⟩) ?_ ?_
           rotate_left
           ·intro w'
            go_simp
            with_reducible rfl
           rotate_left
           ·simp only [Act.put, sT, sZ, sS, i64_w, i32_w]
            rfl
           refine take_ (i := 8) (N := some 29) (v := ?_) (a' := ?_) #[true, true, true, true, true, true, true, true, true, false, false, false] rfl rfl (take_ofW HT_.out HW_.out (by kernel_rfl)) (fun _ _ _ h => h) (Or.inl ⟨by rfl, ?_⟩) hHeld ?_ ?_
           rotate_left
           ·rintro w' ⟨s0, s1, s2, s3⟩
            go_simp
            with_reducible rfl
           rotate_left
           ·simp only [Act.put, sT, sZ, sS, i64_w, i32_w]
            rfl
           refine take_ (i := 9) (N := some 30) (v := ?_) (a' := ?_) #[true, true, true, true, true, true, true, true, true, true, false, false] rfl rfl (take_ofW HT_.out HW_.out (by kernel_rfl)) (fun _ _ _ h => h) (Or.inl ⟨by rfl, ?_⟩) hHeld ?_ ?_
           rotate_left
           ·rintro w' ⟨s0, s1, s2, s3⟩
            go_simp
            with_reducible rfl
           rotate_left
           ·simp only [Act.put, sT, sZ, sS, i64_w, i32_w]
            rfl
           refine pure_ (i := 10) (N := some 31) (v := ?_) (a' := ?_) #[true, true, true, true, true, true, true, true, true, true, true, false] rfl rfl (any_of HT_.out (by kernel_rfl)) (fun _ _ _ h => h) (Or.inl ⟨by rfl, ?_⟩) ?_ ?_
           rotate_left
           ·intro w'
            go_simp
            with_reducible rfl
           rotate_left
           ·simp only [Act.put, sT, sZ, sS, i64_w, i32_w]
            rfl
           refine pure_ (i := 11) (N := some 32) (v := ?_) (a' := ?_) #[true, true, true, true, true, true, true, true, true, true, true, true] rfl rfl (any_of HT_.out (by kernel_rfl)) (fun _ _ _ h => h) (Or.inl ⟨by rfl, ?_⟩) ?_ ?_
           rotate_left
           ·intro w'
            go_simp
            with_reducible rfl
           rotate_left
           ·simp only [Act.put, sT, sZ, sS, i64_w, i32_w]
            rfl
           refine done_ (done_of HT_.out (by kernel_rfl)) ?_
           try go_wp2
           have n0_ := Aside0.mk (Kd.R_drew HO_0.out)
           have n1_ := Aside0.mk (blk_drew BK263.out)
           have n2_ := Aside0.mk (Kept.drew HK.out)
           have n3_ := Aside0.mk (below_drew1 HB.out)
           clear HO_0
           clear BK263
           clear HK
           clear HB
           have HO_0 := n0_
           have BK263 := n1_
           have HK := n2_
           have HB := n3_
           clear n0_ n1_ n2_ n3_
           have q28 : (x5_1 : Int) ≤ ((l0.length : Int) : Int) := of_decide_eq_true (by assumption)
           obtain ⟨i028, hi028, _, hsz28, _⟩ := info_parts info60
           have hroom28 : l0.length ≤ co24 := (Kd.R_reads' HO_0.out).2.1
           have hC28 : Kd.C k60 _ (some ad264) l0.length l0 := (Kd.R_reads' HO_0.out).2.2
           have hcut28 := cut_to (P := Try.prog) 24 60 .i64 Try.underlying24 hi028 (some ad264) l0.length co24 x5_1 (of_decide_eq_true (by assumption)) q28 hroom28
           have hr28 := Kd.C_take (m := (x5_1 : Int).toNat) hC28 (by omega)
           have hy28 : y270.length = (x5_1 : Int).toNat := (by rw [Ny270.out, List.length_take]; omega)
           rw [← Ny270.out] at hr28
           rw [← hy28] at hcut28
           have HR273 := Aside0.mk hr28
           have HC273 := Aside0.mk (show y270.length ≤ co24 from by omega)
           clear hr28 hC28 hroom28 hi028 hsz28
           have KY28 := Aside0.mk hy28
           clear hy28
           have KL28 := Aside0.mk (show (x5_1 : Int).toNat ≤ l0.length from by omega)
           replace q28 := eq_true q28
           refine start_ (n := 9) (S := fun w' => w'.cell? ⟨gb263, 0, none⟩ = some (.int .i64 a1_0) ∧ w'.cell? ⟨gb263, 1, none⟩ = some (.int .i64 a1_1)) (ds := []) #[false, false, false, false, false, false, false, false, false] (by kernel_rfl) rfl rfl ⟨bc_ BK263 0, bc_ BK263 1⟩ (fun hHeld => ?_); refine with_tabW spec_srPut.tab6 spec_srPut.bits6 (fun HT_ HW_ => ?_)
           generalize w26.drew = w27 at HO_0 BK263 HK HB HR273 hHeld ⊢
           refine pure_ (i := 1) (N := some 35) (v := ?_) (a' := ?_) #[false, true, false, false, false, false, false, false, false] rfl rfl (any_of HT_.out (by kernel_rfl)) (fun _ _ _ h => h) (Or.inl ⟨by rfl, ?_⟩) ?_ ?_
           rotate_left
           ·intro w'
            go_simp
            with_reducible rfl
           rotate_left
           ·simp only [Act.put, sT, sZ, sS, i64_w, i32_w]
            rfl
           refine pure_ (i := 2) (N := some 36) (v := ?_) (a' := ?_) #[false, true, true, false, false, false, false, false, false] rfl rfl (any_of HT_.out (by kernel_rfl)) (fun _ _ _ h => h) (Or.inl ⟨by rfl, ?_⟩) ?_ ?_
           rotate_left
           ·intro w'
            go_simp
            with_reducible rfl
           rotate_left
           ·simp only [Act.put, sT, sZ, sS, i64_w, i32_w]
            rfl
           refine pure_ (i := 3) (N := some 37) (v := ?_) (a' := ?_) #[false, true, true, true, false, false, false, false, false] rfl rfl (any_of HT_.out (by kernel_rfl)) (fun _ _ _ h => h) (Or.inl ⟨by rfl, ?_⟩) ?_ ?_
           rotate_left
           ·intro w'
            go_simp
            with_reducible rfl
           rotate_left
           ·simp only [Act.put, sT, sZ, sS, i64_w, i32_w]
            rfl
           refine take_ (i := 5) (N := some 39) (v := ?_) (a' := ?_) #[false, true, true, true, false, true, false, false, false] rfl rfl (take_ofW HT_.out HW_.out (by kernel_rfl)) (fun _ _ _ h => h) (Or.inl ⟨by rfl, ?_⟩) hHeld ?_ ?_
           rotate_left
           ·rintro w' ⟨s0, s1⟩
            go_simp
            with_reducible rfl
           rotate_left
           ·simp only [Act.put, sT, sZ, sS, i64_w, i32_w]
            rfl
           refine join_ (σ := Value × Value × Value) 2 #[true, true, true, true, true, true, true, false, false] (fun s_ => [(34, s_.1), (38, s_.2.1), (40, s_.2.2)]) (fun s_ w' => (w'.cell? ⟨gb263, 0, none⟩ = some (.int .i64 a1_0) ∧ w'.cell? ⟨gb263, 1, none⟩ = some (.int .i64 a1_1)) ∧ (Kd.R k60 60 w' w0.heap.size (fun k_ => (P0_ k_ ∨ w.heap.size ≤ k_) ∧ some k_ ≠ (s_.2.2 : Value).ownBlock ∧ some k_ ≠ (.slice (some ad264) l0.length co24 : Value).ownBlock ∧ k_ ≠ gb263) s_.2.1 y274) ∧ (Kd.R k60 60 w' w0.heap.size (fun k_ => (P0_ k_ ∨ w.heap.size ≤ k_) ∧ some k_ ≠ (s_.2.1 : Value).ownBlock ∧ some k_ ≠ (.slice (some ad264) l0.length co24 : Value).ownBlock ∧ k_ ≠ gb263) s_.2.2 y277) ∧ (Kd.R k60 60 w' w0.heap.size (fun k_ => (P0_ k_ ∨ w.heap.size ≤ k_) ∧ some k_ ≠ (s_.2.1 : Value).ownBlock ∧ some k_ ≠ (s_.2.2 : Value).ownBlock ∧ k_ ≠ gb263) (.slice (some ad264) l0.length co24) l0) ∧ (w'.heap[gb263]? = some (.cells #[.int .i64 a1_0, .int .i64 a1_1] 60 (0, 0))) ∧ (Kept w w' (fun k_ => P0_ k_)) ∧ (Below w0.heap.size w0 w')) ?_ ?_
           rotate_left
           ·intro hCont
            refine two_ (i := 0) (j := 6) (Ni := some 34) (Nj := some 40) #[true, true, true, true, false, true, false, false, false] #[false, true, true, true, false, true, true, false, false] rfl rfl rfl rfl (two_of HT_.out (by kernel_rfl)) (by decide) (by decide) (fun K hK => ?_) (fun K hK => ?_)
            ·skip
             refine Kd.R_lit_step k60 _ 60 ?hg (N := 34) ?hd (xs := ([] : List (S60))) (inner := []) (ok := fun _ => True) (okp := fun _ => True) ?hr ?hp (fun _ hk => hk) trivial (Below.refl _ _) (Nat.le_refl _) (by simp) ?_; (case hd => rfl); (case hg => rfl); (case hr => first | (go_simp; done) | (go_simp; rfl)); (case hp => exact (Reps.none _ _))
             intro v268 w29 ho30 hb hg_ hnew_
             clear hg_ hnew_
             (first | rw [← Ny267.out] at ho30 | (simp only [Int.reduceToNat] at ho30; rw [← Ny267.out] at ho30))
             have n0_ := Aside0.mk (Kd.R_elder' (ra_ HO_0.out) (Kd.R_base ho30) hb)
             have n1_ := Aside0.mk (Kd.R_lower (Kd.R_newB (Kd.R_new' (Kd.R_newM (M := fun k_ => (P0_ k_ ∨ w.heap.size ≤ k_)) ho30 (by first | exact HK.out.1 | exact (show Kept w _ (fun k_ => P0_ k_) from by repeat (first | (with_reducible first | exact HK.out | apply Kept.alloc | apply Kept.drewN | apply Kept.drew | refine Kept.setCell ?_ (.inr GW263.out) _) | exact HK.out)).1) (fun k_ h_ => .inr h_)) (Kd.R_lt (ra_ HO_0.out))) (g := gb263) (o := .cells #[.int .i64 a1_0, .int .i64 a1_1] 60 (0, 0)) (kx_ BK263.out)) (below_size (hs_ GE263.out)))
             have n2_ := Aside0.mk (blk_below (g := gb263) (o := .cells #[.int .i64 a1_0, .int .i64 a1_1] 60 (0, 0)) (kx_ BK263.out) hb)
             have n3_ := Aside0.mk (Kd.C_below (by repeat (first | (with_reducible exact HR273.out) | (with_reducible refine Kd.C_alloc ?_ _) | (with_reducible refine Kd.C_drewN ?_ _) | (with_reducible refine Kd.C_drew ?_) | exact HR273.out)) hb)
             have n4_ := Aside0.mk (Kept.below (S := (fun k_ => P0_ k_)) (by repeat (first | (with_reducible first | exact HK.out | apply Kept.alloc | apply Kept.drewN | apply Kept.drew | refine Kept.setCell ?_ (.inr GW263.out) _) | exact HK.out)) hb)
             have n5_ := Aside0.mk (below_step (hs_ GE263.out) hb)
             clear HO_0
             clear BK263
             clear HR273
             clear HK
             clear HB
             have HO_0 := n0_
             have HO269 := n1_
             have BK263 := n2_
             have HR273 := n3_
             have HK := n4_
             have HB := n5_
             clear n0_ n1_ n2_ n3_ n4_ n5_
             clear hb ho30
             refine hK.out _ _ ⟨bc_ BK263 0, bc_ BK263 1⟩ (fun hHeld => ?_)
             clear hK K
             refine norm_ (a' := ?_) ?_ ?_
             rotate_left
             ·show Act.put _ (some 34) _ = _
              simp only [Act.put, sT, sZ, sS, i64_w, i32_w]
              rfl
             refine two_ (i := 4) (j := 6) (Ni := some 38) (Nj := some 40) #[true, true, true, true, true, true, false, false, false] #[true, true, true, true, false, true, true, false, false] rfl rfl rfl rfl (two_of HT_.out (by kernel_rfl)) (by decide) (by decide) (fun K hK => ?_) (fun K hK => ?_)
             ·skip
              refine Kd.R_append_rows_step k60 (w0 := w0) w0.heap.size (by rfl) (.tmp 34) (.tmp 37) 24 60 (.agg #[(.int .i64 0), (.int .i64 0)]) 16 rfl Try.underlying24 info60 rfl (by decide) (by omega) v268 y267 y270 _ _ _ (fun k_ => (P0_ k_ ∨ w.heap.size ≤ k_) ∧ some k_ ≠ (.slice (some ad264) l0.length co24 : Value).ownBlock ∧ k_ ≠ gb263) (fun _ => False) rfl rfl ?aO ?aR (fun _ _ h => h) (fun _ h => h.elim) ?aF ?aB ?aS ?aL ?_
              (case aR => repeat (first | exact (by repeat (first | (with_reducible exact HR273.out) | (with_reducible refine Kd.C_alloc ?_ _) | (with_reducible refine Kd.C_drewN ?_ _) | (with_reducible refine Kd.C_drew ?_) | exact HR273.out)) | (with_reducible refine Kd.C_alloc ?_ _) | (with_reducible refine Kd.C_drewN ?_ _) | (with_reducible refine Kd.C_drew ?_)))
              (case aB => exact (hs_ GE263.out))
              (case aF => exact (fun k_ hk => ⟨(.inr (Nat.le_trans (by first | exact HK.out.1 | exact (show Kept w _ (fun k_ => P0_ k_) from by repeat (first | (with_reducible first | exact HK.out | apply Kept.alloc | apply Kept.drewN | apply Kept.drew | refine Kept.setCell ?_ (.inr GW263.out) _) | exact HK.out)).1) hk)), Kd.fresh' (Kd.R_lt (ra_ HO_0.out)) k_ hk, Kd.freshB (g := gb263) (o := .cells #[.int .i64 a1_0, .int .i64 a1_1] 60 (0, 0)) (kx_ BK263.out) k_ hk⟩))
              (case aO => exact (by (with_reducible repeat (first | apply rA | apply rN | apply rD)); exact Kd.R_mono HO269.out (fun _ hk => ⟨hk.1.1.1, ⟨hk.1.2, hk.2⟩⟩)))
              (case aS => exact (below_size (hs_ GE263.out)))
              (case aL => have := LMc18.out; omega)
              intro v275 w31 ho hb hg hat
              rw [← Ny274.out] at ho
              have n0_ := Aside0.mk (Kd.R_after (ok := (fun k_ => (P0_ k_ ∨ w.heap.size ≤ k_) ∧ k_ ≠ gb263)) (ra_ HO_0.out) hg hat)
              have n1_ := Aside0.mk (blk_grown (g := gb263) (o := .cells #[.int .i64 a1_0, .int .i64 a1_1] 60 (0, 0)) (kx_ BK263.out) hg (Kd.R_away HO269.out (fun _ hk => hk.2)))
              have n2_ := Aside0.mk (hb)
              have n3_ := Aside0.mk (Kept.of_grown (S := (fun k_ => P0_ k_)) hg (by repeat (first | (with_reducible first | exact HK.out | apply Kept.alloc | apply Kept.drewN | apply Kept.drew | refine Kept.setCell ?_ (.inr GW263.out) _) | exact HK.out)) (fun k_ e_ => (HO269.out.1 k_ e_).1.1.1))
              have n4_ := Aside0.mk ((show Kd.C k60 w31 (some ad264) y270.length y270 from by rw [Ny270.out]; exact Kd.C_take (m := (x5_1 : Int).toNat) ((Kd.R_reads' (Kd.R_after (ok := (fun k_ => (P0_ k_ ∨ w.heap.size ≤ k_) ∧ k_ ≠ gb263)) (ra_ HO_0.out) hg hat)).2.2) KL28.out))
              have n5_ := Aside0.mk (ho)
              clear HO_0
              clear BK263
              clear HB
              clear HK
              clear HR273
              clear HO269
              have HO_0 := n0_
              have BK263 := n1_
              have HB := n2_
              have HK := n3_
              have HR273 := n4_
              have HO276 := n5_
              clear n0_ n1_ n2_ n3_ n4_ n5_
              clear ho hb hg hat
              refine hK.out _ _ ⟨bc_ BK263 0, bc_ BK263 1⟩ (fun hHeld => ?_)
              clear hK K
              refine norm_ (a' := ?_) ?_ ?_
              rotate_left
              ·show Act.put _ (some 38) _ = _
               simp only [Act.put, sT, sZ, sS, i64_w, i32_w]
               rfl
              refine one_ (i := 6) (N := some 40) #[true, true, true, true, true, true, true, false, false] rfl rfl (one_of HT_.out (by kernel_rfl)) (by decide) (fun K hK => ?_)
              refine Kd.R_lit_step k60 _ 60 ?hg (N := 40) ?hd (xs := ([(⟨a1_0, a1_1⟩ : S60)] : List (S60))) (inner := [.int .i64 a1_0, .int .i64 a1_1]) (ok := fun _ => True) (okp := fun _ => True) ?hr ?hp (fun _ hk => hk) trivial (Below.refl _ _) (Nat.le_refl _) (by simp) ?_; (case hd => rfl); (case hg => rfl); (case hr => first | (go_simp; done) | (go_simp; rfl)); (case hp => exact (Reps.c2 (show Kd.M k60 _ _ _ (⟨a1_0, a1_1⟩ : S60) [.int .i64 a1_0, .int .i64 a1_1] from (k60_mkM _ _ _ (⟨a1_0, a1_1⟩ : S60) )) (Reps.none _ _)))
              intro v278 w32 ho33 hb hg_ hnew_
              clear hg_ hnew_
              (first | rw [← Ny277.out] at ho33 | (simp only [Int.reduceToNat] at ho33; rw [← Ny277.out] at ho33))
              have n0_ := Aside0.mk (Kd.R_elder' (ra_ HO_0.out) (Kd.R_base ho33) hb)
              have n1_ := Aside0.mk (Kd.R_elder' (ra_ HO276.out) (Kd.R_base ho33) hb)
              have n2_ := Aside0.mk (Kd.R_lower (Kd.R_newB (Kd.R_new' (Kd.R_new' (Kd.R_newM (M := fun k_ => (P0_ k_ ∨ w.heap.size ≤ k_)) ho33 (by first | exact HK.out.1 | exact (show Kept w _ (fun k_ => P0_ k_) from by repeat (first | (with_reducible first | exact HK.out | apply Kept.alloc | apply Kept.drewN | apply Kept.drew | refine Kept.setCell ?_ (.inr GW263.out) _) | exact HK.out)).1) (fun k_ h_ => .inr h_)) (Kd.R_lt (ra_ HO_0.out))) (Kd.R_lt (ra_ HO276.out))) (g := gb263) (o := .cells #[.int .i64 a1_0, .int .i64 a1_1] 60 (0, 0)) (kx_ BK263.out)) (below_size (hs_ GE263.out)))
              have n3_ := Aside0.mk (blk_below (g := gb263) (o := .cells #[.int .i64 a1_0, .int .i64 a1_1] 60 (0, 0)) (kx_ BK263.out) hb)
              have n4_ := Aside0.mk (Kd.C_below (by repeat (first | (with_reducible exact HR273.out) | (with_reducible refine Kd.C_alloc ?_ _) | (with_reducible refine Kd.C_drewN ?_ _) | (with_reducible refine Kd.C_drew ?_) | exact HR273.out)) hb)
              have n5_ := Aside0.mk (Kept.below (S := (fun k_ => P0_ k_)) (by repeat (first | (with_reducible first | exact HK.out | apply Kept.alloc | apply Kept.drewN | apply Kept.drew | refine Kept.setCell ?_ (.inr GW263.out) _) | exact HK.out)) hb)
              have n6_ := Aside0.mk (below_step (hs_ GE263.out) hb)
              clear HO_0
              clear HO276
              clear BK263
              clear HR273
              clear HK
              clear HB
              have HO_0 := n0_
              have HO276 := n1_
              have HO279 := n2_
              have BK263 := n3_
              have HR273 := n4_
              have HK := n5_
              have HB := n6_
              clear n0_ n1_ n2_ n3_ n4_ n5_ n6_
              clear hb ho33
              refine hK.out _ _ ⟨bc_ BK263 0, bc_ BK263 1⟩ (fun hHeld => ?_)
              clear hK K
              refine norm_ (a' := ?_) ?_ ?_
              rotate_left
              ·show Act.put _ (some 40) _ = _
               simp only [Act.put, sT, sZ, sS, i64_w, i32_w]
               rfl
              exact norm_ (by simp only [putAll, Act.put, sT, sZ, sS]) (hCont (v268, v275, v278) _ ⟨hHeld, (by (with_reducible repeat (first | apply rA | apply rN | apply rD)); exact Kd.R_mono HO276.out (fun _ hk => ⟨hk.1.1, ⟨hk.2, ⟨hk.1.2.1, hk.1.2.2⟩⟩⟩)), (by (with_reducible repeat (first | apply rA | apply rN | apply rD)); exact Kd.R_mono HO279.out (fun _ hk => ⟨hk.1.1.1.1, ⟨hk.1.2, ⟨hk.1.1.2, hk.2⟩⟩⟩)), (by (with_reducible repeat (first | apply rA | apply rN | apply rD)); exact Kd.R_mono HO_0.out (fun _ hk => ⟨hk.1.1.1, ⟨hk.1.2, ⟨hk.2, hk.1.1.2⟩⟩⟩)), (kx_ BK263.out), (by repeat (first | (with_reducible first | exact HK.out | apply Kept.alloc | apply Kept.drewN | apply Kept.drew | refine Kept.setCell ?_ (.inr GW263.out) _) | exact HK.out)), (hs_ GE263.out)⟩)
             ·skip
              refine Kd.R_lit_step k60 _ 60 ?hg (N := 40) ?hd (xs := ([(⟨a1_0, a1_1⟩ : S60)] : List (S60))) (inner := [.int .i64 a1_0, .int .i64 a1_1]) (ok := fun _ => True) (okp := fun _ => True) ?hr ?hp (fun _ hk => hk) trivial (Below.refl _ _) (Nat.le_refl _) (by simp) ?_; (case hd => rfl); (case hg => rfl); (case hr => first | (go_simp; done) | (go_simp; rfl)); (case hp => exact (Reps.c2 (show Kd.M k60 _ _ _ (⟨a1_0, a1_1⟩ : S60) [.int .i64 a1_0, .int .i64 a1_1] from (k60_mkM _ _ _ (⟨a1_0, a1_1⟩ : S60) )) (Reps.none _ _)))
              intro v278 w31 ho32 hb hg_ hnew_
              clear hg_ hnew_
              (first | rw [← Ny277.out] at ho32 | (simp only [Int.reduceToNat] at ho32; rw [← Ny277.out] at ho32))
              have n0_ := Aside0.mk (Kd.R_elder' (ra_ HO_0.out) (Kd.R_base ho32) hb)
              have n1_ := Aside0.mk (Kd.R_elder' (ra_ HO269.out) (Kd.R_base ho32) hb)
              have n2_ := Aside0.mk (Kd.R_lower (Kd.R_newB (Kd.R_new' (Kd.R_new' (Kd.R_newM (M := fun k_ => (P0_ k_ ∨ w.heap.size ≤ k_)) ho32 (by first | exact HK.out.1 | exact (show Kept w _ (fun k_ => P0_ k_) from by repeat (first | (with_reducible first | exact HK.out | apply Kept.alloc | apply Kept.drewN | apply Kept.drew | refine Kept.setCell ?_ (.inr GW263.out) _) | exact HK.out)).1) (fun k_ h_ => .inr h_)) (Kd.R_lt (ra_ HO_0.out))) (Kd.R_lt (ra_ HO269.out))) (g := gb263) (o := .cells #[.int .i64 a1_0, .int .i64 a1_1] 60 (0, 0)) (kx_ BK263.out)) (below_size (hs_ GE263.out)))
              have n3_ := Aside0.mk (blk_below (g := gb263) (o := .cells #[.int .i64 a1_0, .int .i64 a1_1] 60 (0, 0)) (kx_ BK263.out) hb)
              have n4_ := Aside0.mk (Kd.C_below (by repeat (first | (with_reducible exact HR273.out) | (with_reducible refine Kd.C_alloc ?_ _) | (with_reducible refine Kd.C_drewN ?_ _) | (with_reducible refine Kd.C_drew ?_) | exact HR273.out)) hb)
              have n5_ := Aside0.mk (Kept.below (S := (fun k_ => P0_ k_)) (by repeat (first | (with_reducible first | exact HK.out | apply Kept.alloc | apply Kept.drewN | apply Kept.drew | refine Kept.setCell ?_ (.inr GW263.out) _) | exact HK.out)) hb)
              have n6_ := Aside0.mk (below_step (hs_ GE263.out) hb)
              clear HO_0
              clear HO269
              clear BK263
              clear HR273
              clear HK
              clear HB
              have HO_0 := n0_
              have HO269 := n1_
              have HO279 := n2_
              have BK263 := n3_
              have HR273 := n4_
              have HK := n5_
              have HB := n6_
              clear n0_ n1_ n2_ n3_ n4_ n5_ n6_
              clear hb ho32
              refine hK.out _ _ ⟨bc_ BK263 0, bc_ BK263 1⟩ (fun hHeld => ?_)
              clear hK K
              refine norm_ (a' := ?_) ?_ ?_
              rotate_left
              ·show Act.put _ (some 40) _ = _
               simp only [Act.put, sT, sZ, sS, i64_w, i32_w]
               rfl
              refine one_ (i := 4) (N := some 38) #[true, true, true, true, true, true, true, false, false] rfl rfl (one_of HT_.out (by kernel_rfl)) (by decide) (fun K hK => ?_)
              refine Kd.R_append_rows_step k60 (w0 := w0) w0.heap.size (by rfl) (.tmp 34) (.tmp 37) 24 60 (.agg #[(.int .i64 0), (.int .i64 0)]) 16 rfl Try.underlying24 info60 rfl (by decide) (by omega) v268 y267 y270 _ _ _ (fun k_ => (P0_ k_ ∨ w.heap.size ≤ k_) ∧ some k_ ≠ (.slice (some ad264) l0.length co24 : Value).ownBlock ∧ some k_ ≠ (v278 : Value).ownBlock ∧ k_ ≠ gb263) (fun _ => False) rfl rfl ?aO ?aR (fun _ _ h => h) (fun _ h => h.elim) ?aF ?aB ?aS ?aL ?_
              (case aR => repeat (first | exact (by repeat (first | (with_reducible exact HR273.out) | (with_reducible refine Kd.C_alloc ?_ _) | (with_reducible refine Kd.C_drewN ?_ _) | (with_reducible refine Kd.C_drew ?_) | exact HR273.out)) | (with_reducible refine Kd.C_alloc ?_ _) | (with_reducible refine Kd.C_drewN ?_ _) | (with_reducible refine Kd.C_drew ?_)))
              (case aB => exact (hs_ GE263.out))
              (case aF => exact (fun k_ hk => ⟨(.inr (Nat.le_trans (by first | exact HK.out.1 | exact (show Kept w _ (fun k_ => P0_ k_) from by repeat (first | (with_reducible first | exact HK.out | apply Kept.alloc | apply Kept.drewN | apply Kept.drew | refine Kept.setCell ?_ (.inr GW263.out) _) | exact HK.out)).1) hk)), Kd.fresh' (Kd.R_lt (ra_ HO_0.out)) k_ hk, Kd.fresh' (Kd.R_lt (ra_ HO279.out)) k_ hk, Kd.freshB (g := gb263) (o := .cells #[.int .i64 a1_0, .int .i64 a1_1] 60 (0, 0)) (kx_ BK263.out) k_ hk⟩))
              (case aO => exact (by (with_reducible repeat (first | apply rA | apply rN | apply rD)); exact Kd.R_mono HO269.out (fun _ hk => ⟨hk.1.1.1.1, ⟨hk.1.1.2, ⟨hk.2, hk.1.2⟩⟩⟩)))
              (case aS => exact (below_size (hs_ GE263.out)))
              (case aL => have := LMc18.out; omega)
              intro v275 w33 ho hb hg hat
              rw [← Ny274.out] at ho
              have n0_ := Aside0.mk (Kd.R_after (ok := (fun k_ => (P0_ k_ ∨ w.heap.size ≤ k_) ∧ some k_ ≠ (v278 : Value).ownBlock ∧ k_ ≠ gb263)) (by (with_reducible repeat (first | apply rA | apply rN | apply rD)); exact Kd.R_mono HO_0.out (fun _ hk => ⟨⟨hk.1.1.1, ⟨hk.2, hk.1.1.2⟩⟩, hk.1.2⟩)) hg hat)
              have n1_ := Aside0.mk (blk_grown (g := gb263) (o := .cells #[.int .i64 a1_0, .int .i64 a1_1] 60 (0, 0)) (kx_ BK263.out) hg (Kd.R_away HO269.out (fun _ hk => hk.1.2)))
              have n2_ := Aside0.mk (Kd.R_after (ok := (fun k_ => (P0_ k_ ∨ w.heap.size ≤ k_) ∧ some k_ ≠ (.slice (some ad264) l0.length co24 : Value).ownBlock ∧ k_ ≠ gb263)) (by (with_reducible repeat (first | apply rA | apply rN | apply rD)); exact Kd.R_mono HO279.out (fun _ hk => ⟨⟨hk.1.1.1.1, ⟨hk.1.1.2, hk.2⟩⟩, hk.1.2⟩)) hg hat)
              have n3_ := Aside0.mk (hb)
              have n4_ := Aside0.mk (Kept.of_grown (S := (fun k_ => P0_ k_)) hg (by repeat (first | (with_reducible first | exact HK.out | apply Kept.alloc | apply Kept.drewN | apply Kept.drew | refine Kept.setCell ?_ (.inr GW263.out) _) | exact HK.out)) (fun k_ e_ => (HO269.out.1 k_ e_).1.1.1.1))
              have n5_ := Aside0.mk ((show Kd.C k60 w33 (some ad264) y270.length y270 from by rw [Ny270.out]; exact Kd.C_take (m := (x5_1 : Int).toNat) ((Kd.R_reads' (Kd.R_after (ok := (fun k_ => (P0_ k_ ∨ w.heap.size ≤ k_) ∧ some k_ ≠ (v278 : Value).ownBlock ∧ k_ ≠ gb263)) (by (with_reducible repeat (first | apply rA | apply rN | apply rD)); exact Kd.R_mono HO_0.out (fun _ hk => ⟨⟨hk.1.1.1, ⟨hk.2, hk.1.1.2⟩⟩, hk.1.2⟩)) hg hat)).2.2) KL28.out))
              have n6_ := Aside0.mk (ho)
              clear HO_0
              clear BK263
              clear HO279
              clear HB
              clear HK
              clear HR273
              clear HO269
              have HO_0 := n0_
              have BK263 := n1_
              have HO279 := n2_
              have HB := n3_
              have HK := n4_
              have HR273 := n5_
              have HO276 := n6_
              clear n0_ n1_ n2_ n3_ n4_ n5_ n6_
              clear ho hb hg hat
              refine hK.out _ _ ⟨bc_ BK263 0, bc_ BK263 1⟩ (fun hHeld => ?_)
              clear hK K
              refine norm_ (a' := ?_) ?_ ?_
              rotate_left
              ·show Act.put _ (some 38) _ = _
               simp only [Act.put, sT, sZ, sS, i64_w, i32_w]
               rfl
              exact norm_ (by simp only [putAll, Act.put, sT, sZ, sS]) (hCont (v268, v275, v278) _ ⟨hHeld, (by (with_reducible repeat (first | apply rA | apply rN | apply rD)); exact Kd.R_mono HO276.out (fun _ hk => ⟨hk.1, ⟨hk.2.2.1, ⟨hk.2.1, hk.2.2.2⟩⟩⟩)), (by (with_reducible repeat (first | apply rA | apply rN | apply rD)); exact Kd.R_mono HO279.out (fun _ hk => ⟨hk.1.1, ⟨hk.2, ⟨hk.1.2.1, hk.1.2.2⟩⟩⟩)), (by (with_reducible repeat (first | apply rA | apply rN | apply rD)); exact Kd.R_mono HO_0.out (fun _ hk => ⟨hk.1.1, ⟨hk.2, ⟨hk.1.2.1, hk.1.2.2⟩⟩⟩)), (kx_ BK263.out), (by repeat (first | (with_reducible first | exact HK.out | apply Kept.alloc | apply Kept.drewN | apply Kept.drew | refine Kept.setCell ?_ (.inr GW263.out) _) | exact HK.out)), (hs_ GE263.out)⟩)
            ·skip
             refine Kd.R_lit_step k60 _ 60 ?hg (N := 40) ?hd (xs := ([(⟨a1_0, a1_1⟩ : S60)] : List (S60))) (inner := [.int .i64 a1_0, .int .i64 a1_1]) (ok := fun _ => True) (okp := fun _ => True) ?hr ?hp (fun _ hk => hk) trivial (Below.refl _ _) (Nat.le_refl _) (by simp) ?_; (case hd => rfl); (case hg => rfl); (case hr => first | (go_simp; done) | (go_simp; rfl)); (case hp => exact (Reps.c2 (show Kd.M k60 _ _ _ (⟨a1_0, a1_1⟩ : S60) [.int .i64 a1_0, .int .i64 a1_1] from (k60_mkM _ _ _ (⟨a1_0, a1_1⟩ : S60) )) (Reps.none _ _)))
             intro v278 w29 ho30 hb hg_ hnew_
             clear hg_ hnew_
             (first | rw [← Ny277.out] at ho30 | (simp only [Int.reduceToNat] at ho30; rw [← Ny277.out] at ho30))
             have n0_ := Aside0.mk (Kd.R_elder' (ra_ HO_0.out) (Kd.R_base ho30) hb)
             have n1_ := Aside0.mk (Kd.R_lower (Kd.R_newB (Kd.R_new' (Kd.R_newM (M := fun k_ => (P0_ k_ ∨ w.heap.size ≤ k_)) ho30 (by first | exact HK.out.1 | exact (show Kept w _ (fun k_ => P0_ k_) from by repeat (first | (with_reducible first | exact HK.out | apply Kept.alloc | apply Kept.drewN | apply Kept.drew | refine Kept.setCell ?_ (.inr GW263.out) _) | exact HK.out)).1) (fun k_ h_ => .inr h_)) (Kd.R_lt (ra_ HO_0.out))) (g := gb263) (o := .cells #[.int .i64 a1_0, .int .i64 a1_1] 60 (0, 0)) (kx_ BK263.out)) (below_size (hs_ GE263.out)))
             have n2_ := Aside0.mk (blk_below (g := gb263) (o := .cells #[.int .i64 a1_0, .int .i64 a1_1] 60 (0, 0)) (kx_ BK263.out) hb)
             have n3_ := Aside0.mk (Kd.C_below (by repeat (first | (with_reducible exact HR273.out) | (with_reducible refine Kd.C_alloc ?_ _) | (with_reducible refine Kd.C_drewN ?_ _) | (with_reducible refine Kd.C_drew ?_) | exact HR273.out)) hb)
             have n4_ := Aside0.mk (Kept.below (S := (fun k_ => P0_ k_)) (by repeat (first | (with_reducible first | exact HK.out | apply Kept.alloc | apply Kept.drewN | apply Kept.drew | refine Kept.setCell ?_ (.inr GW263.out) _) | exact HK.out)) hb)
             have n5_ := Aside0.mk (below_step (hs_ GE263.out) hb)
             clear HO_0
             clear BK263
             clear HR273
             clear HK
             clear HB
             have HO_0 := n0_
             have HO279 := n1_
             have BK263 := n2_
             have HR273 := n3_
             have HK := n4_
             have HB := n5_
             clear n0_ n1_ n2_ n3_ n4_ n5_
             clear hb ho30
             refine hK.out _ _ ⟨bc_ BK263 0, bc_ BK263 1⟩ (fun hHeld => ?_)
             clear hK K
             refine norm_ (a' := ?_) ?_ ?_
             rotate_left
             ·show Act.put _ (some 40) _ = _
              simp only [Act.put, sT, sZ, sS, i64_w, i32_w]
              rfl
             refine one_ (i := 0) (N := some 34) #[true, true, true, true, false, true, true, false, false] rfl rfl (one_of HT_.out (by kernel_rfl)) (by decide) (fun K hK => ?_)
             refine Kd.R_lit_step k60 _ 60 ?hg (N := 34) ?hd (xs := ([] : List (S60))) (inner := []) (ok := fun _ => True) (okp := fun _ => True) ?hr ?hp (fun _ hk => hk) trivial (Below.refl _ _) (Nat.le_refl _) (by simp) ?_; (case hd => rfl); (case hg => rfl); (case hr => first | (go_simp; done) | (go_simp; rfl)); (case hp => exact (Reps.none _ _))
             intro v268 w31 ho32 hb hg_ hnew_
             clear hg_ hnew_
             (first | rw [← Ny267.out] at ho32 | (simp only [Int.reduceToNat] at ho32; rw [← Ny267.out] at ho32))
             have n0_ := Aside0.mk (Kd.R_elder' (ra_ HO_0.out) (Kd.R_base ho32) hb)
             have n1_ := Aside0.mk (Kd.R_elder' (ra_ HO279.out) (Kd.R_base ho32) hb)
             have n2_ := Aside0.mk (Kd.R_lower (Kd.R_newB (Kd.R_new' (Kd.R_new' (Kd.R_newM (M := fun k_ => (P0_ k_ ∨ w.heap.size ≤ k_)) ho32 (by first | exact HK.out.1 | exact (show Kept w _ (fun k_ => P0_ k_) from by repeat (first | (with_reducible first | exact HK.out | apply Kept.alloc | apply Kept.drewN | apply Kept.drew | refine Kept.setCell ?_ (.inr GW263.out) _) | exact HK.out)).1) (fun k_ h_ => .inr h_)) (Kd.R_lt (ra_ HO_0.out))) (Kd.R_lt (ra_ HO279.out))) (g := gb263) (o := .cells #[.int .i64 a1_0, .int .i64 a1_1] 60 (0, 0)) (kx_ BK263.out)) (below_size (hs_ GE263.out)))
             have n3_ := Aside0.mk (blk_below (g := gb263) (o := .cells #[.int .i64 a1_0, .int .i64 a1_1] 60 (0, 0)) (kx_ BK263.out) hb)
             have n4_ := Aside0.mk (Kd.C_below (by repeat (first | (with_reducible exact HR273.out) | (with_reducible refine Kd.C_alloc ?_ _) | (with_reducible refine Kd.C_drewN ?_ _) | (with_reducible refine Kd.C_drew ?_) | exact HR273.out)) hb)
             have n5_ := Aside0.mk (Kept.below (S := (fun k_ => P0_ k_)) (by repeat (first | (with_reducible first | exact HK.out | apply Kept.alloc | apply Kept.drewN | apply Kept.drew | refine Kept.setCell ?_ (.inr GW263.out) _) | exact HK.out)) hb)
             have n6_ := Aside0.mk (below_step (hs_ GE263.out) hb)
             clear HO_0
             clear HO279
             clear BK263
             clear HR273
             clear HK
             clear HB
             have HO_0 := n0_
             have HO279 := n1_
             have HO269 := n2_
             have BK263 := n3_
             have HR273 := n4_
             have HK := n5_
             have HB := n6_
             clear n0_ n1_ n2_ n3_ n4_ n5_ n6_
             clear hb ho32
             refine hK.out _ _ ⟨bc_ BK263 0, bc_ BK263 1⟩ (fun hHeld => ?_)
             clear hK K
             refine norm_ (a' := ?_) ?_ ?_
             rotate_left
             ·show Act.put _ (some 34) _ = _
              simp only [Act.put, sT, sZ, sS, i64_w, i32_w]
              rfl
             refine one_ (i := 4) (N := some 38) #[true, true, true, true, true, true, true, false, false] rfl rfl (one_of HT_.out (by kernel_rfl)) (by decide) (fun K hK => ?_)
             refine Kd.R_append_rows_step k60 (w0 := w0) w0.heap.size (by rfl) (.tmp 34) (.tmp 37) 24 60 (.agg #[(.int .i64 0), (.int .i64 0)]) 16 rfl Try.underlying24 info60 rfl (by decide) (by omega) v268 y267 y270 _ _ _ (fun k_ => (P0_ k_ ∨ w.heap.size ≤ k_) ∧ some k_ ≠ (.slice (some ad264) l0.length co24 : Value).ownBlock ∧ some k_ ≠ (v278 : Value).ownBlock ∧ k_ ≠ gb263) (fun _ => False) rfl rfl ?aO ?aR (fun _ _ h => h) (fun _ h => h.elim) ?aF ?aB ?aS ?aL ?_
             (case aR => repeat (first | exact (by repeat (first | (with_reducible exact HR273.out) | (with_reducible refine Kd.C_alloc ?_ _) | (with_reducible refine Kd.C_drewN ?_ _) | (with_reducible refine Kd.C_drew ?_) | exact HR273.out)) | (with_reducible refine Kd.C_alloc ?_ _) | (with_reducible refine Kd.C_drewN ?_ _) | (with_reducible refine Kd.C_drew ?_)))
             (case aB => exact (hs_ GE263.out))
             (case aF => exact (fun k_ hk => ⟨(.inr (Nat.le_trans (by first | exact HK.out.1 | exact (show Kept w _ (fun k_ => P0_ k_) from by repeat (first | (with_reducible first | exact HK.out | apply Kept.alloc | apply Kept.drewN | apply Kept.drew | refine Kept.setCell ?_ (.inr GW263.out) _) | exact HK.out)).1) hk)), Kd.fresh' (Kd.R_lt (ra_ HO_0.out)) k_ hk, Kd.fresh' (Kd.R_lt (ra_ HO279.out)) k_ hk, Kd.freshB (g := gb263) (o := .cells #[.int .i64 a1_0, .int .i64 a1_1] 60 (0, 0)) (kx_ BK263.out) k_ hk⟩))
             (case aO => exact (by (with_reducible repeat (first | apply rA | apply rN | apply rD)); exact Kd.R_mono HO269.out (fun _ hk => ⟨hk.1.1.1.1, ⟨hk.1.1.2, ⟨hk.1.2, hk.2⟩⟩⟩)))
             (case aS => exact (below_size (hs_ GE263.out)))
             (case aL => have := LMc18.out; omega)
             intro v275 w33 ho hb hg hat
             rw [← Ny274.out] at ho
             have n0_ := Aside0.mk (Kd.R_after (ok := (fun k_ => (P0_ k_ ∨ w.heap.size ≤ k_) ∧ some k_ ≠ (v278 : Value).ownBlock ∧ k_ ≠ gb263)) (by (with_reducible repeat (first | apply rA | apply rN | apply rD)); exact Kd.R_mono HO_0.out (fun _ hk => ⟨⟨hk.1.1.1, ⟨hk.1.2, hk.1.1.2⟩⟩, hk.2⟩)) hg hat)
             have n1_ := Aside0.mk (blk_grown (g := gb263) (o := .cells #[.int .i64 a1_0, .int .i64 a1_1] 60 (0, 0)) (kx_ BK263.out) hg (Kd.R_away HO269.out (fun _ hk => hk.2)))
             have n2_ := Aside0.mk (Kd.R_after (ok := (fun k_ => (P0_ k_ ∨ w.heap.size ≤ k_) ∧ some k_ ≠ (.slice (some ad264) l0.length co24 : Value).ownBlock ∧ k_ ≠ gb263)) (by (with_reducible repeat (first | apply rA | apply rN | apply rD)); exact Kd.R_mono HO279.out (fun _ hk => ⟨⟨hk.1.1.1.1, ⟨hk.1.1.2, hk.1.2⟩⟩, hk.2⟩)) hg hat)
             have n3_ := Aside0.mk (hb)
             have n4_ := Aside0.mk (Kept.of_grown (S := (fun k_ => P0_ k_)) hg (by repeat (first | (with_reducible first | exact HK.out | apply Kept.alloc | apply Kept.drewN | apply Kept.drew | refine Kept.setCell ?_ (.inr GW263.out) _) | exact HK.out)) (fun k_ e_ => (HO269.out.1 k_ e_).1.1.1.1))
             have n5_ := Aside0.mk ((show Kd.C k60 w33 (some ad264) y270.length y270 from by rw [Ny270.out]; exact Kd.C_take (m := (x5_1 : Int).toNat) ((Kd.R_reads' (Kd.R_after (ok := (fun k_ => (P0_ k_ ∨ w.heap.size ≤ k_) ∧ some k_ ≠ (v278 : Value).ownBlock ∧ k_ ≠ gb263)) (by (with_reducible repeat (first | apply rA | apply rN | apply rD)); exact Kd.R_mono HO_0.out (fun _ hk => ⟨⟨hk.1.1.1, ⟨hk.1.2, hk.1.1.2⟩⟩, hk.2⟩)) hg hat)).2.2) KL28.out))
             have n6_ := Aside0.mk (ho)
             clear HO_0
             clear BK263
             clear HO279
             clear HB
             clear HK
             clear HR273
             clear HO269
             have HO_0 := n0_
             have BK263 := n1_
             have HO279 := n2_
             have HB := n3_
             have HK := n4_
             have HR273 := n5_
             have HO276 := n6_
             clear n0_ n1_ n2_ n3_ n4_ n5_ n6_
             clear ho hb hg hat
             refine hK.out _ _ ⟨bc_ BK263 0, bc_ BK263 1⟩ (fun hHeld => ?_)
             clear hK K
             refine norm_ (a' := ?_) ?_ ?_
             rotate_left
             ·show Act.put _ (some 38) _ = _
              simp only [Act.put, sT, sZ, sS, i64_w, i32_w]
              rfl
             exact norm_ (by simp only [putAll, Act.put, sT, sZ, sS]) (hCont (v268, v275, v278) _ ⟨hHeld, (by (with_reducible repeat (first | apply rA | apply rN | apply rD)); exact Kd.R_mono HO276.out (fun _ hk => ⟨hk.1, ⟨hk.2.2.1, ⟨hk.2.1, hk.2.2.2⟩⟩⟩)), (by (with_reducible repeat (first | apply rA | apply rN | apply rD)); exact Kd.R_mono HO279.out (fun _ hk => ⟨hk.1.1, ⟨hk.2, ⟨hk.1.2.1, hk.1.2.2⟩⟩⟩)), (by (with_reducible repeat (first | apply rA | apply rN | apply rD)); exact Kd.R_mono HO_0.out (fun _ hk => ⟨hk.1.1, ⟨hk.2, ⟨hk.1.2.1, hk.1.2.2⟩⟩⟩)), (kx_ BK263.out), (by repeat (first | (with_reducible first | exact HK.out | apply Kept.alloc | apply Kept.drewN | apply Kept.drew | refine Kept.setCell ?_ (.inr GW263.out) _) | exact HK.out)), (hs_ GE263.out)⟩)
           rintro ⟨v268, v275, v278⟩ w34 ⟨hS_, h0_, h1_, h2_, h3_, h4_, h5_⟩
           have n0_ : Aside0 (Kd.R k60 60 w34 w0.heap.size (fun k_ => (P0_ k_ ∨ w.heap.size ≤ k_) ∧ some k_ ≠ (v278 : Value).ownBlock ∧ some k_ ≠ (.slice (some ad264) l0.length co24 : Value).ownBlock ∧ k_ ≠ gb263) v275 y274) := ⟨h0_⟩
           have n1_ : Aside0 (Kd.R k60 60 w34 w0.heap.size (fun k_ => (P0_ k_ ∨ w.heap.size ≤ k_) ∧ some k_ ≠ (v275 : Value).ownBlock ∧ some k_ ≠ (.slice (some ad264) l0.length co24 : Value).ownBlock ∧ k_ ≠ gb263) v278 y277) := ⟨h1_⟩
           have n2_ : Aside0 (Kd.R k60 60 w34 w0.heap.size (fun k_ => (P0_ k_ ∨ w.heap.size ≤ k_) ∧ some k_ ≠ (v275 : Value).ownBlock ∧ some k_ ≠ (v278 : Value).ownBlock ∧ k_ ≠ gb263) (.slice (some ad264) l0.length co24) l0) := ⟨h2_⟩
           have n3_ : Aside0 (w34.heap[gb263]? = some (.cells #[.int .i64 a1_0, .int .i64 a1_1] 60 (0, 0))) := ⟨h3_⟩
           have n4_ : Aside0 (Kept w w34 (fun k_ => P0_ k_)) := ⟨h4_⟩
           have n5_ : Aside0 (Below w0.heap.size w0 w34) := ⟨h5_⟩
           clear HO_0
           clear BK263
           clear HK
           clear HB
           clear h0_ h1_ h2_ h3_ h4_ h5_
           have HO276 := n0_
           have HO279 := n1_
           have HO_0 := n2_
           have BK263 := n3_
           have HK := n4_
           have HB := n5_
           clear n0_ n1_ n2_ n3_ n4_ n5_
           have hHeld : w34.cell? ⟨gb263, 0, none⟩ = some (.int .i64 a1_0) ∧ w34.cell? ⟨gb263, 1, none⟩ = some (.int .i64 a1_1) := hS_
           obtain ⟨Ao36, co36, eo36⟩ := Kd.R_slice HO279.out
           (first | subst eo36 | (injection eo36 with f1_ f2_ f3_; have f4_ := f1_.symm; have f5_ := f3_.symm; clear f1_ f2_ f3_; subst f4_; subst f5_))
           refine norm_ (a' := ?_) ?_ ?_
           rotate_left
           ·simp only [putAll, Act.put, sT, sZ, sS]
            rfl
           refine one_ (i := 7) (N := some 41) #[true, true, true, true, true, true, true, true, false] rfl rfl (one_of HT_.out (by kernel_rfl)) (by decide) (fun K hK => ?_)
           refine Kd.R_append_rows_step k60 (w0 := w0) w0.heap.size (by rfl) (.tmp 38) (.tmp 40) 24 60 (.agg #[(.int .i64 0), (.int .i64 0)]) 16 rfl Try.underlying24 info60 rfl (by decide) (by omega) v275 y274 y277 _ _ _ (fun k_ => (P0_ k_ ∨ w.heap.size ≤ k_) ∧ some k_ ≠ (.slice (some ad264) l0.length co24 : Value).ownBlock ∧ some k_ ≠ (.slice Ao36 y277.length co36 : Value).ownBlock ∧ k_ ≠ gb263) (fun _ => False) rfl rfl ?aO ?aR (fun _ _ h => h) (fun _ h => h.elim) ?aF ?aB ?aS ?aL ?_
           (case aR => repeat (first | exact (Kd.R_reads' HO279.out).2.2 | (with_reducible refine Kd.C_alloc ?_ _) | (with_reducible refine Kd.C_drewN ?_ _) | (with_reducible refine Kd.C_drew ?_)))
           (case aB => exact (hs_ GE263.out))
           (case aF => exact (fun k_ hk => ⟨(.inr (Nat.le_trans (by first | exact HK.out.1 | exact (show Kept w _ (fun k_ => P0_ k_) from by repeat (first | (with_reducible first | exact HK.out | apply Kept.alloc | apply Kept.drewN | apply Kept.drew | refine Kept.setCell ?_ (.inr GW263.out) _) | exact HK.out)).1) hk)), Kd.fresh' (Kd.R_lt (ra_ HO_0.out)) k_ hk, Kd.fresh' (Kd.R_lt (ra_ HO279.out)) k_ hk, Kd.freshB (g := gb263) (o := .cells #[.int .i64 a1_0, .int .i64 a1_1] 60 (0, 0)) (kx_ BK263.out) k_ hk⟩))
           (case aO => exact (by (with_reducible repeat (first | apply rA | apply rN | apply rD)); exact Kd.R_mono HO276.out (fun _ hk => ⟨hk.1, ⟨hk.2.2.1, ⟨hk.2.1, hk.2.2.2⟩⟩⟩)))
           (case aS => exact (below_size (hs_ GE263.out)))
           (case aL => have := LMc19.out; omega)
           intro v281 w35 ho hb hg hat
           rw [← Ny280.out] at ho
           have n0_ := Aside0.mk (Kd.R_after (ok := (fun k_ => (P0_ k_ ∨ w.heap.size ≤ k_) ∧ some k_ ≠ (.slice Ao36 y277.length co36 : Value).ownBlock ∧ k_ ≠ gb263)) (by (with_reducible repeat (first | apply rA | apply rN | apply rD)); exact Kd.R_mono HO_0.out (fun _ hk => ⟨⟨hk.1, ⟨hk.2.2.1, hk.2.2.2⟩⟩, hk.2.1⟩)) hg hat)
           have n1_ := Aside0.mk (blk_grown (g := gb263) (o := .cells #[.int .i64 a1_0, .int .i64 a1_1] 60 (0, 0)) (kx_ BK263.out) hg (Kd.R_away HO276.out (fun _ hk => hk.2.2.2)))
           have n2_ := Aside0.mk (Kd.R_after (ok := (fun k_ => (P0_ k_ ∨ w.heap.size ≤ k_) ∧ some k_ ≠ (.slice (some ad264) l0.length co24 : Value).ownBlock ∧ k_ ≠ gb263)) (by (with_reducible repeat (first | apply rA | apply rN | apply rD)); exact Kd.R_mono HO279.out (fun _ hk => ⟨⟨hk.1, ⟨hk.2.2.1, hk.2.2.2⟩⟩, hk.2.1⟩)) hg hat)
           have n3_ := Aside0.mk (hb)
           have n4_ := Aside0.mk (Kept.of_grown (S := (fun k_ => P0_ k_)) hg (by repeat (first | (with_reducible first | exact HK.out | apply Kept.alloc | apply Kept.drewN | apply Kept.drew | refine Kept.setCell ?_ (.inr GW263.out) _) | exact HK.out)) (fun k_ e_ => (HO276.out.1 k_ e_).1))
           have n5_ := Aside0.mk (ho)
           clear HO_0
           clear BK263
           clear HO279
           clear HB
           clear HK
           clear HO276
           have HO_0 := n0_
           have BK263 := n1_
           have HO279 := n2_
           have HB := n3_
           have HK := n4_
           have HO282 := n5_
           clear n0_ n1_ n2_ n3_ n4_ n5_
           clear ho hb hg hat
           refine hK.out _ _ ⟨bc_ BK263 0, bc_ BK263 1⟩ (fun hHeld => ?_)
           clear hK K
           refine norm_ (a' := ?_) ?_ ?_
           rotate_left
           ·show Act.put _ (some 41) _ = _
            simp only [Act.put, sT, sZ, sS, i64_w, i32_w]
            rfl
           refine pure_ (i := 8) (N := some 6) (v := ?_) (a' := ?_) #[true, true, true, true, true, true, true, true, true] rfl rfl (any_of HT_.out (by kernel_rfl)) (fun _ _ _ h => h) (Or.inl ⟨by rfl, ?_⟩) ?_ ?_
           rotate_left
           ·intro w'
            go_simp
            with_reducible rfl
           rotate_left
           ·simp only [Act.put, sT, sZ, sS, i64_w, i32_w]
            rfl
           refine done_ (done_of HT_.out (by kernel_rfl)) ?_
           have q37 : (x5_1 : Int) ≤ ((l0.length : Int) : Int) := of_decide_eq_true (by assumption)
           obtain ⟨i037, hi037, _, hsz37, _⟩ := info_parts info60
           have hroom37 : l0.length ≤ co24 := (Kd.R_reads' HO_0.out).2.1
           have hC37 : Kd.C k60 _ (some ad264) l0.length l0 := (Kd.R_reads' HO_0.out).2.2
           have q037 : (0 : Int) ≤ (x5_1 : Int) := of_decide_eq_true (by assumption)
           have hcut37 := cut_from (P := Try.prog) 24 60 .i64 Try.underlying24 hi037 2 hsz37 (some ad264) l0.length co24 x5_1 q037 q37
           have hr37 := Kd.C_drop (m := (x5_1 : Int).toNat) (c := co24) hC37 (by omega) hroom37
           obtain ⟨A37, hA37⟩ : ∃ A1, A1 = (if co24 = (x5_1 : Int).toNat then (some ad264) else ((some ad264) : Option Addr).map (·.add ((x5_1 : Int).toNat * 2))) := ⟨_, rfl⟩
           obtain ⟨c37, hc37⟩ : ∃ c1, c1 = co24 - (x5_1 : Int).toNat := ⟨_, rfl⟩
           have hy37 : y283.length = l0.length - (x5_1 : Int).toNat := (by rw [Ny283.out, List.length_drop] <;> omega)
           rw [show (l0).drop (x5_1 : Int).toNat = y283 from Ny283.out.symm] at hr37
           replace hr37 : Kd.C k60 _ A37 y283.length y283 := (by rw [hA37]; exact hr37)
           rw [← hy37, ← hA37, ← hc37] at hcut37
           have HR286 := Aside0.mk hr37
           have HC286 := Aside0.mk (show y283.length ≤ c37 from by rw [hy37, hc37]; exact Nat.sub_le_sub_right hroom37 _)
           clear hr37 hC37 hroom37 hi037 hsz37 hc37
           have KY37 := Aside0.mk hy37
           have KA37 := Aside0.mk hA37
           clear hy37 hA37
           have KL37 := Aside0.mk (show (x5_1 : Int).toNat ≤ l0.length from by omega)
           replace q37 := eq_true q37
           try go_wp2_with (first | ((with_reducible refine gate_builtin (b := .append) (xs := #[.tmp 42, .tmp 45]) rfl ?_); at_builtin; refine Kd.R_append_rows k60 (w0 := w0) w0.heap.size rfl (.tmp 42) (.tmp 45) 24 60 (.agg #[(.int .i64 0), (.int .i64 0)]) 16 rfl Try.underlying24 info60 rfl (by decide) (by omega) v281 y280 y283 _ _ _ (fun k_ => (P0_ k_ ∨ w.heap.size ≤ k_) ∧ some k_ ≠ (.slice (some ad264) l0.length co24 : Value).ownBlock ∧ some k_ ≠ (.slice Ao36 y277.length co36 : Value).ownBlock ∧ k_ ≠ gb263) (fun _ => False) rfl rfl ?aO ?aR (fun _ _ h => h) (fun _ h => h.elim) ?aF ?aB ?aS ?aL ?_; (case aR => repeat (first | exact (by repeat (first | (with_reducible exact HR286.out) | (with_reducible refine Kd.C_alloc ?_ _) | (with_reducible refine Kd.C_drewN ?_ _) | (with_reducible refine Kd.C_drew ?_) | exact HR286.out)) | (with_reducible refine Kd.C_alloc ?_ _) | (with_reducible refine Kd.C_drewN ?_ _) | (with_reducible refine Kd.C_drew ?_))); (case aB => exact (hs_ GE263.out)); (case aF => exact (fun k_ hk => ⟨(.inr (Nat.le_trans (by first | exact HK.out.1 | exact (show Kept w _ (fun k_ => P0_ k_) from by repeat (first | (with_reducible first | exact HK.out | apply Kept.alloc | apply Kept.drewN | apply Kept.drew | refine Kept.setCell ?_ (.inr GW263.out) _) | exact HK.out)).1) hk)), Kd.fresh' (Kd.R_lt (ra_ HO_0.out)) k_ hk, Kd.fresh' (Kd.R_lt (ra_ HO279.out)) k_ hk, Kd.freshB (g := gb263) (o := .cells #[.int .i64 a1_0, .int .i64 a1_1] 60 (0, 0)) (kx_ BK263.out) k_ hk⟩)); (case aO => exact (ra_ HO282.out)); (case aS => exact (below_size (hs_ GE263.out))); (case aL => have := LMc22.out; omega); intro v288 w38 ho hb hg hat; rw [← Ny287.out] at ho; have n0_ := Aside0.mk (Kd.R_after (ok := (fun k_ => (P0_ k_ ∨ w.heap.size ≤ k_) ∧ some k_ ≠ (.slice Ao36 y277.length co36 : Value).ownBlock ∧ k_ ≠ gb263)) (ra_ HO_0.out) hg hat); have n1_ := Aside0.mk (blk_grown (g := gb263) (o := .cells #[.int .i64 a1_0, .int .i64 a1_1] 60 (0, 0)) (kx_ BK263.out) hg (Kd.R_away HO282.out (fun _ hk => hk.2.2.2))); have n2_ := Aside0.mk (Kd.R_after (ok := (fun k_ => (P0_ k_ ∨ w.heap.size ≤ k_) ∧ some k_ ≠ (.slice (some ad264) l0.length co24 : Value).ownBlock ∧ k_ ≠ gb263)) (ra_ HO279.out) hg hat); have n3_ := Aside0.mk (hb); have n4_ := Aside0.mk (Kept.of_grown (S := (fun k_ => P0_ k_)) hg (by repeat (first | (with_reducible first | exact HK.out | apply Kept.alloc | apply Kept.drewN | apply Kept.drew | refine Kept.setCell ?_ (.inr GW263.out) _) | exact HK.out)) (fun k_ e_ => (HO282.out.1 k_ e_).1)); have n5_ := Aside0.mk ((show Kd.C k60 w38 A37 y283.length y283 from by rw [Ny283.out, KA37.out]; exact Kd.C_drop (m := (x5_1 : Int).toNat) (c := co24) ((Kd.R_reads' (Kd.R_after (ok := (fun k_ => (P0_ k_ ∨ w.heap.size ≤ k_) ∧ some k_ ≠ (.slice Ao36 y277.length co36 : Value).ownBlock ∧ k_ ≠ gb263)) (ra_ HO_0.out) hg hat)).2.2) KL37.out ((Kd.R_reads' (Kd.R_after (ok := (fun k_ => (P0_ k_ ∨ w.heap.size ≤ k_) ∧ some k_ ≠ (.slice Ao36 y277.length co36 : Value).ownBlock ∧ k_ ≠ gb263)) (ra_ HO_0.out) hg hat)).2.1))); have n6_ := Aside0.mk (ho); clear HO_0; clear BK263; clear HO279; clear HB; clear HK; clear HR286; clear HO282; have HO_0 := n0_; have BK263 := n1_; have HO279 := n2_; have HB := n3_; have HK := n4_; have HR286 := n5_; have HO289 := n6_; clear n0_ n1_ n2_ n3_ n4_ n5_ n6_; clear ho hb hg hat))
           go_ret
           exact ⟨_, by first | rfl | (simp [errW_none, errW_some] <;> rfl) | (simp [*, errW_none, errW_some] <;> rfl), by (with_reducible repeat (first | apply rA | apply rN | apply rD)); exact Kd.R_mono HO289.out (fun _ hk => hk.1), hs_ GE263.out, by repeat (first | (with_reducible first | exact HK.out | apply Kept.alloc | apply Kept.drewN | apply Kept.drew | refine Kept.setCell ?_ (.inr GW263.out) _) | exact HK.out)⟩
          ·rw [if_neg c22] at H
           exact absurd H (by simp)
         ·rw [if_neg c19] at H
          exact absurd H (by simp)
        ·rw [if_neg c18] at H
         exact absurd H (by simp)
       ·rw [if_neg c17] at H
        exact absurd H (by simp)
    ·rw [if_neg c5] at H
     exact absurd H (by simp)
   ·rw [if_neg c4] at H
    have c4b0 : decide (x5_1 < (l0.length : Int)) = false := decide_eq_false c4
    clear c4
    obtain ⟨y290, hy290⟩ : ∃ y_ : List (S60), y_ = (([] : List (S60))) := ⟨_, rfl⟩
    replace H : (if 0 ≤ x5_1 then (if x5_1 ≤ (l0.length : Int) then ((some (l0.take (x5_1 : Int).toNat : List (S60))).bind fun y293 => (if y290.length + y293.length < 8796093022208 then ((some (y290 ++ y293 : List (S60))).bind fun y297 => ((some (([(⟨a1_0, a1_1⟩ : S60)] : List (S60)) : List (S60))).bind fun y300 => (if y297.length + y300.length < 8796093022208 then ((some (y297 ++ y300 : List (S60))).bind fun y303 => ((some (l0.drop (x5_1 : Int).toNat : List (S60))).bind fun y306 => (if y303.length + y306.length < 8796093022208 then (some (y303 ++ y306)) else (none)))) else (none)))) else (none))) else (none)) else (none)) = some r := by first | (rw [hy290]; with_reducible exact H) | (have H2_ := (Option.bind_some _ _).symm.trans H; rw [hy290]; with_reducible exact H2_) | (have H2_ := (Option.bind_some _ _).symm.trans H; with_reducible exact H2_) | with_reducible exact H | (rw [hy290]; exact H) | exact H
    have Ny290 := Aside0.mk hy290
    clear hy290
    by_cases c39 : 0 ≤ x5_1
    ·rw [if_pos c39] at H
     have c39b0 := eq_true c39
     have c39b1 : decide (0 ≤ x5_1) = true := decide_eq_true c39
     clear c39
     by_cases c40 : x5_1 ≤ (l0.length : Int)
     ·rw [if_pos c40] at H
      have c40b0 := eq_true c40
      have c40b1 : decide (x5_1 ≤ (l0.length : Int)) = true := decide_eq_true c40
      clear c40
      obtain ⟨y293, hy293⟩ : ∃ y_ : List (S60), y_ = (l0.take (x5_1 : Int).toNat) := ⟨_, rfl⟩
      replace H : (if y290.length + y293.length < 8796093022208 then ((some (y290 ++ y293 : List (S60))).bind fun y297 => ((some (([(⟨a1_0, a1_1⟩ : S60)] : List (S60)) : List (S60))).bind fun y300 => (if y297.length + y300.length < 8796093022208 then ((some (y297 ++ y300 : List (S60))).bind fun y303 => ((some (l0.drop (x5_1 : Int).toNat : List (S60))).bind fun y306 => (if y303.length + y306.length < 8796093022208 then (some (y303 ++ y306)) else (none)))) else (none)))) else (none)) = some r := by first | (rw [hy293]; with_reducible exact H) | (have H2_ := (Option.bind_some _ _).symm.trans H; rw [hy293]; with_reducible exact H2_) | (have H2_ := (Option.bind_some _ _).symm.trans H; with_reducible exact H2_) | with_reducible exact H | (rw [hy293]; exact H) | exact H
      have Ny293 := Aside0.mk hy293
      clear hy293
      by_cases c41 : y290.length + y293.length < 8796093022208
      ·rw [if_pos c41] at H
       have LMc41 := Aside0.mk c41
       clear c41
       obtain ⟨y297, hy297⟩ : ∃ y_ : List (S60), y_ = (y290 ++ y293) := ⟨_, rfl⟩
       replace H : ((some (([(⟨a1_0, a1_1⟩ : S60)] : List (S60)) : List (S60))).bind fun y300 => (if y297.length + y300.length < 8796093022208 then ((some (y297 ++ y300 : List (S60))).bind fun y303 => ((some (l0.drop (x5_1 : Int).toNat : List (S60))).bind fun y306 => (if y303.length + y306.length < 8796093022208 then (some (y303 ++ y306)) else (none)))) else (none))) = some r := by first | (rw [hy297]; with_reducible exact H) | (have H2_ := (Option.bind_some _ _).symm.trans H; rw [hy297]; with_reducible exact H2_) | (have H2_ := (Option.bind_some _ _).symm.trans H; with_reducible exact H2_) | with_reducible exact H | (rw [hy297]; exact H) | exact H
       have Ny297 := Aside0.mk hy297
       clear hy297
       obtain ⟨y300, hy300⟩ : ∃ y_ : List (S60), y_ = (([(⟨a1_0, a1_1⟩ : S60)] : List (S60))) := ⟨_, rfl⟩
       replace H : (if y297.length + y300.length < 8796093022208 then ((some (y297 ++ y300 : List (S60))).bind fun y303 => ((some (l0.drop (x5_1 : Int).toNat : List (S60))).bind fun y306 => (if y303.length + y306.length < 8796093022208 then (some (y303 ++ y306)) else (none)))) else (none)) = some r := by first | (rw [hy300]; with_reducible exact H) | (have H2_ := (Option.bind_some _ _).symm.trans H; rw [hy300]; with_reducible exact H2_) | (have H2_ := (Option.bind_some _ _).symm.trans H; with_reducible exact H2_) | with_reducible exact H | (rw [hy300]; exact H) | exact H
       have Ny300 := Aside0.mk hy300
       clear hy300
       by_cases c42 : y297.length + y300.length < 8796093022208
       ·rw [if_pos c42] at H
        have LMc42 := Aside0.mk c42
        clear c42
        obtain ⟨y303, hy303⟩ : ∃ y_ : List (S60), y_ = (y297 ++ y300) := ⟨_, rfl⟩
        replace H : ((some (l0.drop (x5_1 : Int).toNat : List (S60))).bind fun y306 => (if y303.length + y306.length < 8796093022208 then (some (y303 ++ y306)) else (none))) = some r := by first | (rw [hy303]; with_reducible exact H) | (have H2_ := (Option.bind_some _ _).symm.trans H; rw [hy303]; with_reducible exact H2_) | (have H2_ := (Option.bind_some _ _).symm.trans H; with_reducible exact H2_) | with_reducible exact H | (rw [hy303]; exact H) | exact H
        have Ny303 := Aside0.mk hy303
        clear hy303
        have c43b0 := eq_true (of_decide_eq_true (by assumption) : 0 ≤ x5_1)
        have c44b0 := eq_true (of_decide_eq_true (by assumption) : x5_1 ≤ (l0.length : Int))
        obtain ⟨y306, hy306⟩ : ∃ y_ : List (S60), y_ = (l0.drop (x5_1 : Int).toNat) := ⟨_, rfl⟩
        replace H : (if y303.length + y306.length < 8796093022208 then (some (y303 ++ y306)) else (none)) = some r := by first | (rw [hy306]; with_reducible exact H) | (have H2_ := (Option.bind_some _ _).symm.trans H; rw [hy306]; with_reducible exact H2_) | (have H2_ := (Option.bind_some _ _).symm.trans H; with_reducible exact H2_) | with_reducible exact H | (rw [hy306]; exact H) | exact H
        have Ny306 := Aside0.mk hy306
        clear hy306
        by_cases c45 : y303.length + y306.length < 8796093022208
        ·rw [if_pos c45] at H
         have LMc45 := Aside0.mk c45
         clear c45
         obtain ⟨y310, hy310⟩ : ∃ y_ : List (S60), y_ = (y303 ++ y306) := ⟨_, rfl⟩
         replace H : (some y310) = some r := by first | (rw [hy310]; with_reducible exact H) | (have H2_ := (Option.bind_some _ _).symm.trans H; rw [hy310]; with_reducible exact H2_) | (have H2_ := (Option.bind_some _ _).symm.trans H; with_reducible exact H2_) | with_reducible exact H | (rw [hy310]; exact H) | exact H
         have Ny310 := Aside0.mk hy310
         clear hy310
         obtain rfl := oI H
         try go_wp2
         have n0_ := Aside0.mk (Kd.R_drew HO_0.out)
         have n1_ := Aside0.mk (blk_drew BK263.out)
         have n2_ := Aside0.mk (Kept.drew HK.out)
         have n3_ := Aside0.mk (below_drew1 HB.out)
         clear HO_0
         clear BK263
         clear HK
         clear HB
         have HO_0 := n0_
         have BK263 := n1_
         have HK := n2_
         have HB := n3_
         clear n0_ n1_ n2_ n3_
         obtain ⟨Ao47, co47, eo47⟩ := Kd.R_slice HO_0.out
         (first | subst eo47 | (injection eo47 with f1_ f2_ f3_; have f4_ := f1_.symm; have f5_ := f3_.symm; clear f1_ f2_ f3_; subst f4_; subst f5_))
         refine start_ (n := 12) (S := fun w' => True) (ds := []) #[false, false, false, false, false, false, false, false, false, false, false, false] (by kernel_rfl) rfl rfl trivial (fun hHeld => ?_); refine with_tabW spec_srPut.tab2 spec_srPut.bits2 (fun HT_ HW_ => ?_)
         generalize wr.drew = w46 at HO_0 BK263 HK HB hHeld ⊢
         refine pure_ (i := 0) (N := some 7) (v := ?_) (a' := ?_) #[true, false, false, false, false, false, false, false, false, false, false, false] rfl rfl (any_of HT_.out (by kernel_rfl)) (fun _ _ _ h => h) (Or.inl ⟨by rfl, ?_⟩) ?_ ?_
         rotate_left
         ·intro w'
          go_simp
          with_reducible rfl
         rotate_left
         ·simp only [Act.put, sT, sZ, sS, i64_w, i32_w]
          rfl
         refine pure_ (i := 1) (N := some 8) (v := ?_) (a' := ?_) #[true, true, false, false, false, false, false, false, false, false, false, false] rfl rfl (any_of HT_.out (by kernel_rfl)) (fun _ _ _ h => h) (Or.inl ⟨by rfl, ?_⟩) ?_ ?_
         rotate_left
         ·intro w'
          go_simp
          with_reducible rfl
         rotate_left
         ·simp only [Act.put, sT, sZ, sS, i64_w, i32_w]
          rfl
         refine pure_ (i := 2) (N := some 9) (v := ?_) (a' := ?_) #[true, true, true, false, false, false, false, false, false, false, false, false] rfl rfl (any_of HT_.out (by kernel_rfl)) (fun _ _ _ h => h) (Or.inl ⟨by rfl, ?_⟩) ?_ ?_
         rotate_left
         ·intro w'
          go_simp
          with_reducible rfl
         rotate_left
         ·simp only [Act.put, sT, sZ, sS, i64_w, i32_w]
          rfl
         refine pure_ (i := 3) (N := some 10) (v := ?_) (a' := ?_) #[true, true, true, true, false, false, false, false, false, false, false, false] rfl rfl (any_of HT_.out (by kernel_rfl)) (fun _ _ _ h => h) (Or.inl ⟨by rfl, ?_⟩) ?_ ?_
         rotate_left
         ·intro w'
          go_simp
          with_reducible rfl
         rotate_left
         ·simp only [Act.put, sT, sZ, sS, i64_w, i32_w]
          rfl
         refine pure_ (i := 4) (N := some 11) (v := ?_) (a' := ?_) #[true, true, true, true, true, false, false, false, false, false, false, false] rfl rfl (any_of HT_.out (by kernel_rfl)) (fun _ _ _ h => h) (Or.inl ⟨by rfl, ?_⟩) ?_ ?_
         rotate_left
         ·intro w'
          go_simp
          with_reducible rfl
         rotate_left
         ·simp only [Act.put, sT, sZ, sS, i64_w, i32_w]
          rfl
         refine pure_ (i := 5) (N := some 12) (v := undef) (a' := ?_) #[true, true, true, true, true, true, false, false, false, false, false, false] rfl rfl (any_of HT_.out (by kernel_rfl)) (fun _ _ _ h => h) (Or.inr ⟨by rfl, rfl⟩) ?_ ?_
         rotate_left
         ·simp only [Act.put, sT, sZ, sS, i64_w, i32_w]
          rfl
         refine pure_ (i := 6) (N := some 13) (v := undef) (a' := ?_) #[true, true, true, true, true, true, true, false, false, false, false, false] rfl rfl (any_of HT_.out (by kernel_rfl)) (fun _ _ _ h => h) (Or.inr ⟨by rfl, rfl⟩) ?_ ?_
         rotate_left
         ·simp only [Act.put, sT, sZ, sS, i64_w, i32_w]
          rfl
         refine pure_ (i := 7) (N := some 14) (v := undef) (a' := ?_) #[true, true, true, true, true, true, true, true, false, false, false, false] rfl rfl (any_of HT_.out (by kernel_rfl)) (fun _ _ _ h => h) (Or.inr ⟨by rfl, rfl⟩) ?_ ?_
         rotate_left
         ·simp only [Act.put, sT, sZ, sS, i64_w, i32_w]
          rfl
         refine pure_ (i := 8) (N := some 15) (v := undef) (a' := ?_) #[true, true, true, true, true, true, true, true, true, false, false, false] rfl rfl (any_of HT_.out (by kernel_rfl)) (fun _ _ _ h => h) (Or.inr ⟨by rfl, rfl⟩) ?_ ?_
         rotate_left
         ·simp only [Act.put, sT, sZ, sS, i64_w, i32_w]
          rfl
         refine pure_ (i := 9) (N := some 16) (v := undef) (a' := ?_) #[true, true, true, true, true, true, true, true, true, true, false, false] rfl rfl (any_of HT_.out (by kernel_rfl)) (fun _ _ _ h => h) (Or.inr ⟨by rfl, rfl⟩) ?_ ?_
         rotate_left
         ·simp only [Act.put, sT, sZ, sS, i64_w, i32_w]
          rfl
         refine pure_ (i := 10) (N := some 17) (v := undef) (a' := ?_) #[true, true, true, true, true, true, true, true, true, true, true, false] rfl rfl (any_of HT_.out (by kernel_rfl)) (fun _ _ _ h => h) (Or.inr ⟨by rfl, rfl⟩) ?_ ?_
         rotate_left
         ·simp only [Act.put, sT, sZ, sS, i64_w, i32_w]
          rfl
         refine pure_ (i := 11) (N := some 18) (v := ?_) (a' := ?_) #[true, true, true, true, true, true, true, true, true, true, true, true] rfl rfl (any_of HT_.out (by kernel_rfl)) (fun _ _ _ h => h) (Or.inl ⟨by rfl, ?_⟩) ?_ ?_
         rotate_left
         ·intro w'
          go_simp
          with_reducible rfl
         rotate_left
         ·simp only [Act.put, sT, sZ, sS, i64_w, i32_w]
          rfl
         refine done_ (done_of HT_.out (by kernel_rfl)) ?_
         try go_wp2
         have n0_ := Aside0.mk (Kd.R_drew HO_0.out)
         have n1_ := Aside0.mk (blk_drew BK263.out)
         have n2_ := Aside0.mk (Kept.drew HK.out)
         have n3_ := Aside0.mk (below_drew1 HB.out)
         clear HO_0
         clear BK263
         clear HK
         clear HB
         have HO_0 := n0_
         have BK263 := n1_
         have HK := n2_
         have HB := n3_
         clear n0_ n1_ n2_ n3_
         refine start_ (n := 12) (S := fun w' => True) (ds := []) #[false, false, false, false, false, false, false, false, false, false, false, false] (by kernel_rfl) rfl rfl trivial (fun hHeld => ?_); refine with_tabW spec_srPut.tab4 spec_srPut.bits4 (fun HT_ HW_ => ?_)
         generalize w46.drew = w48 at HO_0 BK263 HK HB hHeld ⊢
         refine pure_ (i := 0) (N := some 21) (v := ?_) (a' := ?_) #[true, false, false, false, false, false, false, false, false, false, false, false] rfl rfl (any_of HT_.out (by kernel_rfl)) (fun _ _ _ h => h) (Or.inl ⟨by rfl, ?_⟩) ?_ ?_
         rotate_left
         ·intro w'
          go_simp
          with_reducible rfl
         rotate_left
         ·simp only [Act.put, sT, sZ, sS, i64_w, i32_w]
          rfl
         refine pure_ (i := 1) (N := some 22) (v := ?_) (a' := ?_) #[true, true, false, false, false, false, false, false, false, false, false, false] rfl rfl (any_of HT_.out (by kernel_rfl)) (fun _ _ _ h => h) (Or.inl ⟨by rfl, ?_⟩) ?_ ?_
         rotate_left
         ·intro w'
          go_simp
          with_reducible rfl
         rotate_left
         ·simp only [Act.put, sT, sZ, sS, i64_w, i32_w]
          rfl
         refine pure_ (i := 2) (N := some 23) (v := ?_) (a' := ?_) #[true, true, true, false, false, false, false, false, false, false, false, false] rfl rfl (any_of HT_.out (by kernel_rfl)) (fun _ _ _ h => h) (Or.inl ⟨by rfl, ?_⟩) ?_ ?_
         rotate_left
         ·intro w'
          go_simp
          with_reducible rfl
         rotate_left
         ·simp only [Act.put, sT, sZ, sS, i64_w, i32_w]
          rfl
         refine pure_ (i := 3) (N := some 24) (v := ?_) (a' := ?_) #[true, true, true, true, false, false, false, false, false, false, false, false] rfl rfl (any_of HT_.out (by kernel_rfl)) (fun _ _ _ h => h) (Or.inl ⟨by rfl, ?_⟩) ?_ ?_
         rotate_left
         ·intro w'
          go_simp
          with_reducible rfl
         rotate_left
         ·simp only [Act.put, sT, sZ, sS, i64_w, i32_w]
          rfl
         refine pure_ (i := 4) (N := some 25) (v := ?_) (a' := ?_) #[true, true, true, true, true, false, false, false, false, false, false, false] rfl rfl (any_of HT_.out (by kernel_rfl)) (fun _ _ _ h => h) (Or.inl ⟨by rfl, ?_⟩) ?_ ?_
         rotate_left
         ·intro w'
          go_simp
          with_reducible rfl
         rotate_left
         ·simp only [Act.put, sT, sZ, sS, i64_w, i32_w]
          rfl
         refine pure_ (i := 5) (N := some 26) (v := undef) (a' := ?_) #[true, true, true, true, true, true, false, false, false, false, false, false] rfl rfl (any_of HT_.out (by kernel_rfl)) (fun _ _ _ h => h) (Or.inr ⟨by rfl, rfl⟩) ?_ ?_
         rotate_left
         ·simp only [Act.put, sT, sZ, sS, i64_w, i32_w]
          rfl
         refine pure_ (i := 6) (N := some 27) (v := undef) (a' := ?_) #[true, true, true, true, true, true, true, false, false, false, false, false] rfl rfl (any_of HT_.out (by kernel_rfl)) (fun _ _ _ h => h) (Or.inr ⟨by rfl, rfl⟩) ?_ ?_
         rotate_left
         ·simp only [Act.put, sT, sZ, sS, i64_w, i32_w]
          rfl
         refine pure_ (i := 7) (N := some 28) (v := undef) (a' := ?_) #[true, true, true, true, true, true, true, true, false, false, false, false] rfl rfl (any_of HT_.out (by kernel_rfl)) (fun _ _ _ h => h) (Or.inr ⟨by rfl, rfl⟩) ?_ ?_
         rotate_left
         ·simp only [Act.put, sT, sZ, sS, i64_w, i32_w]
          rfl
         refine pure_ (i := 8) (N := some 29) (v := undef) (a' := ?_) #[true, true, true, true, true, true, true, true, true, false, false, false] rfl rfl (any_of HT_.out (by kernel_rfl)) (fun _ _ _ h => h) (Or.inr ⟨by rfl, rfl⟩) ?_ ?_
         rotate_left
         ·simp only [Act.put, sT, sZ, sS, i64_w, i32_w]
          rfl
         refine pure_ (i := 9) (N := some 30) (v := undef) (a' := ?_) #[true, true, true, true, true, true, true, true, true, true, false, false] rfl rfl (any_of HT_.out (by kernel_rfl)) (fun _ _ _ h => h) (Or.inr ⟨by rfl, rfl⟩) ?_ ?_
         rotate_left
         ·simp only [Act.put, sT, sZ, sS, i64_w, i32_w]
          rfl
         refine pure_ (i := 10) (N := some 31) (v := undef) (a' := ?_) #[true, true, true, true, true, true, true, true, true, true, true, false] rfl rfl (any_of HT_.out (by kernel_rfl)) (fun _ _ _ h => h) (Or.inr ⟨by rfl, rfl⟩) ?_ ?_
         rotate_left
         ·simp only [Act.put, sT, sZ, sS, i64_w, i32_w]
          rfl
         refine pure_ (i := 11) (N := some 32) (v := ?_) (a' := ?_) #[true, true, true, true, true, true, true, true, true, true, true, true] rfl rfl (any_of HT_.out (by kernel_rfl)) (fun _ _ _ h => h) (Or.inl ⟨by rfl, ?_⟩) ?_ ?_
         rotate_left
         ·intro w'
          go_simp
          with_reducible rfl
         rotate_left
         ·simp only [Act.put, sT, sZ, sS, i64_w, i32_w]
          rfl
         refine done_ (done_of HT_.out (by kernel_rfl)) ?_
         try go_wp2
         have n0_ := Aside0.mk (Kd.R_drew HO_0.out)
         have n1_ := Aside0.mk (blk_drew BK263.out)
         have n2_ := Aside0.mk (Kept.drew HK.out)
         have n3_ := Aside0.mk (below_drew1 HB.out)
         clear HO_0
         clear BK263
         clear HK
         clear HB
         have HO_0 := n0_
         have BK263 := n1_
         have HK := n2_
         have HB := n3_
         clear n0_ n1_ n2_ n3_
         have q50 : (x5_1 : Int) ≤ ((l0.length : Int) : Int) := of_decide_eq_true (by assumption)
         obtain ⟨i050, hi050, _, hsz50, _⟩ := info_parts info60
         have hroom50 : l0.length ≤ co47 := (Kd.R_reads' HO_0.out).2.1
         have hC50 : Kd.C k60 _ Ao47 l0.length l0 := (Kd.R_reads' HO_0.out).2.2
         have hcut50 := cut_to (P := Try.prog) 24 60 .i64 Try.underlying24 hi050 Ao47 l0.length co47 x5_1 (of_decide_eq_true (by assumption)) q50 hroom50
         have hr50 := Kd.C_take (m := (x5_1 : Int).toNat) hC50 (by omega)
         have hy50 : y293.length = (x5_1 : Int).toNat := (by rw [Ny293.out, List.length_take]; omega)
         rw [← Ny293.out] at hr50
         rw [← hy50] at hcut50
         have HR296 := Aside0.mk hr50
         have HC296 := Aside0.mk (show y293.length ≤ co47 from by omega)
         clear hr50 hC50 hroom50 hi050 hsz50
         have KY50 := Aside0.mk hy50
         clear hy50
         have KL50 := Aside0.mk (show (x5_1 : Int).toNat ≤ l0.length from by omega)
         replace q50 := eq_true q50
         refine start_ (n := 9) (S := fun w' => w'.cell? ⟨gb263, 0, none⟩ = some (.int .i64 a1_0) ∧ w'.cell? ⟨gb263, 1, none⟩ = some (.int .i64 a1_1)) (ds := []) #[false, false, false, false, false, false, false, false, false] (by kernel_rfl) rfl rfl ⟨bc_ BK263 0, bc_ BK263 1⟩ (fun hHeld => ?_); refine with_tabW spec_srPut.tab6 spec_srPut.bits6 (fun HT_ HW_ => ?_)
         generalize w48.drew = w49 at HO_0 BK263 HK HB HR296 hHeld ⊢
         refine pure_ (i := 1) (N := some 35) (v := ?_) (a' := ?_) #[false, true, false, false, false, false, false, false, false] rfl rfl (any_of HT_.out (by kernel_rfl)) (fun _ _ _ h => h) (Or.inl ⟨by rfl, ?_⟩) ?_ ?_
         rotate_left
         ·intro w'
          go_simp
          with_reducible rfl
         rotate_left
         ·simp only [Act.put, sT, sZ, sS, i64_w, i32_w]
          rfl
         refine pure_ (i := 2) (N := some 36) (v := ?_) (a' := ?_) #[false, true, true, false, false, false, false, false, false] rfl rfl (any_of HT_.out (by kernel_rfl)) (fun _ _ _ h => h) (Or.inl ⟨by rfl, ?_⟩) ?_ ?_
         rotate_left
         ·intro w'
          go_simp
          with_reducible rfl
         rotate_left
         ·simp only [Act.put, sT, sZ, sS, i64_w, i32_w]
          rfl
         refine pure_ (i := 3) (N := some 37) (v := ?_) (a' := ?_) #[false, true, true, true, false, false, false, false, false] rfl rfl (any_of HT_.out (by kernel_rfl)) (fun _ _ _ h => h) (Or.inl ⟨by rfl, ?_⟩) ?_ ?_
         rotate_left
         ·intro w'
          go_simp
          with_reducible rfl
         rotate_left
         ·simp only [Act.put, sT, sZ, sS, i64_w, i32_w]
          rfl
         refine take_ (i := 5) (N := some 39) (v := ?_) (a' := ?_) #[false, true, true, true, false, true, false, false, false] rfl rfl (take_ofW HT_.out HW_.out (by kernel_rfl)) (fun _ _ _ h => h) (Or.inl ⟨by rfl, ?_⟩) hHeld ?_ ?_
         rotate_left
         ·rintro w' ⟨s0, s1⟩
          go_simp
          with_reducible rfl
         rotate_left
         ·simp only [Act.put, sT, sZ, sS, i64_w, i32_w]
          rfl
         refine join_ (σ := Value × Value × Value) 2 #[true, true, true, true, true, true, true, false, false] (fun s_ => [(34, s_.1), (38, s_.2.1), (40, s_.2.2)]) (fun s_ w' => (w'.cell? ⟨gb263, 0, none⟩ = some (.int .i64 a1_0) ∧ w'.cell? ⟨gb263, 1, none⟩ = some (.int .i64 a1_1)) ∧ (Kd.R k60 60 w' w0.heap.size (fun k_ => (P0_ k_ ∨ w.heap.size ≤ k_) ∧ some k_ ≠ (s_.2.2 : Value).ownBlock ∧ some k_ ≠ (.slice Ao47 l0.length co47 : Value).ownBlock ∧ k_ ≠ gb263) s_.2.1 y297) ∧ (Kd.R k60 60 w' w0.heap.size (fun k_ => (P0_ k_ ∨ w.heap.size ≤ k_) ∧ some k_ ≠ (s_.2.1 : Value).ownBlock ∧ some k_ ≠ (.slice Ao47 l0.length co47 : Value).ownBlock ∧ k_ ≠ gb263) s_.2.2 y300) ∧ (Kd.R k60 60 w' w0.heap.size (fun k_ => (P0_ k_ ∨ w.heap.size ≤ k_) ∧ some k_ ≠ (s_.2.1 : Value).ownBlock ∧ some k_ ≠ (s_.2.2 : Value).ownBlock ∧ k_ ≠ gb263) (.slice Ao47 l0.length co47) l0) ∧ (w'.heap[gb263]? = some (.cells #[.int .i64 a1_0, .int .i64 a1_1] 60 (0, 0))) ∧ (Kept w w' (fun k_ => P0_ k_)) ∧ (Below w0.heap.size w0 w')) ?_ ?_
         rotate_left
         ·intro hCont
          refine two_ (i := 0) (j := 6) (Ni := some 34) (Nj := some 40) #[true, true, true, true, false, true, false, false, false] #[false, true, true, true, false, true, true, false, false] rfl rfl rfl rfl (two_of HT_.out (by kernel_rfl)) (by decide) (by decide) (fun K hK => ?_) (fun K hK => ?_)
          ·skip
           refine Kd.R_lit_step k60 _ 60 ?hg (N := 34) ?hd (xs := ([] : List (S60))) (inner := []) (ok := fun _ => True) (okp := fun _ => True) ?hr ?hp (fun _ hk => hk) trivial (Below.refl _ _) (Nat.le_refl _) (by simp) ?_; (case hd => rfl); (case hg => rfl); (case hr => first | (go_simp; done) | (go_simp; rfl)); (case hp => exact (Reps.none _ _))
           intro v291 w51 ho52 hb hg_ hnew_
           clear hg_ hnew_
           (first | rw [← Ny290.out] at ho52 | (simp only [Int.reduceToNat] at ho52; rw [← Ny290.out] at ho52))
           have n0_ := Aside0.mk (Kd.R_elder' (ra_ HO_0.out) (Kd.R_base ho52) hb)
           have n1_ := Aside0.mk (Kd.R_lower (Kd.R_newB (Kd.R_new' (Kd.R_newM (M := fun k_ => (P0_ k_ ∨ w.heap.size ≤ k_)) ho52 (by first | exact HK.out.1 | exact (show Kept w _ (fun k_ => P0_ k_) from by repeat (first | (with_reducible first | exact HK.out | apply Kept.alloc | apply Kept.drewN | apply Kept.drew | refine Kept.setCell ?_ (.inr GW263.out) _) | exact HK.out)).1) (fun k_ h_ => .inr h_)) (Kd.R_lt (ra_ HO_0.out))) (g := gb263) (o := .cells #[.int .i64 a1_0, .int .i64 a1_1] 60 (0, 0)) (kx_ BK263.out)) (below_size (hs_ GE263.out)))
           have n2_ := Aside0.mk (blk_below (g := gb263) (o := .cells #[.int .i64 a1_0, .int .i64 a1_1] 60 (0, 0)) (kx_ BK263.out) hb)
           have n3_ := Aside0.mk (Kd.C_below (by repeat (first | (with_reducible exact HR296.out) | (with_reducible refine Kd.C_alloc ?_ _) | (with_reducible refine Kd.C_drewN ?_ _) | (with_reducible refine Kd.C_drew ?_) | exact HR296.out)) hb)
           have n4_ := Aside0.mk (Kept.below (S := (fun k_ => P0_ k_)) (by repeat (first | (with_reducible first | exact HK.out | apply Kept.alloc | apply Kept.drewN | apply Kept.drew | refine Kept.setCell ?_ (.inr GW263.out) _) | exact HK.out)) hb)
           have n5_ := Aside0.mk (below_step (hs_ GE263.out) hb)
           clear HO_0
           clear BK263
           clear HR296
           clear HK
           clear HB
           have HO_0 := n0_
           have HO292 := n1_
           have BK263 := n2_
           have HR296 := n3_
           have HK := n4_
           have HB := n5_
           clear n0_ n1_ n2_ n3_ n4_ n5_
           clear hb ho52
           refine hK.out _ _ ⟨bc_ BK263 0, bc_ BK263 1⟩ (fun hHeld => ?_)
           clear hK K
           refine norm_ (a' := ?_) ?_ ?_
           rotate_left
           ·show Act.put _ (some 34) _ = _
            simp only [Act.put, sT, sZ, sS, i64_w, i32_w]
            rfl
           refine two_ (i := 4) (j := 6) (Ni := some 38) (Nj := some 40) #[true, true, true, true, true, true, false, false, false] #[true, true, true, true, false, true, true, false, false] rfl rfl rfl rfl (two_of HT_.out (by kernel_rfl)) (by decide) (by decide) (fun K hK => ?_) (fun K hK => ?_)
           ·skip
            refine Kd.R_append_rows_step k60 (w0 := w0) w0.heap.size (by rfl) (.tmp 34) (.tmp 37) 24 60 (.agg #[(.int .i64 0), (.int .i64 0)]) 16 rfl Try.underlying24 info60 rfl (by decide) (by omega) v291 y290 y293 _ _ _ (fun k_ => (P0_ k_ ∨ w.heap.size ≤ k_) ∧ some k_ ≠ (.slice Ao47 l0.length co47 : Value).ownBlock ∧ k_ ≠ gb263) (fun _ => False) rfl rfl ?aO ?aR (fun _ _ h => h) (fun _ h => h.elim) ?aF ?aB ?aS ?aL ?_
            (case aR => repeat (first | exact (by repeat (first | (with_reducible exact HR296.out) | (with_reducible refine Kd.C_alloc ?_ _) | (with_reducible refine Kd.C_drewN ?_ _) | (with_reducible refine Kd.C_drew ?_) | exact HR296.out)) | (with_reducible refine Kd.C_alloc ?_ _) | (with_reducible refine Kd.C_drewN ?_ _) | (with_reducible refine Kd.C_drew ?_)))
            (case aB => exact (hs_ GE263.out))
            (case aF => exact (fun k_ hk => ⟨(.inr (Nat.le_trans (by first | exact HK.out.1 | exact (show Kept w _ (fun k_ => P0_ k_) from by repeat (first | (with_reducible first | exact HK.out | apply Kept.alloc | apply Kept.drewN | apply Kept.drew | refine Kept.setCell ?_ (.inr GW263.out) _) | exact HK.out)).1) hk)), Kd.fresh' (Kd.R_lt (ra_ HO_0.out)) k_ hk, Kd.freshB (g := gb263) (o := .cells #[.int .i64 a1_0, .int .i64 a1_1] 60 (0, 0)) (kx_ BK263.out) k_ hk⟩))
            (case aO => exact (by (with_reducible repeat (first | apply rA | apply rN | apply rD)); exact Kd.R_mono HO292.out (fun _ hk => ⟨hk.1.1.1, ⟨hk.1.2, hk.2⟩⟩)))
            (case aS => exact (below_size (hs_ GE263.out)))
            (case aL => have := LMc41.out; omega)
            intro v298 w53 ho hb hg hat
            rw [← Ny297.out] at ho
            have n0_ := Aside0.mk (Kd.R_after (ok := (fun k_ => (P0_ k_ ∨ w.heap.size ≤ k_) ∧ k_ ≠ gb263)) (ra_ HO_0.out) hg hat)
            have n1_ := Aside0.mk (blk_grown (g := gb263) (o := .cells #[.int .i64 a1_0, .int .i64 a1_1] 60 (0, 0)) (kx_ BK263.out) hg (Kd.R_away HO292.out (fun _ hk => hk.2)))
            have n2_ := Aside0.mk (hb)
            have n3_ := Aside0.mk (Kept.of_grown (S := (fun k_ => P0_ k_)) hg (by repeat (first | (with_reducible first | exact HK.out | apply Kept.alloc | apply Kept.drewN | apply Kept.drew | refine Kept.setCell ?_ (.inr GW263.out) _) | exact HK.out)) (fun k_ e_ => (HO292.out.1 k_ e_).1.1.1))
            have n4_ := Aside0.mk ((show Kd.C k60 w53 Ao47 y293.length y293 from by rw [Ny293.out]; exact Kd.C_take (m := (x5_1 : Int).toNat) ((Kd.R_reads' (Kd.R_after (ok := (fun k_ => (P0_ k_ ∨ w.heap.size ≤ k_) ∧ k_ ≠ gb263)) (ra_ HO_0.out) hg hat)).2.2) KL50.out))
            have n5_ := Aside0.mk (ho)
            clear HO_0
            clear BK263
            clear HB
            clear HK
            clear HR296
            clear HO292
            have HO_0 := n0_
            have BK263 := n1_
            have HB := n2_
            have HK := n3_
            have HR296 := n4_
            have HO299 := n5_
            clear n0_ n1_ n2_ n3_ n4_ n5_
            clear ho hb hg hat
            refine hK.out _ _ ⟨bc_ BK263 0, bc_ BK263 1⟩ (fun hHeld => ?_)
            clear hK K
            refine norm_ (a' := ?_) ?_ ?_
            rotate_left
            ·show Act.put _ (some 38) _ = _
             simp only [Act.put, sT, sZ, sS, i64_w, i32_w]
             rfl
            refine one_ (i := 6) (N := some 40) #[true, true, true, true, true, true, true, false, false] rfl rfl (one_of HT_.out (by kernel_rfl)) (by decide) (fun K hK => ?_)
            refine Kd.R_lit_step k60 _ 60 ?hg (N := 40) ?hd (xs := ([(⟨a1_0, a1_1⟩ : S60)] : List (S60))) (inner := [.int .i64 a1_0, .int .i64 a1_1]) (ok := fun _ => True) (okp := fun _ => True) ?hr ?hp (fun _ hk => hk) trivial (Below.refl _ _) (Nat.le_refl _) (by simp) ?_; (case hd => rfl); (case hg => rfl); (case hr => first | (go_simp; done) | (go_simp; rfl)); (case hp => exact (Reps.c2 (show Kd.M k60 _ _ _ (⟨a1_0, a1_1⟩ : S60) [.int .i64 a1_0, .int .i64 a1_1] from (k60_mkM _ _ _ (⟨a1_0, a1_1⟩ : S60) )) (Reps.none _ _)))
            intro v301 w54 ho55 hb hg_ hnew_
            clear hg_ hnew_
            (first | rw [← Ny300.out] at ho55 | (simp only [Int.reduceToNat] at ho55; rw [← Ny300.out] at ho55))
            have n0_ := Aside0.mk (Kd.R_elder' (ra_ HO_0.out) (Kd.R_base ho55) hb)
            have n1_ := Aside0.mk (Kd.R_elder' (ra_ HO299.out) (Kd.R_base ho55) hb)
            have n2_ := Aside0.mk (Kd.R_lower (Kd.R_newB (Kd.R_new' (Kd.R_new' (Kd.R_newM (M := fun k_ => (P0_ k_ ∨ w.heap.size ≤ k_)) ho55 (by first | exact HK.out.1 | exact (show Kept w _ (fun k_ => P0_ k_) from by repeat (first | (with_reducible first | exact HK.out | apply Kept.alloc | apply Kept.drewN | apply Kept.drew | refine Kept.setCell ?_ (.inr GW263.out) _) | exact HK.out)).1) (fun k_ h_ => .inr h_)) (Kd.R_lt (ra_ HO_0.out))) (Kd.R_lt (ra_ HO299.out))) (g := gb263) (o := .cells #[.int .i64 a1_0, .int .i64 a1_1] 60 (0, 0)) (kx_ BK263.out)) (below_size (hs_ GE263.out)))
            have n3_ := Aside0.mk (blk_below (g := gb263) (o := .cells #[.int .i64 a1_0, .int .i64 a1_1] 60 (0, 0)) (kx_ BK263.out) hb)
            have n4_ := Aside0.mk (Kd.C_below (by repeat (first | (with_reducible exact HR296.out) | (with_reducible refine Kd.C_alloc ?_ _) | (with_reducible refine Kd.C_drewN ?_ _) | (with_reducible refine Kd.C_drew ?_) | exact HR296.out)) hb)
            have n5_ := Aside0.mk (Kept.below (S := (fun k_ => P0_ k_)) (by repeat (first | (with_reducible first | exact HK.out | apply Kept.alloc | apply Kept.drewN | apply Kept.drew | refine Kept.setCell ?_ (.inr GW263.out) _) | exact HK.out)) hb)
            have n6_ := Aside0.mk (below_step (hs_ GE263.out) hb)
            clear HO_0
            clear HO299
            clear BK263
            clear HR296
            clear HK
            clear HB
            have HO_0 := n0_
            have HO299 := n1_
            have HO302 := n2_
            have BK263 := n3_
            have HR296 := n4_
            have HK := n5_
            have HB := n6_
            clear n0_ n1_ n2_ n3_ n4_ n5_ n6_
            clear hb ho55
            refine hK.out _ _ ⟨bc_ BK263 0, bc_ BK263 1⟩ (fun hHeld => ?_)
            clear hK K
            refine norm_ (a' := ?_) ?_ ?_
            rotate_left
            ·show Act.put _ (some 40) _ = _
             simp only [Act.put, sT, sZ, sS, i64_w, i32_w]
             rfl
            exact norm_ (by simp only [putAll, Act.put, sT, sZ, sS]) (hCont (v291, v298, v301) _ ⟨hHeld, (by (with_reducible repeat (first | apply rA | apply rN | apply rD)); exact Kd.R_mono HO299.out (fun _ hk => ⟨hk.1.1, ⟨hk.2, ⟨hk.1.2.1, hk.1.2.2⟩⟩⟩)), (by (with_reducible repeat (first | apply rA | apply rN | apply rD)); exact Kd.R_mono HO302.out (fun _ hk => ⟨hk.1.1.1.1, ⟨hk.1.2, ⟨hk.1.1.2, hk.2⟩⟩⟩)), (by (with_reducible repeat (first | apply rA | apply rN | apply rD)); exact Kd.R_mono HO_0.out (fun _ hk => ⟨hk.1.1.1, ⟨hk.1.2, ⟨hk.2, hk.1.1.2⟩⟩⟩)), (kx_ BK263.out), (by repeat (first | (with_reducible first | exact HK.out | apply Kept.alloc | apply Kept.drewN | apply Kept.drew | refine Kept.setCell ?_ (.inr GW263.out) _) | exact HK.out)), (hs_ GE263.out)⟩)
           ·skip
            refine Kd.R_lit_step k60 _ 60 ?hg (N := 40) ?hd (xs := ([(⟨a1_0, a1_1⟩ : S60)] : List (S60))) (inner := [.int .i64 a1_0, .int .i64 a1_1]) (ok := fun _ => True) (okp := fun _ => True) ?hr ?hp (fun _ hk => hk) trivial (Below.refl _ _) (Nat.le_refl _) (by simp) ?_; (case hd => rfl); (case hg => rfl); (case hr => first | (go_simp; done) | (go_simp; rfl)); (case hp => exact (Reps.c2 (show Kd.M k60 _ _ _ (⟨a1_0, a1_1⟩ : S60) [.int .i64 a1_0, .int .i64 a1_1] from (k60_mkM _ _ _ (⟨a1_0, a1_1⟩ : S60) )) (Reps.none _ _)))
            intro v301 w53 ho54 hb hg_ hnew_
            clear hg_ hnew_
            (first | rw [← Ny300.out] at ho54 | (simp only [Int.reduceToNat] at ho54; rw [← Ny300.out] at ho54))
            have n0_ := Aside0.mk (Kd.R_elder' (ra_ HO_0.out) (Kd.R_base ho54) hb)
            have n1_ := Aside0.mk (Kd.R_elder' (ra_ HO292.out) (Kd.R_base ho54) hb)
            have n2_ := Aside0.mk (Kd.R_lower (Kd.R_newB (Kd.R_new' (Kd.R_new' (Kd.R_newM (M := fun k_ => (P0_ k_ ∨ w.heap.size ≤ k_)) ho54 (by first | exact HK.out.1 | exact (show Kept w _ (fun k_ => P0_ k_) from by repeat (first | (with_reducible first | exact HK.out | apply Kept.alloc | apply Kept.drewN | apply Kept.drew | refine Kept.setCell ?_ (.inr GW263.out) _) | exact HK.out)).1) (fun k_ h_ => .inr h_)) (Kd.R_lt (ra_ HO_0.out))) (Kd.R_lt (ra_ HO292.out))) (g := gb263) (o := .cells #[.int .i64 a1_0, .int .i64 a1_1] 60 (0, 0)) (kx_ BK263.out)) (below_size (hs_ GE263.out)))
            have n3_ := Aside0.mk (blk_below (g := gb263) (o := .cells #[.int .i64 a1_0, .int .i64 a1_1] 60 (0, 0)) (kx_ BK263.out) hb)
            have n4_ := Aside0.mk (Kd.C_below (by repeat (first | (with_reducible exact HR296.out) | (with_reducible refine Kd.C_alloc ?_ _) | (with_reducible refine Kd.C_drewN ?_ _) | (with_reducible refine Kd.C_drew ?_) | exact HR296.out)) hb)
            have n5_ := Aside0.mk (Kept.below (S := (fun k_ => P0_ k_)) (by repeat (first | (with_reducible first | exact HK.out | apply Kept.alloc | apply Kept.drewN | apply Kept.drew | refine Kept.setCell ?_ (.inr GW263.out) _) | exact HK.out)) hb)
            have n6_ := Aside0.mk (below_step (hs_ GE263.out) hb)
            clear HO_0
            clear HO292
            clear BK263
            clear HR296
            clear HK
            clear HB
            have HO_0 := n0_
            have HO292 := n1_
            have HO302 := n2_
            have BK263 := n3_
            have HR296 := n4_
            have HK := n5_
            have HB := n6_
            clear n0_ n1_ n2_ n3_ n4_ n5_ n6_
            clear hb ho54
            refine hK.out _ _ ⟨bc_ BK263 0, bc_ BK263 1⟩ (fun hHeld => ?_)
            clear hK K
            refine norm_ (a' := ?_) ?_ ?_
            rotate_left
            ·show Act.put _ (some 40) _ = _
             simp only [Act.put, sT, sZ, sS, i64_w, i32_w]
             rfl
            refine one_ (i := 4) (N := some 38) #[true, true, true, true, true, true, true, false, false] rfl rfl (one_of HT_.out (by kernel_rfl)) (by decide) (fun K hK => ?_)
            refine Kd.R_append_rows_step k60 (w0 := w0) w0.heap.size (by rfl) (.tmp 34) (.tmp 37) 24 60 (.agg #[(.int .i64 0), (.int .i64 0)]) 16 rfl Try.underlying24 info60 rfl (by decide) (by omega) v291 y290 y293 _ _ _ (fun k_ => (P0_ k_ ∨ w.heap.size ≤ k_) ∧ some k_ ≠ (.slice Ao47 l0.length co47 : Value).ownBlock ∧ some k_ ≠ (v301 : Value).ownBlock ∧ k_ ≠ gb263) (fun _ => False) rfl rfl ?aO ?aR (fun _ _ h => h) (fun _ h => h.elim) ?aF ?aB ?aS ?aL ?_
            (case aR => repeat (first | exact (by repeat (first | (with_reducible exact HR296.out) | (with_reducible refine Kd.C_alloc ?_ _) | (with_reducible refine Kd.C_drewN ?_ _) | (with_reducible refine Kd.C_drew ?_) | exact HR296.out)) | (with_reducible refine Kd.C_alloc ?_ _) | (with_reducible refine Kd.C_drewN ?_ _) | (with_reducible refine Kd.C_drew ?_)))
            (case aB => exact (hs_ GE263.out))
            (case aF => exact (fun k_ hk => ⟨(.inr (Nat.le_trans (by first | exact HK.out.1 | exact (show Kept w _ (fun k_ => P0_ k_) from by repeat (first | (with_reducible first | exact HK.out | apply Kept.alloc | apply Kept.drewN | apply Kept.drew | refine Kept.setCell ?_ (.inr GW263.out) _) | exact HK.out)).1) hk)), Kd.fresh' (Kd.R_lt (ra_ HO_0.out)) k_ hk, Kd.fresh' (Kd.R_lt (ra_ HO302.out)) k_ hk, Kd.freshB (g := gb263) (o := .cells #[.int .i64 a1_0, .int .i64 a1_1] 60 (0, 0)) (kx_ BK263.out) k_ hk⟩))
            (case aO => exact (by (with_reducible repeat (first | apply rA | apply rN | apply rD)); exact Kd.R_mono HO292.out (fun _ hk => ⟨hk.1.1.1.1, ⟨hk.1.1.2, ⟨hk.2, hk.1.2⟩⟩⟩)))
            (case aS => exact (below_size (hs_ GE263.out)))
            (case aL => have := LMc41.out; omega)
            intro v298 w55 ho hb hg hat
            rw [← Ny297.out] at ho
            have n0_ := Aside0.mk (Kd.R_after (ok := (fun k_ => (P0_ k_ ∨ w.heap.size ≤ k_) ∧ some k_ ≠ (v301 : Value).ownBlock ∧ k_ ≠ gb263)) (by (with_reducible repeat (first | apply rA | apply rN | apply rD)); exact Kd.R_mono HO_0.out (fun _ hk => ⟨⟨hk.1.1.1, ⟨hk.2, hk.1.1.2⟩⟩, hk.1.2⟩)) hg hat)
            have n1_ := Aside0.mk (blk_grown (g := gb263) (o := .cells #[.int .i64 a1_0, .int .i64 a1_1] 60 (0, 0)) (kx_ BK263.out) hg (Kd.R_away HO292.out (fun _ hk => hk.1.2)))
            have n2_ := Aside0.mk (Kd.R_after (ok := (fun k_ => (P0_ k_ ∨ w.heap.size ≤ k_) ∧ some k_ ≠ (.slice Ao47 l0.length co47 : Value).ownBlock ∧ k_ ≠ gb263)) (by (with_reducible repeat (first | apply rA | apply rN | apply rD)); exact Kd.R_mono HO302.out (fun _ hk => ⟨⟨hk.1.1.1.1, ⟨hk.1.1.2, hk.2⟩⟩, hk.1.2⟩)) hg hat)
            have n3_ := Aside0.mk (hb)
            have n4_ := Aside0.mk (Kept.of_grown (S := (fun k_ => P0_ k_)) hg (by repeat (first | (with_reducible first | exact HK.out | apply Kept.alloc | apply Kept.drewN | apply Kept.drew | refine Kept.setCell ?_ (.inr GW263.out) _) | exact HK.out)) (fun k_ e_ => (HO292.out.1 k_ e_).1.1.1.1))
            have n5_ := Aside0.mk ((show Kd.C k60 w55 Ao47 y293.length y293 from by rw [Ny293.out]; exact Kd.C_take (m := (x5_1 : Int).toNat) ((Kd.R_reads' (Kd.R_after (ok := (fun k_ => (P0_ k_ ∨ w.heap.size ≤ k_) ∧ some k_ ≠ (v301 : Value).ownBlock ∧ k_ ≠ gb263)) (by (with_reducible repeat (first | apply rA | apply rN | apply rD)); exact Kd.R_mono HO_0.out (fun _ hk => ⟨⟨hk.1.1.1, ⟨hk.2, hk.1.1.2⟩⟩, hk.1.2⟩)) hg hat)).2.2) KL50.out))
            have n6_ := Aside0.mk (ho)
            clear HO_0
            clear BK263
            clear HO302
            clear HB
            clear HK
            clear HR296
            clear HO292
            have HO_0 := n0_
            have BK263 := n1_
            have HO302 := n2_
            have HB := n3_
            have HK := n4_
            have HR296 := n5_
            have HO299 := n6_
            clear n0_ n1_ n2_ n3_ n4_ n5_ n6_
            clear ho hb hg hat
            refine hK.out _ _ ⟨bc_ BK263 0, bc_ BK263 1⟩ (fun hHeld => ?_)
            clear hK K
            refine norm_ (a' := ?_) ?_ ?_
            rotate_left
            ·show Act.put _ (some 38) _ = _
             simp only [Act.put, sT, sZ, sS, i64_w, i32_w]
             rfl
            exact norm_ (by simp only [putAll, Act.put, sT, sZ, sS]) (hCont (v291, v298, v301) _ ⟨hHeld, (by (with_reducible repeat (first | apply rA | apply rN | apply rD)); exact Kd.R_mono HO299.out (fun _ hk => ⟨hk.1, ⟨hk.2.2.1, ⟨hk.2.1, hk.2.2.2⟩⟩⟩)), (by (with_reducible repeat (first | apply rA | apply rN | apply rD)); exact Kd.R_mono HO302.out (fun _ hk => ⟨hk.1.1, ⟨hk.2, ⟨hk.1.2.1, hk.1.2.2⟩⟩⟩)), (by (with_reducible repeat (first | apply rA | apply rN | apply rD)); exact Kd.R_mono HO_0.out (fun _ hk => ⟨hk.1.1, ⟨hk.2, ⟨hk.1.2.1, hk.1.2.2⟩⟩⟩)), (kx_ BK263.out), (by repeat (first | (with_reducible first | exact HK.out | apply Kept.alloc | apply Kept.drewN | apply Kept.drew | refine Kept.setCell ?_ (.inr GW263.out) _) | exact HK.out)), (hs_ GE263.out)⟩)
          ·skip
           refine Kd.R_lit_step k60 _ 60 ?hg (N := 40) ?hd (xs := ([(⟨a1_0, a1_1⟩ : S60)] : List (S60))) (inner := [.int .i64 a1_0, .int .i64 a1_1]) (ok := fun _ => True) (okp := fun _ => True) ?hr ?hp (fun _ hk => hk) trivial (Below.refl _ _) (Nat.le_refl _) (by simp) ?_; (case hd => rfl); (case hg => rfl); (case hr => first | (go_simp; done) | (go_simp; rfl)); (case hp => exact (Reps.c2 (show Kd.M k60 _ _ _ (⟨a1_0, a1_1⟩ : S60) [.int .i64 a1_0, .int .i64 a1_1] from (k60_mkM _ _ _ (⟨a1_0, a1_1⟩ : S60) )) (Reps.none _ _)))
           intro v301 w51 ho52 hb hg_ hnew_
           clear hg_ hnew_
           (first | rw [← Ny300.out] at ho52 | (simp only [Int.reduceToNat] at ho52; rw [← Ny300.out] at ho52))
           have n0_ := Aside0.mk (Kd.R_elder' (ra_ HO_0.out) (Kd.R_base ho52) hb)
           have n1_ := Aside0.mk (Kd.R_lower (Kd.R_newB (Kd.R_new' (Kd.R_newM (M := fun k_ => (P0_ k_ ∨ w.heap.size ≤ k_)) ho52 (by first | exact HK.out.1 | exact (show Kept w _ (fun k_ => P0_ k_) from by repeat (first | (with_reducible first | exact HK.out | apply Kept.alloc | apply Kept.drewN | apply Kept.drew | refine Kept.setCell ?_ (.inr GW263.out) _) | exact HK.out)).1) (fun k_ h_ => .inr h_)) (Kd.R_lt (ra_ HO_0.out))) (g := gb263) (o := .cells #[.int .i64 a1_0, .int .i64 a1_1] 60 (0, 0)) (kx_ BK263.out)) (below_size (hs_ GE263.out)))
           have n2_ := Aside0.mk (blk_below (g := gb263) (o := .cells #[.int .i64 a1_0, .int .i64 a1_1] 60 (0, 0)) (kx_ BK263.out) hb)
           have n3_ := Aside0.mk (Kd.C_below (by repeat (first | (with_reducible exact HR296.out) | (with_reducible refine Kd.C_alloc ?_ _) | (with_reducible refine Kd.C_drewN ?_ _) | (with_reducible refine Kd.C_drew ?_) | exact HR296.out)) hb)
           have n4_ := Aside0.mk (Kept.below (S := (fun k_ => P0_ k_)) (by repeat (first | (with_reducible first | exact HK.out | apply Kept.alloc | apply Kept.drewN | apply Kept.drew | refine Kept.setCell ?_ (.inr GW263.out) _) | exact HK.out)) hb)
           have n5_ := Aside0.mk (below_step (hs_ GE263.out) hb)
           clear HO_0
           clear BK263
           clear HR296
           clear HK
           clear HB
           have HO_0 := n0_
           have HO302 := n1_
           have BK263 := n2_
           have HR296 := n3_
           have HK := n4_
           have HB := n5_
           clear n0_ n1_ n2_ n3_ n4_ n5_
           clear hb ho52
           refine hK.out _ _ ⟨bc_ BK263 0, bc_ BK263 1⟩ (fun hHeld => ?_)
           clear hK K
           refine norm_ (a' := ?_) ?_ ?_
           rotate_left
           ·show Act.put _ (some 40) _ = _
            simp only [Act.put, sT, sZ, sS, i64_w, i32_w]
            rfl
           refine one_ (i := 0) (N := some 34) #[true, true, true, true, false, true, true, false, false] rfl rfl (one_of HT_.out (by kernel_rfl)) (by decide) (fun K hK => ?_)
           refine Kd.R_lit_step k60 _ 60 ?hg (N := 34) ?hd (xs := ([] : List (S60))) (inner := []) (ok := fun _ => True) (okp := fun _ => True) ?hr ?hp (fun _ hk => hk) trivial (Below.refl _ _) (Nat.le_refl _) (by simp) ?_; (case hd => rfl); (case hg => rfl); (case hr => first | (go_simp; done) | (go_simp; rfl)); (case hp => exact (Reps.none _ _))
           intro v291 w53 ho54 hb hg_ hnew_
           clear hg_ hnew_
           (first | rw [← Ny290.out] at ho54 | (simp only [Int.reduceToNat] at ho54; rw [← Ny290.out] at ho54))
           have n0_ := Aside0.mk (Kd.R_elder' (ra_ HO_0.out) (Kd.R_base ho54) hb)
           have n1_ := Aside0.mk (Kd.R_elder' (ra_ HO302.out) (Kd.R_base ho54) hb)
           have n2_ := Aside0.mk (Kd.R_lower (Kd.R_newB (Kd.R_new' (Kd.R_new' (Kd.R_newM (M := fun k_ => (P0_ k_ ∨ w.heap.size ≤ k_)) ho54 (by first | exact HK.out.1 | exact (show Kept w _ (fun k_ => P0_ k_) from by repeat (first | (with_reducible first | exact HK.out | apply Kept.alloc | apply Kept.drewN | apply Kept.drew | refine Kept.setCell ?_ (.inr GW263.out) _) | exact HK.out)).1) (fun k_ h_ => .inr h_)) (Kd.R_lt (ra_ HO_0.out))) (Kd.R_lt (ra_ HO302.out))) (g := gb263) (o := .cells #[.int .i64 a1_0, .int .i64 a1_1] 60 (0, 0)) (kx_ BK263.out)) (below_size (hs_ GE263.out)))
           have n3_ := Aside0.mk (blk_below (g := gb263) (o := .cells #[.int .i64 a1_0, .int .i64 a1_1] 60 (0, 0)) (kx_ BK263.out) hb)
           have n4_ := Aside0.mk (Kd.C_below (by repeat (first | (with_reducible exact HR296.out) | (with_reducible refine Kd.C_alloc ?_ _) | (with_reducible refine Kd.C_drewN ?_ _) | (with_reducible refine Kd.C_drew ?_) | exact HR296.out)) hb)
           have n5_ := Aside0.mk (Kept.below (S := (fun k_ => P0_ k_)) (by repeat (first | (with_reducible first | exact HK.out | apply Kept.alloc | apply Kept.drewN | apply Kept.drew | refine Kept.setCell ?_ (.inr GW263.out) _) | exact HK.out)) hb)
           have n6_ := Aside0.mk (below_step (hs_ GE263.out) hb)
           clear HO_0
           clear HO302
           clear BK263
           clear HR296
           clear HK
           clear HB
           have HO_0 := n0_
           have HO302 := n1_
           have HO292 := n2_
           have BK263 := n3_
           have HR296 := n4_
           have HK := n5_
           have HB := n6_
           clear n0_ n1_ n2_ n3_ n4_ n5_ n6_
           clear hb ho54
           refine hK.out _ _ ⟨bc_ BK263 0, bc_ BK263 1⟩ (fun hHeld => ?_)
           clear hK K
           refine norm_ (a' := ?_) ?_ ?_
           rotate_left
           ·show Act.put _ (some 34) _ = _
            simp only [Act.put, sT, sZ, sS, i64_w, i32_w]
            rfl
           refine one_ (i := 4) (N := some 38) #[true, true, true, true, true, true, true, false, false] rfl rfl (one_of HT_.out (by kernel_rfl)) (by decide) (fun K hK => ?_)
           refine Kd.R_append_rows_step k60 (w0 := w0) w0.heap.size (by rfl) (.tmp 34) (.tmp 37) 24 60 (.agg #[(.int .i64 0), (.int .i64 0)]) 16 rfl Try.underlying24 info60 rfl (by decide) (by omega) v291 y290 y293 _ _ _ (fun k_ => (P0_ k_ ∨ w.heap.size ≤ k_) ∧ some k_ ≠ (.slice Ao47 l0.length co47 : Value).ownBlock ∧ some k_ ≠ (v301 : Value).ownBlock ∧ k_ ≠ gb263) (fun _ => False) rfl rfl ?aO ?aR (fun _ _ h => h) (fun _ h => h.elim) ?aF ?aB ?aS ?aL ?_
           (case aR => repeat (first | exact (by repeat (first | (with_reducible exact HR296.out) | (with_reducible refine Kd.C_alloc ?_ _) | (with_reducible refine Kd.C_drewN ?_ _) | (with_reducible refine Kd.C_drew ?_) | exact HR296.out)) | (with_reducible refine Kd.C_alloc ?_ _) | (with_reducible refine Kd.C_drewN ?_ _) | (with_reducible refine Kd.C_drew ?_)))
           (case aB => exact (hs_ GE263.out))
           (case aF => exact (fun k_ hk => ⟨(.inr (Nat.le_trans (by first | exact HK.out.1 | exact (show Kept w _ (fun k_ => P0_ k_) from by repeat (first | (with_reducible first | exact HK.out | apply Kept.alloc | apply Kept.drewN | apply Kept.drew | refine Kept.setCell ?_ (.inr GW263.out) _) | exact HK.out)).1) hk)), Kd.fresh' (Kd.R_lt (ra_ HO_0.out)) k_ hk, Kd.fresh' (Kd.R_lt (ra_ HO302.out)) k_ hk, Kd.freshB (g := gb263) (o := .cells #[.int .i64 a1_0, .int .i64 a1_1] 60 (0, 0)) (kx_ BK263.out) k_ hk⟩))
           (case aO => exact (by (with_reducible repeat (first | apply rA | apply rN | apply rD)); exact Kd.R_mono HO292.out (fun _ hk => ⟨hk.1.1.1.1, ⟨hk.1.1.2, ⟨hk.1.2, hk.2⟩⟩⟩)))
           (case aS => exact (below_size (hs_ GE263.out)))
           (case aL => have := LMc41.out; omega)
           intro v298 w55 ho hb hg hat
           rw [← Ny297.out] at ho
           have n0_ := Aside0.mk (Kd.R_after (ok := (fun k_ => (P0_ k_ ∨ w.heap.size ≤ k_) ∧ some k_ ≠ (v301 : Value).ownBlock ∧ k_ ≠ gb263)) (by (with_reducible repeat (first | apply rA | apply rN | apply rD)); exact Kd.R_mono HO_0.out (fun _ hk => ⟨⟨hk.1.1.1, ⟨hk.1.2, hk.1.1.2⟩⟩, hk.2⟩)) hg hat)
           have n1_ := Aside0.mk (blk_grown (g := gb263) (o := .cells #[.int .i64 a1_0, .int .i64 a1_1] 60 (0, 0)) (kx_ BK263.out) hg (Kd.R_away HO292.out (fun _ hk => hk.2)))
           have n2_ := Aside0.mk (Kd.R_after (ok := (fun k_ => (P0_ k_ ∨ w.heap.size ≤ k_) ∧ some k_ ≠ (.slice Ao47 l0.length co47 : Value).ownBlock ∧ k_ ≠ gb263)) (by (with_reducible repeat (first | apply rA | apply rN | apply rD)); exact Kd.R_mono HO302.out (fun _ hk => ⟨⟨hk.1.1.1.1, ⟨hk.1.1.2, hk.1.2⟩⟩, hk.2⟩)) hg hat)
           have n3_ := Aside0.mk (hb)
           have n4_ := Aside0.mk (Kept.of_grown (S := (fun k_ => P0_ k_)) hg (by repeat (first | (with_reducible first | exact HK.out | apply Kept.alloc | apply Kept.drewN | apply Kept.drew | refine Kept.setCell ?_ (.inr GW263.out) _) | exact HK.out)) (fun k_ e_ => (HO292.out.1 k_ e_).1.1.1.1))
           have n5_ := Aside0.mk ((show Kd.C k60 w55 Ao47 y293.length y293 from by rw [Ny293.out]; exact Kd.C_take (m := (x5_1 : Int).toNat) ((Kd.R_reads' (Kd.R_after (ok := (fun k_ => (P0_ k_ ∨ w.heap.size ≤ k_) ∧ some k_ ≠ (v301 : Value).ownBlock ∧ k_ ≠ gb263)) (by (with_reducible repeat (first | apply rA | apply rN | apply rD)); exact Kd.R_mono HO_0.out (fun _ hk => ⟨⟨hk.1.1.1, ⟨hk.1.2, hk.1.1.2⟩⟩, hk.2⟩)) hg hat)).2.2) KL50.out))
           have n6_ := Aside0.mk (ho)
           clear HO_0
           clear BK263
           clear HO302
           clear HB
           clear HK
           clear HR296
           clear HO292
           have HO_0 := n0_
           have BK263 := n1_
           have HO302 := n2_
           have HB := n3_
           have HK := n4_
           have HR296 := n5_
           have HO299 := n6_
           clear n0_ n1_ n2_ n3_ n4_ n5_ n6_
           clear ho hb hg hat
           refine hK.out _ _ ⟨bc_ BK263 0, bc_ BK263 1⟩ (fun hHeld => ?_)
           clear hK K
           refine norm_ (a' := ?_) ?_ ?_
           rotate_left
           ·show Act.put _ (some 38) _ = _
            simp only [Act.put, sT, sZ, sS, i64_w, i32_w]
            rfl
           exact norm_ (by simp only [putAll, Act.put, sT, sZ, sS]) (hCont (v291, v298, v301) _ ⟨hHeld, (by (with_reducible repeat (first | apply rA | apply rN | apply rD)); exact Kd.R_mono HO299.out (fun _ hk => ⟨hk.1, ⟨hk.2.2.1, ⟨hk.2.1, hk.2.2.2⟩⟩⟩)), (by (with_reducible repeat (first | apply rA | apply rN | apply rD)); exact Kd.R_mono HO302.out (fun _ hk => ⟨hk.1.1, ⟨hk.2, ⟨hk.1.2.1, hk.1.2.2⟩⟩⟩)), (by (with_reducible repeat (first | apply rA | apply rN | apply rD)); exact Kd.R_mono HO_0.out (fun _ hk => ⟨hk.1.1, ⟨hk.2, ⟨hk.1.2.1, hk.1.2.2⟩⟩⟩)), (kx_ BK263.out), (by repeat (first | (with_reducible first | exact HK.out | apply Kept.alloc | apply Kept.drewN | apply Kept.drew | refine Kept.setCell ?_ (.inr GW263.out) _) | exact HK.out)), (hs_ GE263.out)⟩)
         rintro ⟨v291, v298, v301⟩ w56 ⟨hS_, h0_, h1_, h2_, h3_, h4_, h5_⟩
         have n0_ : Aside0 (Kd.R k60 60 w56 w0.heap.size (fun k_ => (P0_ k_ ∨ w.heap.size ≤ k_) ∧ some k_ ≠ (v301 : Value).ownBlock ∧ some k_ ≠ (.slice Ao47 l0.length co47 : Value).ownBlock ∧ k_ ≠ gb263) v298 y297) := ⟨h0_⟩
         have n1_ : Aside0 (Kd.R k60 60 w56 w0.heap.size (fun k_ => (P0_ k_ ∨ w.heap.size ≤ k_) ∧ some k_ ≠ (v298 : Value).ownBlock ∧ some k_ ≠ (.slice Ao47 l0.length co47 : Value).ownBlock ∧ k_ ≠ gb263) v301 y300) := ⟨h1_⟩
         have n2_ : Aside0 (Kd.R k60 60 w56 w0.heap.size (fun k_ => (P0_ k_ ∨ w.heap.size ≤ k_) ∧ some k_ ≠ (v298 : Value).ownBlock ∧ some k_ ≠ (v301 : Value).ownBlock ∧ k_ ≠ gb263) (.slice Ao47 l0.length co47) l0) := ⟨h2_⟩
         have n3_ : Aside0 (w56.heap[gb263]? = some (.cells #[.int .i64 a1_0, .int .i64 a1_1] 60 (0, 0))) := ⟨h3_⟩
         have n4_ : Aside0 (Kept w w56 (fun k_ => P0_ k_)) := ⟨h4_⟩
         have n5_ : Aside0 (Below w0.heap.size w0 w56) := ⟨h5_⟩
         clear HO_0
         clear BK263
         clear HK
         clear HB
         clear h0_ h1_ h2_ h3_ h4_ h5_
         have HO299 := n0_
         have HO302 := n1_
         have HO_0 := n2_
         have BK263 := n3_
         have HK := n4_
         have HB := n5_
         clear n0_ n1_ n2_ n3_ n4_ n5_
         have hHeld : w56.cell? ⟨gb263, 0, none⟩ = some (.int .i64 a1_0) ∧ w56.cell? ⟨gb263, 1, none⟩ = some (.int .i64 a1_1) := hS_
         obtain ⟨Ao58, co58, eo58⟩ := Kd.R_slice HO302.out
         (first | subst eo58 | (injection eo58 with f1_ f2_ f3_; have f4_ := f1_.symm; have f5_ := f3_.symm; clear f1_ f2_ f3_; subst f4_; subst f5_))
         refine norm_ (a' := ?_) ?_ ?_
         rotate_left
         ·simp only [putAll, Act.put, sT, sZ, sS]
          rfl
         refine one_ (i := 7) (N := some 41) #[true, true, true, true, true, true, true, true, false] rfl rfl (one_of HT_.out (by kernel_rfl)) (by decide) (fun K hK => ?_)
         refine Kd.R_append_rows_step k60 (w0 := w0) w0.heap.size (by rfl) (.tmp 38) (.tmp 40) 24 60 (.agg #[(.int .i64 0), (.int .i64 0)]) 16 rfl Try.underlying24 info60 rfl (by decide) (by omega) v298 y297 y300 _ _ _ (fun k_ => (P0_ k_ ∨ w.heap.size ≤ k_) ∧ some k_ ≠ (.slice Ao47 l0.length co47 : Value).ownBlock ∧ some k_ ≠ (.slice Ao58 y300.length co58 : Value).ownBlock ∧ k_ ≠ gb263) (fun _ => False) rfl rfl ?aO ?aR (fun _ _ h => h) (fun _ h => h.elim) ?aF ?aB ?aS ?aL ?_
         (case aR => repeat (first | exact (Kd.R_reads' HO302.out).2.2 | (with_reducible refine Kd.C_alloc ?_ _) | (with_reducible refine Kd.C_drewN ?_ _) | (with_reducible refine Kd.C_drew ?_)))
         (case aB => exact (hs_ GE263.out))
         (case aF => exact (fun k_ hk => ⟨(.inr (Nat.le_trans (by first | exact HK.out.1 | exact (show Kept w _ (fun k_ => P0_ k_) from by repeat (first | (with_reducible first | exact HK.out | apply Kept.alloc | apply Kept.drewN | apply Kept.drew | refine Kept.setCell ?_ (.inr GW263.out) _) | exact HK.out)).1) hk)), Kd.fresh' (Kd.R_lt (ra_ HO_0.out)) k_ hk, Kd.fresh' (Kd.R_lt (ra_ HO302.out)) k_ hk, Kd.freshB (g := gb263) (o := .cells #[.int .i64 a1_0, .int .i64 a1_1] 60 (0, 0)) (kx_ BK263.out) k_ hk⟩))
         (case aO => exact (by (with_reducible repeat (first | apply rA | apply rN | apply rD)); exact Kd.R_mono HO299.out (fun _ hk => ⟨hk.1, ⟨hk.2.2.1, ⟨hk.2.1, hk.2.2.2⟩⟩⟩)))
         (case aS => exact (below_size (hs_ GE263.out)))
         (case aL => have := LMc42.out; omega)
         intro v304 w57 ho hb hg hat
         rw [← Ny303.out] at ho
         have n0_ := Aside0.mk (Kd.R_after (ok := (fun k_ => (P0_ k_ ∨ w.heap.size ≤ k_) ∧ some k_ ≠ (.slice Ao58 y300.length co58 : Value).ownBlock ∧ k_ ≠ gb263)) (by (with_reducible repeat (first | apply rA | apply rN | apply rD)); exact Kd.R_mono HO_0.out (fun _ hk => ⟨⟨hk.1, ⟨hk.2.2.1, hk.2.2.2⟩⟩, hk.2.1⟩)) hg hat)
         have n1_ := Aside0.mk (blk_grown (g := gb263) (o := .cells #[.int .i64 a1_0, .int .i64 a1_1] 60 (0, 0)) (kx_ BK263.out) hg (Kd.R_away HO299.out (fun _ hk => hk.2.2.2)))
         have n2_ := Aside0.mk (Kd.R_after (ok := (fun k_ => (P0_ k_ ∨ w.heap.size ≤ k_) ∧ some k_ ≠ (.slice Ao47 l0.length co47 : Value).ownBlock ∧ k_ ≠ gb263)) (by (with_reducible repeat (first | apply rA | apply rN | apply rD)); exact Kd.R_mono HO302.out (fun _ hk => ⟨⟨hk.1, ⟨hk.2.2.1, hk.2.2.2⟩⟩, hk.2.1⟩)) hg hat)
         have n3_ := Aside0.mk (hb)
         have n4_ := Aside0.mk (Kept.of_grown (S := (fun k_ => P0_ k_)) hg (by repeat (first | (with_reducible first | exact HK.out | apply Kept.alloc | apply Kept.drewN | apply Kept.drew | refine Kept.setCell ?_ (.inr GW263.out) _) | exact HK.out)) (fun k_ e_ => (HO299.out.1 k_ e_).1))
         have n5_ := Aside0.mk (ho)
         clear HO_0
         clear BK263
         clear HO302
         clear HB
         clear HK
         clear HO299
         have HO_0 := n0_
         have BK263 := n1_
         have HO302 := n2_
         have HB := n3_
         have HK := n4_
         have HO305 := n5_
         clear n0_ n1_ n2_ n3_ n4_ n5_
         clear ho hb hg hat
         refine hK.out _ _ ⟨bc_ BK263 0, bc_ BK263 1⟩ (fun hHeld => ?_)
         clear hK K
         refine norm_ (a' := ?_) ?_ ?_
         rotate_left
         ·show Act.put _ (some 41) _ = _
          simp only [Act.put, sT, sZ, sS, i64_w, i32_w]
          rfl
         refine pure_ (i := 8) (N := some 6) (v := ?_) (a' := ?_) #[true, true, true, true, true, true, true, true, true] rfl rfl (any_of HT_.out (by kernel_rfl)) (fun _ _ _ h => h) (Or.inl ⟨by rfl, ?_⟩) ?_ ?_
         rotate_left
         ·intro w'
          go_simp
          with_reducible rfl
         rotate_left
         ·simp only [Act.put, sT, sZ, sS, i64_w, i32_w]
          rfl
         refine done_ (done_of HT_.out (by kernel_rfl)) ?_
         have q59 : (x5_1 : Int) ≤ ((l0.length : Int) : Int) := of_decide_eq_true (by assumption)
         obtain ⟨i059, hi059, _, hsz59, _⟩ := info_parts info60
         have hroom59 : l0.length ≤ co47 := (Kd.R_reads' HO_0.out).2.1
         have hC59 : Kd.C k60 _ Ao47 l0.length l0 := (Kd.R_reads' HO_0.out).2.2
         have q059 : (0 : Int) ≤ (x5_1 : Int) := of_decide_eq_true (by assumption)
         have hcut59 := cut_from (P := Try.prog) 24 60 .i64 Try.underlying24 hi059 2 hsz59 Ao47 l0.length co47 x5_1 q059 q59
         have hr59 := Kd.C_drop (m := (x5_1 : Int).toNat) (c := co47) hC59 (by omega) hroom59
         obtain ⟨A59, hA59⟩ : ∃ A1, A1 = (if co47 = (x5_1 : Int).toNat then Ao47 else (Ao47 : Option Addr).map (·.add ((x5_1 : Int).toNat * 2))) := ⟨_, rfl⟩
         obtain ⟨c59, hc59⟩ : ∃ c1, c1 = co47 - (x5_1 : Int).toNat := ⟨_, rfl⟩
         have hy59 : y306.length = l0.length - (x5_1 : Int).toNat := (by rw [Ny306.out, List.length_drop] <;> omega)
         rw [show (l0).drop (x5_1 : Int).toNat = y306 from Ny306.out.symm] at hr59
         replace hr59 : Kd.C k60 _ A59 y306.length y306 := (by rw [hA59]; exact hr59)
         rw [← hy59, ← hA59, ← hc59] at hcut59
         have HR309 := Aside0.mk hr59
         have HC309 := Aside0.mk (show y306.length ≤ c59 from by rw [hy59, hc59]; exact Nat.sub_le_sub_right hroom59 _)
         clear hr59 hC59 hroom59 hi059 hsz59 hc59
         have KY59 := Aside0.mk hy59
         have KA59 := Aside0.mk hA59
         clear hy59 hA59
         have KL59 := Aside0.mk (show (x5_1 : Int).toNat ≤ l0.length from by omega)
         replace q59 := eq_true q59
         try go_wp2_with (first | ((with_reducible refine gate_builtin (b := .append) (xs := #[.tmp 42, .tmp 45]) rfl ?_); at_builtin; refine Kd.R_append_rows k60 (w0 := w0) w0.heap.size rfl (.tmp 42) (.tmp 45) 24 60 (.agg #[(.int .i64 0), (.int .i64 0)]) 16 rfl Try.underlying24 info60 rfl (by decide) (by omega) v304 y303 y306 _ _ _ (fun k_ => (P0_ k_ ∨ w.heap.size ≤ k_) ∧ some k_ ≠ (.slice Ao47 l0.length co47 : Value).ownBlock ∧ some k_ ≠ (.slice Ao58 y300.length co58 : Value).ownBlock ∧ k_ ≠ gb263) (fun _ => False) rfl rfl ?aO ?aR (fun _ _ h => h) (fun _ h => h.elim) ?aF ?aB ?aS ?aL ?_; (case aR => repeat (first | exact (by repeat (first | (with_reducible exact HR309.out) | (with_reducible refine Kd.C_alloc ?_ _) | (with_reducible refine Kd.C_drewN ?_ _) | (with_reducible refine Kd.C_drew ?_) | exact HR309.out)) | (with_reducible refine Kd.C_alloc ?_ _) | (with_reducible refine Kd.C_drewN ?_ _) | (with_reducible refine Kd.C_drew ?_))); (case aB => exact (hs_ GE263.out)); (case aF => exact (fun k_ hk => ⟨(.inr (Nat.le_trans (by first | exact HK.out.1 | exact (show Kept w _ (fun k_ => P0_ k_) from by repeat (first | (with_reducible first | exact HK.out | apply Kept.alloc | apply Kept.drewN | apply Kept.drew | refine Kept.setCell ?_ (.inr GW263.out) _) | exact HK.out)).1) hk)), Kd.fresh' (Kd.R_lt (ra_ HO_0.out)) k_ hk, Kd.fresh' (Kd.R_lt (ra_ HO302.out)) k_ hk, Kd.freshB (g := gb263) (o := .cells #[.int .i64 a1_0, .int .i64 a1_1] 60 (0, 0)) (kx_ BK263.out) k_ hk⟩)); (case aO => exact (ra_ HO305.out)); (case aS => exact (below_size (hs_ GE263.out))); (case aL => have := LMc45.out; omega); intro v311 w60 ho hb hg hat; rw [← Ny310.out] at ho; have n0_ := Aside0.mk (Kd.R_after (ok := (fun k_ => (P0_ k_ ∨ w.heap.size ≤ k_) ∧ some k_ ≠ (.slice Ao58 y300.length co58 : Value).ownBlock ∧ k_ ≠ gb263)) (ra_ HO_0.out) hg hat); have n1_ := Aside0.mk (blk_grown (g := gb263) (o := .cells #[.int .i64 a1_0, .int .i64 a1_1] 60 (0, 0)) (kx_ BK263.out) hg (Kd.R_away HO305.out (fun _ hk => hk.2.2.2))); have n2_ := Aside0.mk (Kd.R_after (ok := (fun k_ => (P0_ k_ ∨ w.heap.size ≤ k_) ∧ some k_ ≠ (.slice Ao47 l0.length co47 : Value).ownBlock ∧ k_ ≠ gb263)) (ra_ HO302.out) hg hat); have n3_ := Aside0.mk (hb); have n4_ := Aside0.mk (Kept.of_grown (S := (fun k_ => P0_ k_)) hg (by repeat (first | (with_reducible first | exact HK.out | apply Kept.alloc | apply Kept.drewN | apply Kept.drew | refine Kept.setCell ?_ (.inr GW263.out) _) | exact HK.out)) (fun k_ e_ => (HO305.out.1 k_ e_).1)); have n5_ := Aside0.mk ((show Kd.C k60 w60 A59 y306.length y306 from by rw [Ny306.out, KA59.out]; exact Kd.C_drop (m := (x5_1 : Int).toNat) (c := co47) ((Kd.R_reads' (Kd.R_after (ok := (fun k_ => (P0_ k_ ∨ w.heap.size ≤ k_) ∧ some k_ ≠ (.slice Ao58 y300.length co58 : Value).ownBlock ∧ k_ ≠ gb263)) (ra_ HO_0.out) hg hat)).2.2) KL59.out ((Kd.R_reads' (Kd.R_after (ok := (fun k_ => (P0_ k_ ∨ w.heap.size ≤ k_) ∧ some k_ ≠ (.slice Ao58 y300.length co58 : Value).ownBlock ∧ k_ ≠ gb263)) (ra_ HO_0.out) hg hat)).2.1))); have n6_ := Aside0.mk (ho); clear HO_0; clear BK263; clear HO302; clear HB; clear HK; clear HR309; clear HO305; have HO_0 := n0_; have BK263 := n1_; have HO302 := n2_; have HB := n3_; have HK := n4_; have HR309 := n5_; have HO312 := n6_; clear n0_ n1_ n2_ n3_ n4_ n5_ n6_; clear ho hb hg hat))
         go_ret
         exact ⟨_, by first | rfl | (simp [errW_none, errW_some] <;> rfl) | (simp [*, errW_none, errW_some] <;> rfl), by (with_reducible repeat (first | apply rA | apply rN | apply rD)); exact Kd.R_mono HO312.out (fun _ hk => hk.1), hs_ GE263.out, by repeat (first | (with_reducible first | exact HK.out | apply Kept.alloc | apply Kept.drewN | apply Kept.drew | refine Kept.setCell ?_ (.inr GW263.out) _) | exact HK.out)⟩
        ·rw [if_neg c45] at H
         exact absurd H (by simp)
       ·rw [if_neg c42] at H
        exact absurd H (by simp)
      ·rw [if_neg c41] at H
       exact absurd H (by simp)
     ·rw [if_neg c40] at H
      exact absurd H (by simp)
    ·rw [if_neg c39] at H
     exact absurd H (by simp)
def spec_l1Least.f (a0 : Int) (a1 : Int) : Option (Int) := if a0 < a1 then (some a0) else (some a1)
set_option maxHeartbeats 8000000 in
set_option maxRecDepth 100000 in
theorem spec_l1Least.calls (a0 : Int) (a1 : Int) (r : Int) (w : World) (h : spec_l1Least.f a0 a1 = some r) :
  Calls Try.prog 28 #[.int .i64 a0, .int .i64 a1] w fun e w' => e = .returned (.int .i64 r) ∧ Drawn0 w w' := by
 have H : (if a0 < a1 then (some a0) else (some a1)) = some r := h
 clear h
 by_cases c3 : a0 < a1
 ·rw [if_pos c3] at H
  have c3b0 : decide (a0 < a1) = true := decide_eq_true c3
  clear c3
  obtain rfl := oI H
  go_enter Try.func28, Try.ntmps28
  go_wp2
  go_ret
  exact ⟨by first | rfl | (simp; done) | (simp [*]; done), by repeat (first | exact Drawn0.refl _ | apply Drawn0.step)⟩
 ·rw [if_neg c3] at H
  have c3b0 : decide (a0 < a1) = false := decide_eq_false c3
  clear c3
  obtain rfl := oI H
  go_enter Try.func28, Try.ntmps28
  go_wp2
  go_ret
  exact ⟨by first | rfl | (simp; done) | (simp [*]; done), by repeat (first | exact Drawn0.refl _ | apply Drawn0.step)⟩
def spec_l1Most.f (a0 : Int) (a1 : Int) : Option (Int) := if a0 > a1 then (some a0) else (some a1)
set_option maxHeartbeats 8000000 in
set_option maxRecDepth 100000 in
theorem spec_l1Most.calls (a0 : Int) (a1 : Int) (r : Int) (w : World) (h : spec_l1Most.f a0 a1 = some r) :
  Calls Try.prog 29 #[.int .i64 a0, .int .i64 a1] w fun e w' => e = .returned (.int .i64 r) ∧ Drawn0 w w' := by
 have H : (if a0 > a1 then (some a0) else (some a1)) = some r := h
 clear h
 by_cases c3 : a0 > a1
 ·rw [if_pos c3] at H
  have c3b0 : decide (a1 < a0) = true := decide_eq_true c3
  clear c3
  obtain rfl := oI H
  go_enter Try.func29, Try.ntmps29
  go_wp2
  go_ret
  exact ⟨by first | rfl | (simp; done) | (simp [*]; done), by repeat (first | exact Drawn0.refl _ | apply Drawn0.step)⟩
 ·rw [if_neg c3] at H
  have c3b0 : decide (a1 < a0) = false := decide_eq_false c3
  clear c3
  obtain rfl := oI H
  go_enter Try.func29, Try.ntmps29
  go_wp2
  go_ret
  exact ⟨by first | rfl | (simp; done) | (simp [*]; done), by repeat (first | exact Drawn0.refl _ | apply Drawn0.step)⟩
def spec_srChord.f (a0 : Int) (a1 : Int) : Option (Int × Int) := (spec_l1Least.f a0 a1).bind fun t314 => ((spec_l1Most.f a0 a1).bind fun t315 => (some (t314, t315)))
set_option maxHeartbeats 8000000 in
set_option maxRecDepth 100000 in
theorem spec_srChord.calls (a0 : Int) (a1 : Int) (r1 : Int) (r2 : Int) (w : World) (h : spec_srChord.f a0 a1 = some (r1, r2)) :
  Calls Try.prog 53 #[.int .i64 a0, .int .i64 a1] w fun e w' => e = .returned (.agg #[.int .i64 r1, .int .i64 r2]) ∧ Below w.heap.size w w' := by
 have hu60 := Try.underlying60
 have HB := Aside0.mk (Below.refl w.heap.size w)
 have H : ((spec_l1Least.f a0 a1).bind fun t314 => ((spec_l1Most.f a0 a1).bind fun t315 => (some (t314, t315)))) = some (r1, r2) := h
 clear h
 replace H := bI H
 obtain ⟨t314, A30, H⟩ := H
 replace H : ((spec_l1Most.f a0 a1).bind fun t315 => (some (t314, t315))) = some (r1, r2) := H
 have A3 := Aside0.mk A30
 clear A30
 replace H := bI H
 obtain ⟨t315, A40, H⟩ := H
 replace H : (some (t314, t315)) = some (r1, r2) := H
 have A4 := Aside0.mk A40
 clear A40
 simp only [Option.some.injEq, Prod.mk.injEq] at H
 obtain ⟨rfl, rfl⟩ := H
 go_enter Try.func53, Try.ntmps53
 go_wp2_with (first | ((with_reducible refine gate_dst (N := 4) rfl ?_); refine box_event ?hg (N := 4) ?hd (cs := #[.int .i64 0, .int .i64 0]) (t := 60) ?hr ?_; (case hd => rfl); (case hg => rfl); (case hr => first | (go_simp; done) | (go_simp; rfl)); intro gb313 hg w5 hbox hb; have n0_ := Aside0.mk (below_step hb_ hb); have n1_ := Aside0.mk (hbox); have n2_ := Aside0.mk ((by rw [hg]; exact (below_size hb_) : w.heap.size ≤ gb313)); have n3_ := Aside0.mk ((by rw [hg]; exact (below_size hb_) : w.heap.size ≤ gb313)); clear HB; have HB := n0_; have BK313 := n1_; have GW313 := n2_; have GE313 := n3_; clear n0_ n1_ n2_ n3_; clear hb hbox hg) | ((with_reducible refine gate_callee (f := 28) rfl ?_); refine goesL_ (some 7) rfl rfl Try.func28 (by kernel_rfl) rfl #[.int .i64 a0, .int .i64 a1] rfl ar_ ?_; (with_reducible refine (spec_l1Least.calls a0 a1 t314 _ A3.out).mono ?_); rintro e w' ⟨rfl, ⟨nd, rfl⟩⟩; refine ⟨_, rfl, ?_⟩; (try (rw [drewN_self w5]; generalize hq_ : World.drewN w5 _ = w5; have n0_ : Aside0 (w5.heap[gb313]? = some (.cells #[.int .i64 0, .int .i64 0] 60 (0, 0))) := ⟨by rw [← hq_]; exact (kx_ BK313.out)⟩; have n1_ : Aside0 (Below w.heap.size w w5) := ⟨by rw [← hq_]; exact (hs_ GE313.out)⟩; clear BK313 HB hq_; have BK313 := n0_; have HB := n1_; clear n0_ n1_))) | ((with_reducible refine gate_callee (f := 29) rfl ?_); refine goesL_ (some 10) rfl rfl Try.func29 (by kernel_rfl) rfl #[.int .i64 a0, .int .i64 a1] rfl ar_ ?_; (with_reducible refine (spec_l1Most.calls a0 a1 t315 _ A4.out).mono ?_); rintro e w' ⟨rfl, ⟨nd, rfl⟩⟩; refine ⟨_, rfl, ?_⟩; (try (rw [drewN_self w5]; generalize hq_ : World.drewN w5 _ = w5; have n0_ : Aside0 (w5.heap[gb313]? = some (.cells #[.int .i64 0, .int .i64 0] 60 (0, 0))) := ⟨by rw [← hq_]; exact (kx_ BK313.out)⟩; have n1_ : Aside0 (Below w.heap.size w w5) := ⟨by rw [← hq_]; exact (hs_ GE313.out)⟩; clear BK313 HB hq_; have BK313 := n0_; have HB := n1_; clear n0_ n1_)); have hcz6_0 : w5.cell? ⟨gb313, 0, none⟩ = some (.int .i64 0) := bc_ BK313 0; have hcz6_1 : w5.cell? ⟨gb313, 1, none⟩ = some (.int .i64 0) := bc_ BK313 1; have hfz6_0 := blk_frozen BK313.out 0; have hfz6_1 := blk_frozen BK313.out 1))
 refine bodyPost_ret (results_cell_row rfl _ _ gb313 60 #[.int .i64 t314, .int .i64 t315] (0, 0) _ rfl (by (with_reducible repeat (first | refine kN ?_ _ | refine kD ?_ | refine kA ?_ _)); refine blk_put (cs := #[.int .i64 t314, .int .i64 0]) ?_ 1 _ rfl; (with_reducible repeat (first | refine kN ?_ _ | refine kD ?_ | refine kA ?_ _)); refine blk_put (cs := #[.int .i64 0, .int .i64 0]) ?_ 0 _ rfl; (with_reducible repeat (first | refine kN ?_ _ | refine kD ?_ | refine kA ?_ _)); exact BK313.out) Try.underlying60 rfl (by kernel_rfl)) rfl ?_
 exact ⟨by first | rfl | (simp [errW_none, errW_some] <;> rfl) | (simp [*, errW_none, errW_some] <;> rfl), hs_ GE313.out⟩
def spec_srChords.l0 : Nat → List (S60) → Int → Int → Int → Option ((List (S60)))
 | 0, _, _, _, _ => none
 | k + 1, x3, x4, x317000, x317001 => if x4 < x317000 then (if x317000 = 0 then (none) else ((spec_srChord.f x4 (Int.tmod (wrap64 (x4 + x317001)) x317000)).bind fun bt317 => ((spec_srPut.f k x3 bt317.1 bt317.2).bind fun t319 => (spec_srChords.l0 k t319 (wrap64 (x4 + 1)) x317000 x317001)))) else (some x3)
def spec_srChords.f (k : Nat) (a0_0 : Int) (a0_1 : Int) : Option ((List (S60))) := spec_srChords.l0 k ([] : List (S60)) 0 a0_0 a0_1
theorem spec_srChords.mono_l : ∀ k, (∀ y0 y1 y2 y3, LeO (spec_srChords.l0 k y0 y1 y2 y3) (spec_srChords.l0 (k + 1) y0 y1 y2 y3))
 | 0 => fun _ _ _ _ r h => by simp [spec_srChords.l0] at h
 | k + 1 => by
  have ih0 := spec_srChords.mono_l k
  ·intro y0 y1 y2 y3
   unfold spec_srChords.l0
   repeat' first
   | (with_reducible exact ih0 _ _ _ _)
   | (with_reducible exact spec_srPut.mono _ _ _ _)
   | (with_reducible exact LeO.refl _)
   | (with_reducible exact LeO.none _)
   | (with_reducible refine LeO.ite ?_ ?_)
   | (with_reducible refine LeO.bind ?_ (fun _ => ?_))
   | exact ih0 _ _ _ _
   | exact spec_srPut.mono _ _ _ _
   | exact LeO.none _
   | refine LeO.ite ?_ ?_
   | refine LeO.bind ?_ (fun _ => ?_)
theorem spec_srChords.mono : ∀ a0 a1 k, LeO (spec_srChords.f k a0 a1) (spec_srChords.f (k + 1) a0 a1) := by
 intro a0 a1 k
 have ih0 := spec_srChords.mono_l k
 unfold spec_srChords.f
 repeat' first
   | (with_reducible exact ih0 _ _ _ _)
   | (with_reducible exact spec_srPut.mono _ _ _ _)
   | (with_reducible exact LeO.refl _)
   | (with_reducible exact LeO.none _)
   | (with_reducible refine LeO.ite ?_ ?_)
   | (with_reducible refine LeO.bind ?_ (fun _ => ?_))
   | exact ih0 _ _ _ _
   | exact spec_srPut.mono _ _ _ _
   | exact LeO.none _
   | refine LeO.ite ?_ ?_
   | refine LeO.bind ?_ (fun _ => ?_)
set_option maxHeartbeats 8000000 in
set_option maxRecDepth 100000 in
theorem spec_srChords.calls (k : Nat) (a0_0 : Int) (a0_1 : Int) (r : List (S60)) (w : World) (h : spec_srChords.f k a0_0 a0_1 = some r) :
  Calls Try.prog 48 #[.agg #[.int .i64 a0_0, .int .i64 a0_1]] w fun e w' => ∃ v0_ : Value, e = .returned (v0_) ∧ Kd.R k60 60 w' w.heap.size (fun _ => True) v0_ r ∧ Below w.heap.size w w' := by
 have hu37 := Try.underlying37
 have HB := Aside0.mk (Below.refl w.heap.size w)
 have H : (spec_srChords.l0 k ([] : List (S60)) 0 a0_0 a0_1) = some r := h
 clear h
 have H' := Aside0.mk H
 clear H
 go_enter Try.func48, Try.ntmps48
 go_wp2_with (first | ((with_reducible refine gate_dst (N := 1) rfl ?_); refine box_event ?hg (N := 1) ?hd (cs := #[.int .i64 a0_0, .int .i64 a0_1]) (t := 37) ?hr ?_; (case hd => rfl); (case hg => rfl); (case hr => first | (go_simp; done) | (go_simp; rfl)); intro gb316 hg w2 hbox hb; have n0_ := Aside0.mk (below_step hb_ hb); have n1_ := Aside0.mk (hbox); have n2_ := Aside0.mk ((by rw [hg]; exact (below_size hb_) : w.heap.size ≤ gb316)); have n3_ := Aside0.mk ((by rw [hg]; exact (below_size hb_) : w.heap.size ≤ gb316)); clear HB; have HB := n0_; have BK316 := n1_; have GW316 := n2_; have GE316 := n3_; clear n0_ n1_ n2_ n3_; clear hb hbox hg))
 go_loopg [3, 4] k (fun kq v3 v4 w' => ∃ (x3_1 : List (S60)) (x4_1 : Int), v4 = .int .i64 x4_1 ∧ Aside0 (spec_srChords.l0 kq x3_1 x4_1 a0_0 a0_1 = some r) ∧ Aside0 (kq ≤ k) ∧ Aside0 (Kd.R k60 60 w' w.heap.size (fun _ => True) v3 x3_1) ∧ Aside0 (w'.heap[gb316]? = some (.cells #[.int .i64 a0_0, .int .i64 a0_1] 37 (0, 0))) ∧ Aside0 (Below w.heap.size w w'))
 case atStart => exact ⟨(([] : List (S60))), (0), (by first | rfl | (simp; done) | (simp [*]; done)), H', ⟨Nat.le_refl _⟩, ⟨by first | exact Kd.R_nil _ _ _ _ _ | exact Kd.N_nil _ _ _ _ _ | exact Kd.V_nil _ _ _ _ _ | exact Kd.Q_nil _ _ _ _ _ | exact Kd.S_nil _ _ _ _ _⟩, ⟨by (with_reducible repeat (first | refine kN ?_ _ | refine kD ?_ | refine kA ?_ _)); exact BK316.out⟩, ⟨hs_ GE316.out⟩⟩
 case round =>
  clear H'
  try clear p2
  obtain ⟨x3_1, x4_1, rfl, HA, HK1, HO_3, BK316, HB⟩ := hrel
  cases gk with
  | zero => exact absurd HA.out (by simp [spec_srChords.l0])
  | succ k1 =>
   have H := HA.out
   clear HA
   simp only [spec_srChords.l0] at H
   by_cases c3 : x4_1 < a0_0
   ·rw [if_pos c3] at H
    have c3b0 : decide (x4_1 < a0_0) = true := decide_eq_true c3
    clear c3
    by_cases c4 : a0_0 = 0
    ·rw [if_pos c4] at H
     exact absurd H (by simp)
    ·rw [if_neg c4] at H
     have c4b0 : (a0_0 == 0) = false := beq_eq_false_iff_ne.mpr c4
     have c4b1 : (a0_0 != 0) = true := bne_iff_ne.mpr c4
     replace H := bI H
     obtain ⟨⟨t317, t318⟩, A50, H⟩ := H
     replace H : ((spec_srPut.f k1 x3_1 t317 t318).bind fun t319 => (spec_srChords.l0 k1 t319 (wrap64 (x4_1 + 1)) a0_0 a0_1)) = some r := H
     have A5 := Aside0.mk A50
     clear A50
     replace H := bI H
     obtain ⟨t319, A60, H⟩ := H
     replace H : (spec_srChords.l0 k1 t319 (wrap64 (x4_1 + 1)) a0_0 a0_1) = some r := H
     have A6 := Aside0.mk A60
     clear A60
     have H' := Aside0.mk H
     clear H
     have hcz7_0 : wr.cell? ⟨gb316, 0, none⟩ = some (.int .i64 a0_0) := bc_ BK316 0
     have hcz7_1 : wr.cell? ⟨gb316, 1, none⟩ = some (.int .i64 a0_1) := bc_ BK316 1
     have hfz7_0 := blk_frozen BK316.out 0
     have hfz7_1 := blk_frozen BK316.out 1
     go_wp2_with (first | ((with_reducible refine gate_callee (f := 53) rfl ?_); refine goesL_ (some 20) rfl rfl Try.func53 (by kernel_rfl) rfl #[.int .i64 x4_1, .int .i64 (Int.tmod (wrap64 (x4_1 + a0_1)) a0_0)] rfl ar_ ?_; (with_reducible refine (spec_srChord.calls x4_1 (Int.tmod (wrap64 (x4_1 + a0_1)) a0_0) t317 t318 _ A5.out).mono ?_); rintro e w8 ⟨rfl, hb⟩; refine ⟨_, rfl, ?_⟩; have n0_ := Aside0.mk (Kd.R_below (ra_ HO_3.out) hb); have n1_ := Aside0.mk (blk_below (g := gb316) (o := .cells #[.int .i64 a0_0, .int .i64 a0_1] 37 (0, 0)) (kx_ BK316.out) hb); have n2_ := Aside0.mk (below_step (hs_ GE316.out) hb); clear HO_3; clear BK316; clear HB; have HO_3 := n0_; have BK316 := n1_; have HB := n2_; clear n0_ n1_ n2_; (try clear hb); (try clear hb2); (try clear hk); (try clear hi); obtain ⟨Ao9, co9, eo9⟩ := Kd.R_slice HO_3.out; subst eo9) | ((with_reducible refine gate_callee (f := 52) rfl ?_); refine goesL_ (some 21) rfl rfl Try.func52 (by kernel_rfl) rfl #[.slice Ao9 x3_1.length co9, .agg #[.int .i64 t317, .int .i64 t318]] rfl ar_ ?_; (with_reducible refine (spec_srPut.calls k1 (fun k_ => some k_ = (.slice Ao9 x3_1.length co9 : Value).ownBlock) (.slice Ao9 x3_1.length co9) x3_1 t317 t318 t319 w _ ?side1 ?side2 A6.out).mono ?_); (case side1 => repeat (first | (with_reducible first | exact HB.out | apply bA | apply bN | apply bD | refine below_set ?_ GE316.out) | exact HB.out)); (case side2 => exact Kd.R_tight rfl HO_3.out); rintro e w10 ⟨v320, rfl, ho0, hb, hkp⟩; refine ⟨_, rfl, ?_⟩; have n0_ := Aside0.mk (blk_kept (kx_ BK316.out) hkp (fun hs_ => (fun e_ => (Kd.R_ne HO_3.out BK316.out (by decide)) e_) hs_)); have n1_ := Aside0.mk (Kd.R_mono (ok' := fun k_ => True) ho0 (fun k_ hk_ => trivial)); have n2_ := Aside0.mk (hb); clear BK316; clear HB; clear HO_3; have BK316 := n0_; have HO321 := n1_; have HB := n2_; clear n0_ n1_ n2_; (try clear hb); (try clear hkp); (try clear ho0)))
     go_roundg k1
     case measure => have := HK1.out; omega
     case rel => exact ⟨(t319), (wrap64 (x4_1 + 1)), (by first | rfl | (simp; done) | (simp [*]; done)), H', ⟨by have := HK1.out; omega⟩, ⟨by (with_reducible repeat (first | apply rA | apply rN | apply rD)); exact HO321.out⟩, ⟨by (with_reducible repeat (first | refine kN ?_ _ | refine kD ?_ | refine kA ?_ _)); exact BK316.out⟩, ⟨hs_ GE316.out⟩⟩
   ·rw [if_neg c3] at H
    have c3b0 : decide (x4_1 < a0_0) = false := decide_eq_false c3
    clear c3
    obtain rfl := oI H
    have hcz11_0 : wr.cell? ⟨gb316, 0, none⟩ = some (.int .i64 a0_0) := bc_ BK316 0
    have hcz11_1 : wr.cell? ⟨gb316, 1, none⟩ = some (.int .i64 a0_1) := bc_ BK316 1
    have hfz11_0 := blk_frozen BK316.out 0
    have hfz11_1 := blk_frozen BK316.out 1
    go_wp2
    go_ret
    exact ⟨_, by first | rfl | (simp [errW_none, errW_some] <;> rfl) | (simp [*, errW_none, errW_some] <;> rfl), by (with_reducible repeat (first | apply rA | apply rN | apply rD)); exact HO_3.out, hs_ GE316.out⟩
mutual
def spec_srCount.l0 : Nat → List (S60) → Int → List (S60) → Int → Int → Option (Int)
 | 0, _, _, _, _, _ => none
 | k + 1, x0, x3, x8, x9, x10 => if x10 < x9 then (if 0 ≤ x10 then (if x10 < (x8.length : Int) then (if 0 ≤ (wrap64 (x10 + 1)) then (if (wrap64 (x10 + 1)) ≤ (x0.length : Int) then ((some (x0.drop ((wrap64 (x10 + 1)) : Int).toNat : List (S60))).bind fun y324 => (spec_srCount.l1 k x0 x3 x8 x9 x10 y324 (y324.length : Int) 0 ((rd_T60 x8 x10).f0) ((rd_T60 x8 x10).f1))) else (none)) else (none)) else (none)) else (none)) else (some x3)
def spec_srCount.l1 : Nat → List (S60) → Int → List (S60) → Int → Int → List (S60) → Int → Int → Int → Int → Option (Int)
 | 0, _, _, _, _, _, _, _, _, _, _ => none
 | k + 1, x0, x3, x8, x9, x10, x18, x19, x20, x324000, x324001 => if x20 < x19 then (if 0 ≤ x20 then (if x20 < (x18.length : Int) then ((spec_srCross.f x324000 x324001 ((rd_T60 x18 x20).f0) ((rd_T60 x18 x20).f1)).bind fun t330 => (if t330 = true then (spec_srCount.l1 k x0 (wrap64 (x3 + 1)) x8 x9 x10 x18 x19 (wrap64 (x20 + 1)) x324000 x324001) else (spec_srCount.l1 k x0 x3 x8 x9 x10 x18 x19 (wrap64 (x20 + 1)) x324000 x324001))) else (none)) else (none)) else (spec_srCount.l0 k x0 x3 x8 x9 (wrap64 (x10 + 1)))
end
def spec_srCount.f (k : Nat) (l0 : List (S60)) : Option (Int) := spec_srCount.l0 k l0 0 l0 (l0.length : Int) 0
theorem spec_srCount.mono_l : ∀ k, (∀ y0 y1 y2 y3 y4, LeO (spec_srCount.l0 k y0 y1 y2 y3 y4) (spec_srCount.l0 (k + 1) y0 y1 y2 y3 y4)) ∧ (∀ y0 y1 y2 y3 y4 y5 y6 y7 y8 y9, LeO (spec_srCount.l1 k y0 y1 y2 y3 y4 y5 y6 y7 y8 y9) (spec_srCount.l1 (k + 1) y0 y1 y2 y3 y4 y5 y6 y7 y8 y9))
 | 0 => ⟨fun _ _ _ _ _ r h => by simp [spec_srCount.l0] at h, fun _ _ _ _ _ _ _ _ _ _ r h => by simp [spec_srCount.l1] at h⟩
 | k + 1 => by
  obtain ⟨ih0, ih1⟩ := spec_srCount.mono_l k
  refine ⟨?_, ?_⟩
  ·intro y0 y1 y2 y3 y4
   unfold spec_srCount.l0
   repeat' first
   | (with_reducible exact ih0 _ _ _ _ _)
   | (with_reducible exact ih1 _ _ _ _ _ _ _ _ _ _)
   | (with_reducible exact LeO.refl _)
   | (with_reducible exact LeO.none _)
   | (with_reducible refine LeO.ite ?_ ?_)
   | (with_reducible refine LeO.bind ?_ (fun _ => ?_))
   | exact ih0 _ _ _ _ _
   | exact ih1 _ _ _ _ _ _ _ _ _ _
   | exact LeO.none _
   | refine LeO.ite ?_ ?_
   | refine LeO.bind ?_ (fun _ => ?_)
  ·intro y0 y1 y2 y3 y4 y5 y6 y7 y8 y9
   unfold spec_srCount.l1
   repeat' first
   | (with_reducible exact ih0 _ _ _ _ _)
   | (with_reducible exact ih1 _ _ _ _ _ _ _ _ _ _)
   | (with_reducible exact LeO.refl _)
   | (with_reducible exact LeO.none _)
   | (with_reducible refine LeO.ite ?_ ?_)
   | (with_reducible refine LeO.bind ?_ (fun _ => ?_))
   | exact ih0 _ _ _ _ _
   | exact ih1 _ _ _ _ _ _ _ _ _ _
   | exact LeO.none _
   | refine LeO.ite ?_ ?_
   | refine LeO.bind ?_ (fun _ => ?_)
theorem spec_srCount.mono : ∀ a0 k, LeO (spec_srCount.f k a0) (spec_srCount.f (k + 1) a0) := by
 intro a0 k
 obtain ⟨ih0, ih1⟩ := spec_srCount.mono_l k
 unfold spec_srCount.f
 repeat' first
   | (with_reducible exact ih0 _ _ _ _ _)
   | (with_reducible exact ih1 _ _ _ _ _ _ _ _ _ _)
   | (with_reducible exact LeO.refl _)
   | (with_reducible exact LeO.none _)
   | (with_reducible refine LeO.ite ?_ ?_)
   | (with_reducible refine LeO.bind ?_ (fun _ => ?_))
   | exact ih0 _ _ _ _ _
   | exact ih1 _ _ _ _ _ _ _ _ _ _
   | exact LeO.none _
   | refine LeO.ite ?_ ?_
   | refine LeO.bind ?_ (fun _ => ?_)
set_option maxHeartbeats 8000000 in
set_option maxRecDepth 100000 in
theorem spec_srCount.calls (k : Nat) (A0 : Option Addr) (c0 : Nat) (l0 : List (S60)) (r : Int) (w : World) (hr0 : Kd.C k60 w A0 l0.length l0) (hc0 : l0.length ≤ c0) (h : spec_srCount.f k l0 = some r) :
  Calls Try.prog 49 #[.slice A0 l0.length c0] w fun e w' => e = .returned (.int .i64 r) ∧ Below w.heap.size w w' := by
 have hu60 := Try.underlying60
 have HR0 := Aside0.mk hr0
 have HC0 := Aside0.mk hc0
 clear hr0 hc0
 have HB := Aside0.mk (Below.refl w.heap.size w)
 have H : (spec_srCount.l0 k l0 0 l0 (l0.length : Int) 0) = some r := h
 clear h
 have H' := Aside0.mk H
 clear H
 go_enter Try.func49, Try.ntmps49
 go_wp2
 go_loopg [3, 10] k (fun kq v3 v10 w' => ∃ (x3_1 : Int) (x10_1 : Int), v3 = .int .i64 x3_1 ∧ v10 = .int .i64 x10_1 ∧ Aside0 (spec_srCount.l0 kq l0 x3_1 l0 (l0.length : Int) x10_1 = some r) ∧ Aside0 (kq ≤ k) ∧ Aside0 (Below w.heap.size w w'))
 case atStart => exact ⟨(0), (0), (by first | rfl | (simp; done) | (simp [*]; done)), (by first | rfl | (simp; done) | (simp [*]; done)), H', ⟨Nat.le_refl _⟩, ⟨hb_⟩⟩
 case round =>
  clear H'
  obtain ⟨x3_1, x10_1, rfl, rfl, HA, HK1, HB⟩ := hrel
  cases gk with
  | zero => exact absurd HA.out (by simp [spec_srCount.l0])
  | succ k1 =>
   have H := HA.out
   clear HA
   simp only [spec_srCount.l0] at H
   by_cases c2 : x10_1 < (l0.length : Int)
   ·rw [if_pos c2] at H
    have c2b0 : decide (x10_1 < (l0.length : Int)) = true := decide_eq_true c2
    clear c2
    by_cases c3 : 0 ≤ x10_1
    ·rw [if_pos c3] at H
     have c3b0 : decide (0 ≤ x10_1) = true := decide_eq_true c3
     clear c3
     by_cases c4 : x10_1 < (l0.length : Int)
     ·rw [if_pos c4] at H
      have c4b0 : decide (x10_1 < (l0.length : Int)) = true := decide_eq_true c4
      clear c4
      obtain ⟨ji5, hji5⟩ : ∃ j_ : Int, (wrap64 (x10_1 + 1)) = j_ := ⟨_, rfl⟩
      replace H : (if 0 ≤ (ji5) then (if (ji5) ≤ (l0.length : Int) then ((some (l0.drop ((ji5) : Int).toNat : List (S60))).bind fun y324 => (spec_srCount.l1 k1 l0 x3_1 l0 (l0.length : Int) x10_1 y324 (y324.length : Int) 0 ((rd_T60 l0 x10_1).f0) ((rd_T60 l0 x10_1).f1))) else (none)) else (none)) = some r := by first | (rw [hji5] at H; exact H) | (simp only [hji5] at H ⊢; exact H)
      have hji5w : (IntKind.i64.wrap (x10_1 + 1)) = ji5 := (i64_w _).trans hji5
      by_cases c6 : 0 ≤ (ji5)
      ·rw [if_pos c6] at H
       have c6b0 := eq_true c6
       have c6b1 : decide (0 ≤ (ji5)) = true := decide_eq_true c6
       clear c6
       by_cases c7 : (ji5) ≤ (l0.length : Int)
       ·rw [if_pos c7] at H
        have c7b0 := eq_true c7
        have c7b1 : decide ((ji5) ≤ (l0.length : Int)) = true := decide_eq_true c7
        clear c7
        obtain ⟨y324, hy324⟩ : ∃ y_ : List (S60), y_ = (l0.drop ((ji5) : Int).toNat) := ⟨_, rfl⟩
        replace H : (spec_srCount.l1 k1 l0 x3_1 l0 (l0.length : Int) x10_1 y324 (y324.length : Int) 0 ((rd_T60 l0 x10_1).f0) ((rd_T60 l0 x10_1).f1)) = some r := by first | (rw [hy324]; with_reducible exact H) | (have H2_ := (Option.bind_some _ _).symm.trans H; rw [hy324]; with_reducible exact H2_) | (have H2_ := (Option.bind_some _ _).symm.trans H; with_reducible exact H2_) | with_reducible exact H | (rw [hy324]; exact H) | exact H
        have Ny324 := Aside0.mk hy324
        clear hy324
        have H' := Aside0.mk H
        clear H
        have p322 : 0 ≤ (x10_1 : Int) := of_decide_eq_true (by assumption)
        have q322 : x10_1 < (l0.length : Int) := of_decide_eq_true (by assumption)
        obtain ⟨ad322, e322, hx322_0, hx322_1⟩ := at_T60 HR0.out x10_1 p322 q322
        cases e322
        replace hx322_0 := (HB.out.cell (World.block_lt_of_cell? w _ hx322_0)).trans hx322_0
        replace hx322_1 := (HB.out.cell (World.block_lt_of_cell? w _ hx322_1)).trans hx322_1
        replace p322 := eq_true p322
        replace q322 := eq_true q322
        go_wp2_with (first | ((with_reducible refine gate_dst (N := 5) rfl ?_); refine box_event ?hg (N := 5) ?hd (cs := #[.int .i64 0, .int .i64 0]) (t := 60) ?hr ?_; (case hd => rfl); (case hg => rfl); (case hr => first | (go_simp; done) | (go_simp; rfl)); intro gb323 hg w8 hbox hb; have n0_ := Aside0.mk (below_step hb_ hb); have n1_ := Aside0.mk (hbox); have n2_ := Aside0.mk ((by rw [hg]; exact (below_size hb_) : w.heap.size ≤ gb323)); have n3_ := Aside0.mk ((by rw [hg]; exact (below_size hb_) : w.heap.size ≤ gb323)); clear HB; have HB := n0_; have BK323 := n1_; have GW323 := n2_; have GE323 := n3_; clear n0_ n1_ n2_ n3_; clear hb hbox hg; have hcz9_0 : w8.cell? ⟨gb323, 0, none⟩ = some (.int .i64 0) := bc_ BK323 0; have hcz9_1 : w8.cell? ⟨gb323, 1, none⟩ = some (.int .i64 0) := bc_ BK323 1; have hfz9_0 := blk_frozen BK323.out 0; have hfz9_1 := blk_frozen BK323.out 1) | ((with_reducible refine gate_store (t := 60) (p := 5) rfl ?_); refine store_event (t := 60) (p := 5) (v := ?vo_w10) (w1 := ((w8.setCell ⟨gb323, 0, none⟩ (.int .i64 ((rd_T60 l0 x10_1).f0))).setCell ⟨gb323, 1, none⟩ (.int .i64 ((rd_T60 l0 x10_1).f1)))) ?hg ?ho ?hn ?hr ?_; (case ho => rfl); (case hg => rfl); (case hn => rfl); (case hr => first | (go_simp; done) | (go_simp; rfl)); intro w10 hw; have n0_ : Aside0 (w10.heap[gb323]? = some (.cells #[.int .i64 ((rd_T60 l0 x10_1).f0), .int .i64 ((rd_T60 l0 x10_1).f1)] 60 (0, 0))) := ⟨(by rw [hw]; exact (by (with_reducible repeat (first | refine kN ?_ _ | refine kD ?_ | refine kA ?_ _)); refine blk_put (cs := #[.int .i64 ((rd_T60 l0 x10_1).f0), .int .i64 0]) ?_ 1 _ rfl; (with_reducible repeat (first | refine kN ?_ _ | refine kD ?_ | refine kA ?_ _)); refine blk_put (cs := #[.int .i64 0, .int .i64 0]) ?_ 0 _ rfl; (with_reducible repeat (first | refine kN ?_ _ | refine kD ?_ | refine kA ?_ _)); exact BK323.out))⟩; have n1_ : Aside0 (Below w.heap.size w w10) := ⟨(by rw [hw]; exact (hs_ GE323.out))⟩; clear hw; clear BK323; clear HB; have BK323 := n0_; have HB := n1_; clear n0_ n1_; have q11 : ((ji5) : Int) ≤ ((l0.length : Int) : Int) := of_decide_eq_true (by assumption); obtain ⟨i011, hi011, _, hsz11, _⟩ := info_parts info60; have hroom11 : l0.length ≤ c0 := HC0.out; have hC11 : Kd.C k60 _ (some ad322) l0.length l0 := HR0.out; have q011 : (0 : Int) ≤ ((ji5) : Int) := of_decide_eq_true (by assumption); have hcut11 := cut_from (P := Try.prog) 24 60 .i64 Try.underlying24 hi011 2 hsz11 (some ad322) l0.length c0 (ji5) q011 q11; have hr11 := Kd.C_drop (m := ((ji5) : Int).toNat) (c := c0) hC11 (by omega) hroom11; obtain ⟨A11, hA11⟩ : ∃ A1, A1 = (if c0 = ((ji5) : Int).toNat then (some ad322) else ((some ad322) : Option Addr).map (·.add (((ji5) : Int).toNat * 2))) := ⟨_, rfl⟩; obtain ⟨c11, hc11⟩ : ∃ c1, c1 = c0 - ((ji5) : Int).toNat := ⟨_, rfl⟩; have hy11 : y324.length = l0.length - ((ji5) : Int).toNat := (by rw [Ny324.out, List.length_drop] <;> omega); rw [show (l0).drop ((ji5) : Int).toNat = y324 from Ny324.out.symm] at hr11; replace hr11 : Kd.C k60 _ A11 y324.length y324 := (by rw [hA11]; exact hr11); rw [← hy11, ← hA11, ← hc11] at hcut11; have HR327 := Aside0.mk hr11; have HC327 := Aside0.mk (show y324.length ≤ c11 from by rw [hy11, hc11]; exact Nat.sub_le_sub_right hroom11 _); clear hr11 hC11 hroom11 hi011 hsz11 hc11; have KY11 := Aside0.mk hy11; have KA11 := Aside0.mk hA11; clear hy11 hA11; replace q11 := eq_true q11))
        go_loopg [3, 20] k1 (fun kq v3 v20 w' => ∃ (x3_2 : Int) (x20_2 : Int), v3 = .int .i64 x3_2 ∧ v20 = .int .i64 x20_2 ∧ Aside0 (spec_srCount.l1 kq l0 x3_2 l0 (l0.length : Int) x10_1 y324 (y324.length : Int) x20_2 ((rd_T60 l0 x10_1).f0) ((rd_T60 l0 x10_1).f1) = some r) ∧ Aside0 (kq ≤ k1) ∧ Aside0 (w'.heap[gb323]? = some (.cells #[.int .i64 ((rd_T60 l0 x10_1).f0), .int .i64 ((rd_T60 l0 x10_1).f1)] 60 (0, 0))) ∧ Aside0 (Below w.heap.size w w'))
        case atStart => exact ⟨(x3_1), (0), (by first | rfl | (simp; done) | (simp [*]; done)), (by first | rfl | (simp; done) | (simp [*]; done)), H', ⟨Nat.le_refl _⟩, ⟨by (with_reducible repeat (first | refine kN ?_ _ | refine kD ?_ | refine kA ?_ _)); exact BK323.out⟩, ⟨hs_ GE323.out⟩⟩
        case round =>
         clear H'
         try clear c1
         try clear q1
         try clear c2
         try clear c2b0
         try clear p2
         try clear c3
         try clear c3b0
         try clear p3
         try clear q3
         try clear hx3
         try clear c4
         try clear c4b0
         try clear c6
         try clear c6b0
         try clear c6b1
         try clear p6
         try clear c7
         try clear c7b0
         try clear c7b1
         try clear c11
         try clear q11
         try clear hcz9_0
         try clear hcz9_1
         try clear hfz9_0
         try clear hfz9_1
         try clear hx322_0
         try clear hx322_1
         try clear p322
         try clear q011
         try clear q11
         try clear q322
         obtain ⟨x3_2, x20_2, rfl, rfl, HA, HK2, BK323, HB⟩ := hrel
         cases gk with
         | zero => exact absurd HA.out (by simp [spec_srCount.l1])
         | succ k2 =>
          have H := HA.out
          clear HA
          simp only [spec_srCount.l1] at H
          by_cases c12 : x20_2 < (y324.length : Int)
          ·rw [if_pos c12] at H
           have c12b0 : decide (x20_2 < (y324.length : Int)) = true := decide_eq_true c12
           clear c12
           by_cases c13 : 0 ≤ x20_2
           ·rw [if_pos c13] at H
            have c13b0 : decide (0 ≤ x20_2) = true := decide_eq_true c13
            clear c13
            by_cases c14 : x20_2 < (y324.length : Int)
            ·rw [if_pos c14] at H
             have c14b0 : decide (x20_2 < (y324.length : Int)) = true := decide_eq_true c14
             clear c14
             replace H := bI H
             obtain ⟨t330, A150, H⟩ := H
             replace H : (if t330 = true then (spec_srCount.l1 k2 l0 (wrap64 (x3_2 + 1)) l0 (l0.length : Int) x10_1 y324 (y324.length : Int) (wrap64 (x20_2 + 1)) ((rd_T60 l0 x10_1).f0) ((rd_T60 l0 x10_1).f1)) else (spec_srCount.l1 k2 l0 x3_2 l0 (l0.length : Int) x10_1 y324 (y324.length : Int) (wrap64 (x20_2 + 1)) ((rd_T60 l0 x10_1).f0) ((rd_T60 l0 x10_1).f1))) = some r := H
             have A15 := Aside0.mk A150
             clear A150
             by_cases c16 : t330 = true
             ·subst c16
              have H1 : (spec_srCount.l1 k2 l0 (wrap64 (x3_2 + 1)) l0 (l0.length : Int) x10_1 y324 (y324.length : Int) (wrap64 (x20_2 + 1)) ((rd_T60 l0 x10_1).f0) ((rd_T60 l0 x10_1).f1)) = some r := by rw [if_pos rfl] at H; exact H
              clear H
              have H := H1
              clear H1
              have H' := Aside0.mk H
              clear H
              have p328 : 0 ≤ (x20_2 : Int) := of_decide_eq_true (by assumption)
              have q328 : x20_2 < (y324.length : Int) := of_decide_eq_true (by assumption)
              obtain ⟨ad328, e328, hx328_0, hx328_1⟩ := at_T60 HR327.out x20_2 p328 q328
              cases e328
              replace hx328_0 := (HB.out.cell (World.block_lt_of_cell? w _ hx328_0)).trans hx328_0
              replace hx328_1 := (HB.out.cell (World.block_lt_of_cell? w _ hx328_1)).trans hx328_1
              replace p328 := eq_true p328
              replace q328 := eq_true q328
              go_wp2_with (first | ((with_reducible refine gate_dst (N := 7) rfl ?_); refine box_event ?hg (N := 7) ?hd (cs := #[.int .i64 0, .int .i64 0]) (t := 60) ?hr ?_; (case hd => rfl); (case hg => rfl); (case hr => first | (go_simp; done) | (go_simp; rfl)); intro gb329 hg w17 hbox hb; have n0_ := Aside0.mk (blk_below (g := gb323) (o := .cells #[.int .i64 ((rd_T60 l0 x10_1).f0), .int .i64 ((rd_T60 l0 x10_1).f1)] 60 (0, 0)) (kx_ BK323.out) hb); have n1_ := Aside0.mk (below_step (hs_ GE323.out) hb); have n2_ := Aside0.mk (hbox); have n3_ := Aside0.mk ((by rw [hg]; exact (below_size (hs_ GE323.out)) : w.heap.size ≤ gb329)); have n4_ := Aside0.mk ((by rw [hg]; exact (below_size (hs_ GE323.out)) : w.heap.size ≤ gb329)); have n5_ := Aside0.mk ((by rw [hg]; exact Nat.ne_of_lt (blk_lt (g := gb323) (o := .cells #[.int .i64 ((rd_T60 l0 x10_1).f0), .int .i64 ((rd_T60 l0 x10_1).f1)] 60 (0, 0)) (kx_ BK323.out)) : gb323 ≠ gb329)); have n6_ := Aside0.mk ((by rw [hg]; exact Nat.ne_of_gt (blk_lt (g := gb323) (o := .cells #[.int .i64 ((rd_T60 l0 x10_1).f0), .int .i64 ((rd_T60 l0 x10_1).f1)] 60 (0, 0)) (kx_ BK323.out)) : gb329 ≠ gb323)); clear BK323; clear HB; have BK323 := n0_; have HB := n1_; have BK329 := n2_; have GW329 := n3_; have GE329 := n4_; have NB323_329 := n5_; have NB329_323 := n6_; clear n0_ n1_ n2_ n3_ n4_ n5_ n6_; clear hb hbox hg; have hnb18 := NB329_323.out; have hnc18 := NB323_329.out; have hcz19_0 : w17.cell? ⟨gb329, 0, none⟩ = some (.int .i64 0) := bc_ BK329 0; have hcz19_1 : w17.cell? ⟨gb329, 1, none⟩ = some (.int .i64 0) := bc_ BK329 1; have hfz19_0 := blk_frozen BK329.out 0; have hfz19_1 := blk_frozen BK329.out 1; have hcz20_0 : w17.cell? ⟨gb323, 0, none⟩ = some (.int .i64 ((rd_T60 l0 x10_1).f0)) := bc_ BK323 0; have hcz20_1 : w17.cell? ⟨gb323, 1, none⟩ = some (.int .i64 ((rd_T60 l0 x10_1).f1)) := bc_ BK323 1; have hfz20_0 := blk_frozen BK323.out 0; have hfz20_1 := blk_frozen BK323.out 1) | ((with_reducible refine gate_callee (f := 64) rfl ?_); refine goesL_ (some 26) rfl rfl Try.func64 (by kernel_rfl) rfl #[.agg #[.int .i64 ((rd_T60 l0 x10_1).f0), .int .i64 ((rd_T60 l0 x10_1).f1)], .agg #[.int .i64 ((rd_T60 y324 x20_2).f0), .int .i64 ((rd_T60 y324 x20_2).f1)]] rfl ar_ ?_; (with_reducible refine (spec_srCross.calls ((rd_T60 l0 x10_1).f0) ((rd_T60 l0 x10_1).f1) ((rd_T60 y324 x20_2).f0) ((rd_T60 y324 x20_2).f1) true _ A15.out).mono ?_); rintro e w21 ⟨rfl, hb⟩; refine ⟨_, rfl, ?_⟩; have n0_ := Aside0.mk (blk_below (g := gb323) (o := .cells #[.int .i64 ((rd_T60 l0 x10_1).f0), .int .i64 ((rd_T60 l0 x10_1).f1)] 60 (0, 0)) (by (with_reducible repeat (first | refine kN ?_ _ | refine kD ?_ | refine kA ?_ _)); refine blk_far ?_ NB323_329.out _; (with_reducible repeat (first | refine kN ?_ _ | refine kD ?_ | refine kA ?_ _)); refine blk_far ?_ NB323_329.out _; (with_reducible repeat (first | refine kN ?_ _ | refine kD ?_ | refine kA ?_ _)); exact BK323.out) hb); have n1_ := Aside0.mk (blk_below (g := gb329) (o := .cells #[.int .i64 ((rd_T60 y324 x20_2).f0), .int .i64 ((rd_T60 y324 x20_2).f1)] 60 (0, 0)) (by (with_reducible repeat (first | refine kN ?_ _ | refine kD ?_ | refine kA ?_ _)); refine blk_put (cs := #[.int .i64 ((rd_T60 y324 x20_2).f0), .int .i64 0]) ?_ 1 _ rfl; (with_reducible repeat (first | refine kN ?_ _ | refine kD ?_ | refine kA ?_ _)); refine blk_put (cs := #[.int .i64 0, .int .i64 0]) ?_ 0 _ rfl; (with_reducible repeat (first | refine kN ?_ _ | refine kD ?_ | refine kA ?_ _)); exact BK329.out) hb); have n2_ := Aside0.mk (below_step (hm_) hb); clear BK323; clear BK329; clear HB; have BK323 := n0_; have BK329 := n1_; have HB := n2_; clear n0_ n1_ n2_; (try clear hb); (try clear hb2); (try clear hk); (try clear hi)))
              go_roundg k2
              case measure => have := HK1.out; have := HK2.out; omega
              case rel => exact ⟨(wrap64 (x3_2 + 1)), (wrap64 (x20_2 + 1)), (by first | rfl | (simp; done) | (simp [*]; done)), (by first | rfl | (simp; done) | (simp [*]; done)), H', ⟨by have := HK1.out; have := HK2.out; omega⟩, ⟨by (with_reducible repeat (first | refine kN ?_ _ | refine kD ?_ | refine kA ?_ _)); exact BK323.out⟩, ⟨hm_⟩⟩
             ·replace c16 := Bool.eq_false_iff.mpr c16
              subst c16
              have H1 : (spec_srCount.l1 k2 l0 x3_2 l0 (l0.length : Int) x10_1 y324 (y324.length : Int) (wrap64 (x20_2 + 1)) ((rd_T60 l0 x10_1).f0) ((rd_T60 l0 x10_1).f1)) = some r := by rw [if_neg (show ¬ (false = true) by decide)] at H; exact H
              clear H
              have H := H1
              clear H1
              have H' := Aside0.mk H
              clear H
              have p328 : 0 ≤ (x20_2 : Int) := of_decide_eq_true (by assumption)
              have q328 : x20_2 < (y324.length : Int) := of_decide_eq_true (by assumption)
              obtain ⟨ad328, e328, hx328_0, hx328_1⟩ := at_T60 HR327.out x20_2 p328 q328
              cases e328
              replace hx328_0 := (HB.out.cell (World.block_lt_of_cell? w _ hx328_0)).trans hx328_0
              replace hx328_1 := (HB.out.cell (World.block_lt_of_cell? w _ hx328_1)).trans hx328_1
              replace p328 := eq_true p328
              replace q328 := eq_true q328
              go_wp2_with (first | ((with_reducible refine gate_dst (N := 7) rfl ?_); refine box_event ?hg (N := 7) ?hd (cs := #[.int .i64 0, .int .i64 0]) (t := 60) ?hr ?_; (case hd => rfl); (case hg => rfl); (case hr => first | (go_simp; done) | (go_simp; rfl)); intro gb329 hg w22 hbox hb; have n0_ := Aside0.mk (blk_below (g := gb323) (o := .cells #[.int .i64 ((rd_T60 l0 x10_1).f0), .int .i64 ((rd_T60 l0 x10_1).f1)] 60 (0, 0)) (kx_ BK323.out) hb); have n1_ := Aside0.mk (below_step (hs_ GE323.out) hb); have n2_ := Aside0.mk (hbox); have n3_ := Aside0.mk ((by rw [hg]; exact (below_size (hs_ GE323.out)) : w.heap.size ≤ gb329)); have n4_ := Aside0.mk ((by rw [hg]; exact (below_size (hs_ GE323.out)) : w.heap.size ≤ gb329)); have n5_ := Aside0.mk ((by rw [hg]; exact Nat.ne_of_lt (blk_lt (g := gb323) (o := .cells #[.int .i64 ((rd_T60 l0 x10_1).f0), .int .i64 ((rd_T60 l0 x10_1).f1)] 60 (0, 0)) (kx_ BK323.out)) : gb323 ≠ gb329)); have n6_ := Aside0.mk ((by rw [hg]; exact Nat.ne_of_gt (blk_lt (g := gb323) (o := .cells #[.int .i64 ((rd_T60 l0 x10_1).f0), .int .i64 ((rd_T60 l0 x10_1).f1)] 60 (0, 0)) (kx_ BK323.out)) : gb329 ≠ gb323)); clear BK323; clear HB; have BK323 := n0_; have HB := n1_; have BK329 := n2_; have GW329 := n3_; have GE329 := n4_; have NB323_329 := n5_; have NB329_323 := n6_; clear n0_ n1_ n2_ n3_ n4_ n5_ n6_; clear hb hbox hg; have hnb23 := NB329_323.out; have hnc23 := NB323_329.out; have hcz24_0 : w22.cell? ⟨gb329, 0, none⟩ = some (.int .i64 0) := bc_ BK329 0; have hcz24_1 : w22.cell? ⟨gb329, 1, none⟩ = some (.int .i64 0) := bc_ BK329 1; have hfz24_0 := blk_frozen BK329.out 0; have hfz24_1 := blk_frozen BK329.out 1; have hcz25_0 : w22.cell? ⟨gb323, 0, none⟩ = some (.int .i64 ((rd_T60 l0 x10_1).f0)) := bc_ BK323 0; have hcz25_1 : w22.cell? ⟨gb323, 1, none⟩ = some (.int .i64 ((rd_T60 l0 x10_1).f1)) := bc_ BK323 1; have hfz25_0 := blk_frozen BK323.out 0; have hfz25_1 := blk_frozen BK323.out 1) | ((with_reducible refine gate_callee (f := 64) rfl ?_); refine goesL_ (some 26) rfl rfl Try.func64 (by kernel_rfl) rfl #[.agg #[.int .i64 ((rd_T60 l0 x10_1).f0), .int .i64 ((rd_T60 l0 x10_1).f1)], .agg #[.int .i64 ((rd_T60 y324 x20_2).f0), .int .i64 ((rd_T60 y324 x20_2).f1)]] rfl ar_ ?_; (with_reducible refine (spec_srCross.calls ((rd_T60 l0 x10_1).f0) ((rd_T60 l0 x10_1).f1) ((rd_T60 y324 x20_2).f0) ((rd_T60 y324 x20_2).f1) false _ A15.out).mono ?_); rintro e w26 ⟨rfl, hb⟩; refine ⟨_, rfl, ?_⟩; have n0_ := Aside0.mk (blk_below (g := gb323) (o := .cells #[.int .i64 ((rd_T60 l0 x10_1).f0), .int .i64 ((rd_T60 l0 x10_1).f1)] 60 (0, 0)) (by (with_reducible repeat (first | refine kN ?_ _ | refine kD ?_ | refine kA ?_ _)); refine blk_far ?_ NB323_329.out _; (with_reducible repeat (first | refine kN ?_ _ | refine kD ?_ | refine kA ?_ _)); refine blk_far ?_ NB323_329.out _; (with_reducible repeat (first | refine kN ?_ _ | refine kD ?_ | refine kA ?_ _)); exact BK323.out) hb); have n1_ := Aside0.mk (blk_below (g := gb329) (o := .cells #[.int .i64 ((rd_T60 y324 x20_2).f0), .int .i64 ((rd_T60 y324 x20_2).f1)] 60 (0, 0)) (by (with_reducible repeat (first | refine kN ?_ _ | refine kD ?_ | refine kA ?_ _)); refine blk_put (cs := #[.int .i64 ((rd_T60 y324 x20_2).f0), .int .i64 0]) ?_ 1 _ rfl; (with_reducible repeat (first | refine kN ?_ _ | refine kD ?_ | refine kA ?_ _)); refine blk_put (cs := #[.int .i64 0, .int .i64 0]) ?_ 0 _ rfl; (with_reducible repeat (first | refine kN ?_ _ | refine kD ?_ | refine kA ?_ _)); exact BK329.out) hb); have n2_ := Aside0.mk (below_step (hm_) hb); clear BK323; clear BK329; clear HB; have BK323 := n0_; have BK329 := n1_; have HB := n2_; clear n0_ n1_ n2_; (try clear hb); (try clear hb2); (try clear hk); (try clear hi)))
              go_roundg k2
              case measure => have := HK1.out; have := HK2.out; omega
              case rel => exact ⟨(x3_2), (wrap64 (x20_2 + 1)), (by first | rfl | (simp; done) | (simp [*]; done)), (by first | rfl | (simp; done) | (simp [*]; done)), H', ⟨by have := HK1.out; have := HK2.out; omega⟩, ⟨by (with_reducible repeat (first | refine kN ?_ _ | refine kD ?_ | refine kA ?_ _)); exact BK323.out⟩, ⟨hm_⟩⟩
            ·rw [if_neg c14] at H
             exact absurd H (by simp)
           ·rw [if_neg c13] at H
            exact absurd H (by simp)
          ·rw [if_neg c12] at H
           have c12b0 : decide (x20_2 < (y324.length : Int)) = false := decide_eq_false c12
           clear c12
           have H' := Aside0.mk H
           clear H
           go_wp2
           go_roundg k2
           case measure => have := HK1.out; have := HK2.out; omega
           case rel => exact ⟨(x3_2), (wrap64 (x10_1 + 1)), (by first | rfl | (simp; done) | (simp [*]; done)), (by first | rfl | (simp; done) | (simp [*]; done)), H', ⟨by have := HK1.out; have := HK2.out; omega⟩, ⟨hs_ GE323.out⟩⟩
       ·rw [if_neg c7] at H
        exact absurd H (by simp)
      ·rw [if_neg c6] at H
       exact absurd H (by simp)
     ·rw [if_neg c4] at H
      exact absurd H (by simp)
    ·rw [if_neg c3] at H
     exact absurd H (by simp)
   ·rw [if_neg c2] at H
    have c2b0 : decide (x10_1 < (l0.length : Int)) = false := decide_eq_false c2
    clear c2
    obtain rfl := oI H
    go_wp2
    go_ret
    exact ⟨by first | rfl | (simp [errW_none, errW_some] <;> rfl) | (simp [*, errW_none, errW_some] <;> rfl), hb_⟩
def impl_chord.f (a0 : Int) (a1 : Int) : Option (Int × Int) := some (mn a0 a1, mx a0 a1)
set_option maxHeartbeats 8000000 in
set_option maxRecDepth 100000 in
theorem impl_chord.calls (a0 : Int) (a1 : Int) (r1 : Int) (r2 : Int) (w : World) (h : impl_chord.f a0 a1 = some (r1, r2)) :
  Calls Try.prog 69 #[.int .i64 a0, .int .i64 a1] w fun e w' => e = .returned (.agg #[.int .i64 r1, .int .i64 r2]) ∧ Below w.heap.size w w' := by
 have hu60 := Try.underlying60
 have HB := Aside0.mk (Below.refl w.heap.size w)
 have H : (some (mn a0 a1, mx a0 a1)) = some (r1, r2) := h
 clear h
 obtain ⟨ji3, hji3⟩ : ∃ j_ : Int, (mn a0 a1) = j_ := ⟨_, rfl⟩
 replace H : (some (ji3, mx a0 a1)) = some (r1, r2) := by first | (rw [hji3] at H; exact H) | (simp only [hji3] at H ⊢; exact H)
 have hji3_ : (if a1 < a0 then a1 else a0) = ji3 := hji3
 obtain ⟨ji4, hji4⟩ : ∃ j_ : Int, (mx a0 a1) = j_ := ⟨_, rfl⟩
 replace H : (some (ji3, ji4)) = some (r1, r2) := by first | (rw [hji4] at H; exact H) | (simp only [hji4] at H ⊢; exact H)
 have hji4_ : (if a0 < a1 then a1 else a0) = ji4 := hji4
 simp only [Option.some.injEq, Prod.mk.injEq] at H
 obtain ⟨rfl, rfl⟩ := H
 go_enter Try.func69, Try.ntmps69
 go_wp2_with (first | ((with_reducible refine gate_dst (N := 4) rfl ?_); refine box_event ?hg (N := 4) ?hd (cs := #[.int .i64 0, .int .i64 0]) (t := 60) ?hr ?_; (case hd => rfl); (case hg => rfl); (case hr => first | (go_simp; done) | (go_simp; rfl)); intro gb168 hg w5 hbox hb; have n0_ := Aside0.mk (below_step hb_ hb); have n1_ := Aside0.mk (hbox); have n2_ := Aside0.mk ((by rw [hg]; exact (below_size hb_) : w.heap.size ≤ gb168)); have n3_ := Aside0.mk ((by rw [hg]; exact (below_size hb_) : w.heap.size ≤ gb168)); clear HB; have HB := n0_; have BK168 := n1_; have GW168 := n2_; have GE168 := n3_; clear n0_ n1_ n2_ n3_; clear hb hbox hg; have hcz6_0 : w5.cell? ⟨gb168, 0, none⟩ = some (.int .i64 0) := bc_ BK168 0; have hcz6_1 : w5.cell? ⟨gb168, 1, none⟩ = some (.int .i64 0) := bc_ BK168 1; have hfz6_0 := blk_frozen BK168.out 0; have hfz6_1 := blk_frozen BK168.out 1))
 refine bodyPost_ret (results_cell_row rfl _ _ gb168 60 #[.int .i64 ji3, .int .i64 ji4] (0, 0) _ rfl (by (with_reducible repeat (first | refine kN ?_ _ | refine kD ?_ | refine kA ?_ _)); refine blk_put (cs := #[.int .i64 ji3, .int .i64 0]) ?_ 1 _ rfl; (with_reducible repeat (first | refine kN ?_ _ | refine kD ?_ | refine kA ?_ _)); refine blk_put (cs := #[.int .i64 0, .int .i64 0]) ?_ 0 _ rfl; (with_reducible repeat (first | refine kN ?_ _ | refine kD ?_ | refine kA ?_ _)); exact BK168.out) Try.underlying60 rfl (by kernel_rfl)) rfl ?_
 exact ⟨by first | rfl | (simp [errW_none, errW_some] <;> rfl) | (simp only [← hji3, ← hji4]; first | rfl | (simp [errW_none, errW_some] <;> rfl)) | (simp [*, errW_none, errW_some] <;> rfl), hs_ GE168.out⟩
def impl_Star_chords.l0 : Nat → List (S60) → Int → Int → Int → Int → Option ((List (S60)))
 | 0, _, _, _, _, _ => none
 | k + 1, x3, x7, x8, x186000, x186001 => if x8 < x7 then (if x186000 = 0 then (none) else ((impl_chord.f x8 (Int.tmod (wrap64 (x8 + x186001)) x186000)).bind fun bt189 => (if x3.length < 8796093022208 then (impl_Star_chords.l0 k (x3 ++ [(⟨bt189.1, bt189.2⟩ : S60)]) x7 (wrap64 (x8 + 1)) x186000 x186001) else (none)))) else ((impl_ordered.f x3).bind fun t194 => (some t194))
def impl_Star_chords.f (k : Nat) (a0_0 : Int) (a0_1 : Int) : Option ((List (S60))) := impl_Star_chords.l0 k (([] : List (S60))) a0_0 0 a0_0 a0_1
theorem impl_Star_chords.mono_l : ∀ k, (∀ y0 y1 y2 y3 y4, LeO (impl_Star_chords.l0 k y0 y1 y2 y3 y4) (impl_Star_chords.l0 (k + 1) y0 y1 y2 y3 y4))
 | 0 => fun _ _ _ _ _ r h => by simp [impl_Star_chords.l0] at h
 | k + 1 => by
  have ih0 := impl_Star_chords.mono_l k
  ·intro y0 y1 y2 y3 y4
   unfold impl_Star_chords.l0
   repeat' first
   | (with_reducible exact ih0 _ _ _ _ _)
   | (with_reducible exact LeO.refl _)
   | (with_reducible exact LeO.none _)
   | (with_reducible refine LeO.ite ?_ ?_)
   | (with_reducible refine LeO.bind ?_ (fun _ => ?_))
   | exact ih0 _ _ _ _ _
   | exact LeO.none _
   | refine LeO.ite ?_ ?_
   | refine LeO.bind ?_ (fun _ => ?_)
theorem impl_Star_chords.mono : ∀ a0 a1 k, LeO (impl_Star_chords.f k a0 a1) (impl_Star_chords.f (k + 1) a0 a1) := by
 intro a0 a1 k
 have ih0 := impl_Star_chords.mono_l k
 unfold impl_Star_chords.f
 repeat' first
   | (with_reducible exact ih0 _ _ _ _ _)
   | (with_reducible exact LeO.refl _)
   | (with_reducible exact LeO.none _)
   | (with_reducible refine LeO.ite ?_ ?_)
   | (with_reducible refine LeO.bind ?_ (fun _ => ?_))
   | exact ih0 _ _ _ _ _
   | exact LeO.none _
   | refine LeO.ite ?_ ?_
   | refine LeO.bind ?_ (fun _ => ?_)
set_option maxHeartbeats 8000000 in
set_option maxRecDepth 100000 in
theorem impl_Star_chords.calls (k : Nat) (a0_0 : Int) (a0_1 : Int) (r : List (S60)) (w : World) (h : impl_Star_chords.f k a0_0 a0_1 = some r) :
  Calls Try.prog 46 #[.agg #[.int .i64 a0_0, .int .i64 a0_1]] w fun e w' => ∃ v0_ : Value, e = .returned (v0_) ∧ Kd.R k60 60 w' w.heap.size (fun _ => True) v0_ r ∧ Below w.heap.size w w' := by
 have hu37 := Try.underlying37
 have HB := Aside0.mk (Below.refl w.heap.size w)
 have H : (impl_Star_chords.l0 k (([] : List (S60))) a0_0 0 a0_0 a0_1) = some r := h
 clear h
 obtain ⟨y186, hy186⟩ : ∃ y_ : List (S60), y_ = (([] : List (S60))) := ⟨_, rfl⟩
 replace H : (impl_Star_chords.l0 k y186 a0_0 0 a0_0 a0_1) = some r := by first | (rw [hy186]; with_reducible exact H) | (have H2_ := (Option.bind_some _ _).symm.trans H; rw [hy186]; with_reducible exact H2_) | (have H2_ := (Option.bind_some _ _).symm.trans H; with_reducible exact H2_) | with_reducible exact H | (rw [hy186]; exact H) | exact H
 have Ny186 := Aside0.mk hy186
 clear hy186
 have H' := Aside0.mk H
 clear H
 go_enter Try.func46, Try.ntmps46
 go_wp2_with (first | ((with_reducible refine gate_dst (N := 1) rfl ?_); refine box_event ?hg (N := 1) ?hd (cs := #[.int .i64 a0_0, .int .i64 a0_1]) (t := 37) ?hr ?_; (case hd => rfl); (case hg => rfl); (case hr => first | (go_simp; done) | (go_simp; rfl)); intro gb185 hg w2 hbox hb; have n0_ := Aside0.mk (below_step hb_ hb); have n1_ := Aside0.mk (hbox); have n2_ := Aside0.mk ((by rw [hg]; exact (below_size hb_) : w.heap.size ≤ gb185)); have n3_ := Aside0.mk ((by rw [hg]; exact (below_size hb_) : w.heap.size ≤ gb185)); clear HB; have HB := n0_; have BK185 := n1_; have GW185 := n2_; have GE185 := n3_; clear n0_ n1_ n2_ n3_; clear hb hbox hg) | ((with_reducible refine gate_dst (N := 5) rfl ?_); refine Kd.R_lit k60 _ 60 ?hg (N := 5) ?hd (xs := ([] : List (S60))) (inner := []) (ok := fun _ => True) (okp := fun _ => True) ?hr ?hp (fun _ hk => hk) trivial (Below.refl _ _) (Nat.le_refl _) (by simp) ?_; (case hd => rfl); (case hg => rfl); (case hr => first | (go_simp; done) | (go_simp; rfl)); (case hp => exact (Reps.none _ _)); intro v187 w3 ho4 hb hg_ hnew_; clear hg_ hnew_; (first | rw [← Ny186.out] at ho4 | (simp only [Int.reduceToNat] at ho4; rw [← Ny186.out] at ho4)); have n0_ := Aside0.mk (Kd.R_lower ho4 (below_size (hs_ GE185.out))); have n1_ := Aside0.mk (blk_below (g := gb185) (o := .cells #[.int .i64 a0_0, .int .i64 a0_1] 37 (0, 0)) (kx_ BK185.out) hb); have n2_ := Aside0.mk (below_step (hs_ GE185.out) hb); clear BK185; clear HB; have HO188 := n0_; have BK185 := n1_; have HB := n2_; clear n0_ n1_ n2_; clear hb ho4; have hcz5_0 : w3.cell? ⟨gb185, 0, none⟩ = some (.int .i64 a0_0) := bc_ BK185 0; have hcz5_1 : w3.cell? ⟨gb185, 1, none⟩ = some (.int .i64 a0_1) := bc_ BK185 1; have hfz5_0 := blk_frozen BK185.out 0; have hfz5_1 := blk_frozen BK185.out 1))
 go_loopg [3, 8] k (fun kq v3 v8 w' => ∃ (x3_1 : List (S60)) (x8_1 : Int), v8 = .int .i64 x8_1 ∧ Aside0 (impl_Star_chords.l0 kq x3_1 a0_0 x8_1 a0_0 a0_1 = some r) ∧ Aside0 (kq ≤ k) ∧ Aside0 (Kd.R k60 60 w' w.heap.size (fun _ => True) v3 x3_1) ∧ Aside0 (w'.heap[gb185]? = some (.cells #[.int .i64 a0_0, .int .i64 a0_1] 37 (0, 0))) ∧ Aside0 (Below w.heap.size w w'))
 case atStart => exact ⟨(y186), (0), (by first | rfl | (simp; done) | (simp [*]; done)), H', ⟨Nat.le_refl _⟩, ⟨by (with_reducible repeat (first | apply rA | apply rN | apply rD)); exact HO188.out⟩, ⟨by (with_reducible repeat (first | refine kN ?_ _ | refine kD ?_ | refine kA ?_ _)); exact BK185.out⟩, ⟨hs_ GE185.out⟩⟩
 case round =>
  clear H'
  try clear p2
  try clear c4
  try clear hcz5_0
  try clear hcz5_1
  try clear hfz5_0
  try clear hfz5_1
  obtain ⟨x3_1, x8_1, rfl, HA, HK1, HO_3, BK185, HB⟩ := hrel
  cases gk with
  | zero => exact absurd HA.out (by simp [impl_Star_chords.l0])
  | succ k1 =>
   have H := HA.out
   clear HA
   simp only [impl_Star_chords.l0] at H
   by_cases c6 : x8_1 < a0_0
   ·rw [if_pos c6] at H
    have c6b0 : decide (x8_1 < a0_0) = true := decide_eq_true c6
    clear c6
    by_cases c7 : a0_0 = 0
    ·rw [if_pos c7] at H
     exact absurd H (by simp)
    ·rw [if_neg c7] at H
     have c7b0 : (a0_0 == 0) = false := beq_eq_false_iff_ne.mpr c7
     have c7b1 : (a0_0 != 0) = true := bne_iff_ne.mpr c7
     replace H := bI H
     obtain ⟨⟨t189, t190⟩, A80, H⟩ := H
     replace H : (if x3_1.length < 8796093022208 then (impl_Star_chords.l0 k1 (x3_1 ++ [(⟨t189, t190⟩ : S60)]) a0_0 (wrap64 (x8_1 + 1)) a0_0 a0_1) else (none)) = some r := H
     have A8 := Aside0.mk A80
     clear A80
     by_cases c9 : x3_1.length < 8796093022208
     ·rw [if_pos c9] at H
      have LMc9 := Aside0.mk c9
      clear c9
      obtain ⟨y191, hy191⟩ : ∃ y_ : List (S60), y_ = (x3_1 ++ [(⟨t189, t190⟩ : S60)]) := ⟨_, rfl⟩
      replace H : (impl_Star_chords.l0 k1 y191 a0_0 (wrap64 (x8_1 + 1)) a0_0 a0_1) = some r := by first | (rw [hy191]; with_reducible exact H) | (have H2_ := (Option.bind_some _ _).symm.trans H; rw [hy191]; with_reducible exact H2_) | (have H2_ := (Option.bind_some _ _).symm.trans H; with_reducible exact H2_) | with_reducible exact H | (rw [hy191]; exact H) | exact H
      have Ny191 := Aside0.mk hy191
      clear hy191
      have H' := Aside0.mk H
      clear H
      have hcz10_0 : wr.cell? ⟨gb185, 0, none⟩ = some (.int .i64 a0_0) := bc_ BK185 0
      have hcz10_1 : wr.cell? ⟨gb185, 1, none⟩ = some (.int .i64 a0_1) := bc_ BK185 1
      have hfz10_0 := blk_frozen BK185.out 0
      have hfz10_1 := blk_frozen BK185.out 1
      go_wp2_with (first | ((with_reducible refine gate_callee (f := 69) rfl ?_); refine goesL_ (some 20) rfl rfl Try.func69 (by kernel_rfl) rfl #[.int .i64 x8_1, .int .i64 (Int.tmod (wrap64 (x8_1 + a0_1)) a0_0)] rfl ar_ ?_; (with_reducible refine (impl_chord.calls x8_1 (Int.tmod (wrap64 (x8_1 + a0_1)) a0_0) t189 t190 _ A8.out).mono ?_); rintro e w11 ⟨rfl, hb⟩; refine ⟨_, rfl, ?_⟩; have n0_ := Aside0.mk (Kd.R_below (ra_ HO_3.out) hb); have n1_ := Aside0.mk (blk_below (g := gb185) (o := .cells #[.int .i64 a0_0, .int .i64 a0_1] 37 (0, 0)) (kx_ BK185.out) hb); have n2_ := Aside0.mk (below_step (hs_ GE185.out) hb); clear HO_3; clear BK185; clear HB; have HO_3 := n0_; have BK185 := n1_; have HB := n2_; clear n0_ n1_ n2_; (try clear hb); (try clear hb2); (try clear hk); (try clear hi)) | ((with_reducible refine gate_builtin (b := .append) (xs := #[.tmp 11, .tmp 21]) rfl ?_); at_builtin; refine Kd.R_append k60 (w0 := w) w.heap.size rfl (.tmp 11) (.tmp 21) 24 60 (.agg #[(.int .i64 0), (.int .i64 0)]) 16 rfl Try.underlying24 info60 rfl (by decide) (by omega) u3 x3_1 (⟨t189, t190⟩ : S60) [.int .i64 t189, .int .i64 t190] (fun _ => True) (fun _ => False) rfl rfl ?aP (fun _ hk => hk.elim) ?aF ?aO ?aB ?aS ?aL ?_; (case aP => exact k60_mkM _ _ _ (⟨t189, t190⟩ : S60)); (case aB => exact (hs_ GE185.out)); (case aF => exact (fun _ _ => trivial)); (case aO => exact (ra_ HO_3.out)); (case aS => exact (below_size (hs_ GE185.out))); (case aL => have := LMc9.out; omega); intro v192 w12 ho hb hg hat; rw [← Ny191.out] at ho; have n0_ := Aside0.mk (blk_grown (g := gb185) (o := .cells #[.int .i64 a0_0, .int .i64 a0_1] 37 (0, 0)) (kx_ BK185.out) hg (Kd.R_ne HO_3.out BK185.out (by decide))); have n1_ := Aside0.mk (hb); have n2_ := Aside0.mk (ho); clear BK185; clear HB; clear HO_3; have BK185 := n0_; have HB := n1_; have HO193 := n2_; clear n0_ n1_ n2_; clear ho hb hg hat))
      go_roundg k1
      case measure => have := HK1.out; omega
      case rel => exact ⟨(y191), (wrap64 (x8_1 + 1)), (by first | rfl | (simp; done) | (simp [*]; done)), H', ⟨by have := HK1.out; omega⟩, ⟨by (with_reducible repeat (first | apply rA | apply rN | apply rD)); exact HO193.out⟩, ⟨by (with_reducible repeat (first | refine kN ?_ _ | refine kD ?_ | refine kA ?_ _)); exact BK185.out⟩, ⟨hs_ GE185.out⟩⟩
     ·rw [if_neg c9] at H
      exact absurd H (by simp)
   ·rw [if_neg c6] at H
    have c6b0 : decide (x8_1 < a0_0) = false := decide_eq_false c6
    clear c6
    replace H := bI H
    obtain ⟨t194, A130, H⟩ := H
    replace H : (some t194) = some r := H
    have A13 := Aside0.mk A130
    clear A130
    obtain rfl := oI H
    obtain ⟨Ao14, co14, eo14⟩ := Kd.R_slice HO_3.out
    subst eo14
    go_wp2_with (first | ((with_reducible refine gate_callee (f := 70) rfl ?_); refine goesL_ (some 25) rfl rfl Try.func70 (by kernel_rfl) rfl #[.slice Ao14 x3_1.length co14] rfl ar_ ?_; (with_reducible refine (impl_ordered.calls (fun k_ => some k_ = (.slice Ao14 x3_1.length co14 : Value).ownBlock) (.slice Ao14 x3_1.length co14) x3_1 t194 w _ ?side1 ?side2 A13.out).mono ?_); (case side1 => repeat (first | (with_reducible first | exact HB.out | apply bA | apply bN | apply bD | refine below_set ?_ GE185.out) | exact HB.out)); (case side2 => exact Kd.R_tight rfl HO_3.out); rintro e w15 ⟨v195, rfl, ho0, hb, hkp⟩; refine ⟨_, rfl, ?_⟩; have n0_ := Aside0.mk (blk_kept (kx_ BK185.out) hkp (fun hs_ => (fun e_ => (Kd.R_ne HO_3.out BK185.out (by decide)) e_) hs_)); have n1_ := Aside0.mk (Kd.R_mono (ok' := fun k_ => True) ho0 (fun k_ hk_ => trivial)); have n2_ := Aside0.mk (hb); clear BK185; clear HB; clear HO_3; have BK185 := n0_; have HO196 := n1_; have HB := n2_; clear n0_ n1_ n2_; (try clear hb); (try clear hkp); (try clear ho0)))
    go_ret
    exact ⟨_, by first | rfl | (simp [errW_none, errW_some] <;> rfl) | (simp [*, errW_none, errW_some] <;> rfl), by (with_reducible repeat (first | apply rA | apply rN | apply rD)); exact HO196.out, hs_ GE185.out⟩
end Go.Proofs.Ytdjbdpgdhpobfaa.Pr
/- The chords of a star: sorted and compacted by the program, put in one by one by the reference; and their crossings. -/
namespace Go.Proofs.Ytdjbdpgdhpobfaa.M
open Go.RowKit Go.Proofs.YtdjbdpgdhpobfaaW.PrintWords Go.Proofs.Ytdjbdpgdhpobfaa.Pr
theorem ltB_iff (x y : Ch) : ltB x y = true ↔ (x.f0 < y.f0 ∨ x.f0 = y.f0 ∧ x.f1 < y.f1) := by simp [ltB]
theorem ltB_not (x y : Ch) : ltB x y = false ↔ ¬ (x.f0 < y.f0 ∨ x.f0 = y.f0 ∧ x.f1 < y.f1) := by rw [← ltB_iff, Bool.not_eq_true]
theorem ordB : Ord ltB where
  irrefl x := by rw [ltB_not]; omega
  trans x y z h1 h2 := by rw [ltB_iff] at *; omega
  tri x y h1 h2 := by
    rw [ltB_not] at h1 h2
    obtain ⟨a, b⟩ := x
    obtain ⟨c, d⟩ := y
    simp only at h1 h2
    rw [show a = c by omega, show b = d by omega]
/-- The chords in order, each once. -/
def setC (xs : List Ch) : List Ch := xs.foldl (put ltB) []
theorem ordC_eq (xs : List Ch) : ordC xs = setC xs := by
  have e : ltOf cmpC = ltB := by
    funext x y
    rw [Bool.eq_iff_iff, ltC_iff, ltB_iff]
  unfold ordC sortC
  rw [e]
  exact sort_compact ordB xs
theorem mem_setC (x : Ch) (xs : List Ch) : x ∈ setC xs ↔ x ∈ xs := by
  unfold setC
  rw [mem_fold]
  simp
theorem setC_length (xs : List Ch) : (setC xs).length ≤ xs.length := by
  have := length_fold ltB xs []
  unfold setC
  simpa using this
theorem srPut_ev (l : List Ch) (c : Ch) (hl : l.length ≤ 1000000) : Ev (fun k => spec_srPut.f k l c.f0 c.f1) (put ltB l c) := by
  unfold spec_srPut.f
  have e := Ev.scan0 (fun k i (_ : Unit) => spec_srPut.l0 k l i c.f0 c.f1) l (fun rest _ => l.take (l.length - rest.length) ++ put ltB rest c) (fun _ _ => True)
    (fun acc _ => by
      refine Ev.step (fun k => by rw [spec_srPut.l0]) ?_
      refine Ev.neg (by omega) ?_
      rw [Int.toNat_natCast]
      refine Ev.bindc rfl (Ev.pos (by omega) (Ev.pos (by omega) (Ev.bindc rfl (Ev.pos (by simp <;> omega) (Ev.bindc rfl (Ev.bindc rfl (Ev.pos (by simp <;> omega) (Ev.bindc rfl (Ev.bindc rfl (Ev.pos (by simp <;> omega) (Ev.val ?_)))))))))))
      simp [put])
    (fun i h acc _ => by
      have hr := rd_ch l i h
      have hdl : (l[i] :: l.drop (i + 1)).length = l.length - i := by simp <;> omega
      have ht : l.length - (l.length - i) = i := by omega
      by_cases hlt : ltB l[i] c = true
      · refine .inl ⟨(), trivial, ?_, fun r hr2 => ?_⟩
        · rw [hdl, ht, put, if_pos hlt, show l.length - (l.drop (i + 1)).length = i + 1 by simp <;> omega, List.take_succ_eq_append_getElem h, List.append_assoc]
          rfl
        · refine Ev.step (fun k => by rw [spec_srPut.l0]) ?_
          refine Ev.pos (by omega) (Ev.pos (by omega) ?_)
          rw [hr]
          refine Ev.bindc (srLess_eq _ _ _ _) (Ev.pos hlt ?_)
          rw [w64 (x := (i : Int) + 1) (by omega) (by omega)]
          exact hr2
      · refine .inr ?_
        refine Ev.step (fun k => by rw [spec_srPut.l0]) ?_
        refine Ev.pos (by omega) (Ev.pos (by omega) ?_)
        rw [hr]
        refine Ev.bindc (srLess_eq _ _ _ _) (Ev.neg hlt ?_)
        rw [hdl, ht, put, if_neg hlt]
        by_cases he : l[i] = c
        · refine Ev.pos (by rw [he]; simp) (Ev.val ?_)
          rw [if_pos he, ← List.drop_eq_getElem_cons h, List.take_append_drop]
        · refine Ev.neg (fun hh => he ?_) ?_
          · simp only [Bool.and_eq_true, beq_iff_eq] at hh
            generalize l[i] = y at hh ⊢
            obtain ⟨a, b⟩ := y
            obtain ⟨c, d⟩ := c
            rw [show a = c from hh.1, show b = d from hh.2]
          · rw [if_neg he, Int.toNat_natCast]
            refine Ev.bindc rfl (Ev.pos (by omega) (Ev.bindc rfl (Ev.pos (by simp <;> omega) (Ev.bindc rfl (Ev.bindc rfl (Ev.pos (by simp <;> omega) (Ev.bindc rfl (Ev.bindc rfl (Ev.pos (by simp <;> omega) (Ev.val ?_))))))))))
            simp only [List.nil_append, List.append_assoc, List.cons_append]
            rw [← List.drop_eq_getElem_cons h])
    () trivial
  simpa using e
/-- The chord from a point of a star. -/
def chV (n s p : Int) : Ch := ⟨mn p (Int.tmod (p + s) n), mx p (Int.tmod (p + s) n)⟩
/-- The chords from the points p, p + 1, .., n - 1. -/
def chsFrom (n s : Int) : Nat → Int → List Ch
  | 0, _ => []
  | d + 1, p => chV n s p :: chsFrom n s d (p + 1)
theorem chsFrom_length (n s : Int) : ∀ d p, (chsFrom n s d p).length = d
  | 0, _ => rfl
  | d + 1, p => by rw [chsFrom, List.length_cons, chsFrom_length]
theorem mem_chsFrom (n s : Int) (c : Ch) : ∀ d p, c ∈ chsFrom n s d p → ∃ q : Int, p ≤ q ∧ q < p + d ∧ c = chV n s q
  | 0, _, h => by simp [chsFrom] at h
  | d + 1, p, h => by
    rw [chsFrom, List.mem_cons] at h
    rcases h with rfl | h
    · exact ⟨p, by omega, by omega, rfl⟩
    · obtain ⟨q, h1, h2, h3⟩ := mem_chsFrom n s c d (p + 1) h
      exact ⟨q, by omega, by omega, h3⟩
theorem srChord_eq (a b : Int) : spec_srChord.f a b = some (mn a b, mx a b) := by
  unfold spec_srChord.f spec_l1Least.f spec_l1Most.f mn mx
  by_cases h1 : a < b
  · rw [if_pos h1, if_neg (show ¬ a > b by omega), if_neg (show ¬ b < a by omega), if_pos h1]; rfl
  · by_cases h2 : a > b
    · rw [if_neg h1, if_pos h2, if_pos (show b < a by omega), if_neg h1]; rfl
    · rw [if_neg h1, if_neg h2, if_neg (show ¬ b < a by omega), if_neg h1]
      have : a = b := by omega
      subst this
      rfl
theorem srChords_ev (n s : Int) (hn : 1 ≤ n ∧ n ≤ 1000) (hs : 0 ≤ s ∧ s ≤ 1000) : Ev (fun k => spec_srChords.f k n s) (setC (chsFrom n s n.toNat 0)) := by
  unfold spec_srChords.f setC
  have e := Ev.upto (fun k i (acc : List Ch) => spec_srChords.l0 k acc i n s) n (fun i acc => (chsFrom n s (n - i).toNat i).foldl (put ltB) acc) (fun i acc => 0 ≤ i ∧ i ≤ n ∧ (acc.length : Int) ≤ i)
    (fun i acc hi hp => by
      have hz : (n - i).toNat = 0 := by omega
      refine Ev.step (fun k => by rw [spec_srChords.l0]) ?_
      refine Ev.neg (by omega) (Ev.val ?_)
      rw [hz]
      rfl)
    (fun i acc hi hp => by
      have hz : (n - i).toNat = (n - (i + 1)).toNat + 1 := by omega
      have hl := length_put ltB (chV n s i) acc
      refine .inl ⟨put ltB acc (chV n s i), ⟨by omega, by omega, by omega⟩, by rw [hz, chsFrom, List.foldl_cons], fun r hr2 => ?_⟩
      refine Ev.step (fun k => by rw [spec_srChords.l0]) ?_
      refine Ev.pos hi (Ev.neg (by omega) ?_)
      rw [w64 (x := i + s) (by omega) (by omega), w64 (x := i + 1) (by omega) (by omega)]
      exact Ev.bindc (srChord_eq _ _) (Ev.bindk (srPut_ev acc (chV n s i) (by omega)) hr2))
    n.toNat 0 [] (by omega) ⟨by omega, by omega, by simp⟩
  rw [show n - 0 = n by omega] at e
  exact e
theorem chords_ev (n s : Int) (hn : 1 ≤ n ∧ n ≤ 1000) (hs : 0 ≤ s ∧ s ≤ 1000) : Ev (fun k => impl_Star_chords.f k n s) (setC (chsFrom n s n.toNat 0)) := by
  unfold impl_Star_chords.f
  have e := Ev.upto (fun k i (acc : List Ch) => impl_Star_chords.l0 k acc n i n s) n (fun i acc => setC (acc ++ chsFrom n s (n - i).toNat i)) (fun i acc => 0 ≤ i ∧ i ≤ n ∧ (acc.length : Int) = i)
    (fun i acc hi hp => by
      have hz : (n - i).toNat = 0 := by omega
      refine Ev.step (fun k => by rw [impl_Star_chords.l0]) ?_
      refine Ev.neg (by omega) (Ev.bindc (a := setC acc) ?_ (Ev.val ?_))
      · unfold impl_ordered.f
        rw [if_pos (by omega), ordC_eq]
      · rw [hz]
        simp [chsFrom])
    (fun i acc hi hp => by
      have hz : (n - i).toNat = (n - (i + 1)).toNat + 1 := by omega
      refine .inl ⟨acc ++ [chV n s i], ⟨by omega, by omega, by simp <;> omega⟩, by rw [hz, chsFrom]; simp, fun r hr2 => ?_⟩
      refine Ev.step (fun k => by rw [impl_Star_chords.l0]) ?_
      refine Ev.pos hi (Ev.neg (by omega) ?_)
      rw [w64 (x := i + s) (by omega) (by omega), w64 (x := i + 1) (by omega) (by omega)]
      exact Ev.bindc rfl (Ev.pos (by omega) hr2))
    n.toNat 0 [] (by omega) ⟨by omega, by omega, by simp⟩
  rw [show n - 0 = n by omega] at e
  exact e
/-- A star's chords are chords of its points. -/
theorem chords_ok (n s : Int) (hn : 1 ≤ n ∧ n ≤ 1000) (hs : 1 ≤ s ∧ s < n) : ∀ c ∈ setC (chsFrom n s n.toNat 0), 0 ≤ c.f0 ∧ c.f0 < c.f1 ∧ c.f1 < n := by
  intro c hc
  obtain ⟨q, h1, h2, rfl⟩ := mem_chsFrom n s c _ _ ((mem_setC _ _).1 hc)
  have ht : Int.tmod (q + s) n = (q + s) % n := Int.tmod_eq_emod_of_nonneg (by omega)
  have hb : 0 ≤ (q + s) % n := Int.emod_nonneg _ (by omega)
  have hb2 : (q + s) % n < n := Int.emod_lt_of_pos _ (by omega)
  have hne : (q + s) % n ≠ q := by
    intro e
    by_cases h : q + s < n
    · rw [Int.emod_eq_of_lt (by omega) h] at e; omega
    · have : (q + s) % n = q + s - n := by
        rw [← Int.sub_emod_right, Int.emod_eq_of_lt (by omega) (by omega)]
      omega
  unfold chV mn mx
  rw [ht]
  generalize (q + s) % n = t at hb hb2 hne ⊢
  simp only
  split <;> split <;> omega
theorem srCount_ev (l : List Ch) (hl : l.length ≤ 1000) (hv : ∀ c ∈ l, c.f0 < c.f1) : Ev (fun k => spec_srCount.f k l) (pairsN l : Int) := by
  unfold spec_srCount.f
  have inner : ∀ (i : Nat) (hi : i < l.length) (r : Int) (acc : Int), 0 ≤ acc ∧ acc ≤ i * 1000 → Ev (fun k => spec_srCount.l0 k l (acc + (cnt l[i] (l.drop (i + 1)) : Int)) l (l.length : Int) ((i : Int) + 1)) r →
      Ev (fun k => spec_srCount.l1 k l acc l (l.length : Int) (i : Int) (l.drop (i + 1)) ((l.drop (i + 1)).length : Int) 0 l[i].f0 l[i].f1) r := by
    intro i hi r acc hacc hr
    have hdl : (l.drop (i + 1)).length = l.length - (i + 1) := List.length_drop
    have e := Ev.cps (fun k j (a : Int) => spec_srCount.l1 k l a l (l.length : Int) (i : Int) (l.drop (i + 1)) ((l.drop (i + 1)).length : Int) j l[i].f0 l[i].f1)
      (fun k a => spec_srCount.l0 k l a l (l.length : Int) ((i : Int) + 1)) (l.drop (i + 1))
      (fun rest a => a + (cnt l[i] rest : Int)) (fun j a => 0 ≤ a ∧ a ≤ i * 1000 + j)
      (fun a r _ hr => by
        refine Ev.step (fun k => by rw [spec_srCount.l1]) ?_
        refine Ev.neg (by omega) ?_
        rw [w64 (x := (i : Int) + 1) (by omega) (by omega)]
        simpa [cnt] using hr)
      (fun j hj a hp => by
        obtain ⟨hp1, hp2⟩ := hp
        have hrd := rd_ch (l.drop (i + 1)) j hj
        have hcv := hv l[i] (List.getElem_mem hi)
        have hdv := hv (l.drop (i + 1))[j] (List.mem_of_mem_drop (List.getElem_mem hj))
        by_cases hc : crB l[i] (l.drop (i + 1))[j] = true
        · refine ⟨a + 1, ⟨by omega, by omega⟩, by rw [cnt_pos _ hc]; omega, fun r hr2 => ?_⟩
          refine Ev.step (fun k => by rw [spec_srCount.l1]) ?_
          refine Ev.pos (by omega) (Ev.pos (by omega) (Ev.pos (by omega) ?_))
          rw [hrd]
          refine Ev.bindc (srCross_eq _ _ hcv hdv) (Ev.pos hc ?_)
          rw [w64 (x := (j : Int) + 1) (by omega) (by omega), w64 (x := a + 1) (by omega) (by omega)]
          exact hr2
        · refine ⟨a, ⟨by omega, by omega⟩, by rw [cnt_neg _ hc], fun r hr2 => ?_⟩
          refine Ev.step (fun k => by rw [spec_srCount.l1]) ?_
          refine Ev.pos (by omega) (Ev.pos (by omega) (Ev.pos (by omega) ?_))
          rw [hrd]
          refine Ev.bindc (srCross_eq _ _ hcv hdv) (Ev.neg hc ?_)
          rw [w64 (x := (j : Int) + 1) (by omega) (by omega)]
          exact hr2)
      (l.drop (i + 1)).length 0 acc r (by omega) ⟨by omega, by omega⟩ (by simpa using hr)
    simpa using e
  have e := Ev.scan0 (fun k i (acc : Int) => spec_srCount.l0 k l acc l (l.length : Int) i) l (fun rest acc => acc + (pairsN rest : Int)) (fun i acc => 0 ≤ acc ∧ acc ≤ i * 1000)
    (fun acc hp => by
      refine Ev.step (fun k => by rw [spec_srCount.l0]) ?_
      exact Ev.neg (by omega) (Ev.val (by simp [pairsN])))
    (fun i h acc hp => by
      have hr := rd_ch l i h
      have hcl := cnt_le l[i] (l.drop (i + 1))
      have hdl : (l.drop (i + 1)).length = l.length - (i + 1) := List.length_drop
      refine .inl ⟨acc + (cnt l[i] (l.drop (i + 1)) : Int), ⟨by omega, by omega⟩, by rw [pairsN]; omega, fun r hr2 => ?_⟩
      refine Ev.step (fun k => by rw [spec_srCount.l0]) ?_
      rw [w64 (x := (i : Int) + 1) (by omega) (by omega), show ((i : Int) + 1).toNat = i + 1 by omega]
      refine Ev.pos (by omega) (Ev.pos (by omega) (Ev.pos (by omega) (Ev.pos (by omega) (Ev.pos (by omega) ?_))))
      rw [hr]
      exact inner i h r acc hp hr2)
    0 ⟨by omega, by omega⟩
  simpa using e
end Go.Proofs.Ytdjbdpgdhpobfaa.M
namespace Go.Proofs.Ytdjbdpgdhpobfaa.Pr
open Go.RowKit Go.Proofs.YtdjbdpgdhpobfaaW.PrintWords Go.Proofs.YtdjbdpgdhpobfaaW.PrintLast Go.Proofs.YtdjbdpgdhpobfaaW.PrintMore
attribute [local go_sem] max2_int min2_int max_two min_two max_three min_three max_four min_four
def impl_IsStar.f (a0_0 : Int) (a0_1 : Int) : Option (Bool) := (impl_isCircle.f a0_0).bind fun t166 => (if t166 = true then ((impl_within.f a0_1 1 (wrap64 (a0_0 - 1))).bind fun t167 => (some t167)) else (some false))
set_option maxHeartbeats 8000000 in
set_option maxRecDepth 100000 in
theorem impl_IsStar.calls (a0_0 : Int) (a0_1 : Int) (r : Bool) (w : World) (h : impl_IsStar.f a0_0 a0_1 = some r) :
  Calls Try.prog 45 #[.agg #[.int .i64 a0_0, .int .i64 a0_1]] w fun e w' => e = .returned (.bool r) ∧ Below w.heap.size w w' := by
 have hu37 := Try.underlying37
 have HB := Aside0.mk (Below.refl w.heap.size w)
 have H : ((impl_isCircle.f a0_0).bind fun t166 => (if t166 = true then ((impl_within.f a0_1 1 (wrap64 (a0_0 - 1))).bind fun t167 => (some t167)) else (some false))) = some r := h
 clear h
 replace H := bI H
 obtain ⟨t166, A20, H⟩ := H
 replace H : (if t166 = true then ((impl_within.f a0_1 1 (wrap64 (a0_0 - 1))).bind fun t167 => (some t167)) else (some false)) = some r := H
 have A2 := Aside0.mk A20
 clear A20
 by_cases c3 : t166 = true
 ·subst c3
  have H1 : ((impl_within.f a0_1 1 (wrap64 (a0_0 - 1))).bind fun t167 => (some t167)) = some r := by rw [if_pos rfl] at H; exact H
  clear H
  have H := H1
  clear H1
  replace H := bI H
  obtain ⟨t167, A40, H⟩ := H
  replace H : (some t167) = some r := H
  have A4 := Aside0.mk A40
  clear A40
  obtain rfl := oI H
  go_enter Try.func45, Try.ntmps45
  go_wp2_with (first | ((with_reducible refine gate_dst (N := 1) rfl ?_); refine box_event ?hg (N := 1) ?hd (cs := #[.int .i64 a0_0, .int .i64 a0_1]) (t := 37) ?hr ?_; (case hd => rfl); (case hg => rfl); (case hr => first | (go_simp; done) | (go_simp; rfl)); intro gb165 hg w5 hbox hb; have n0_ := Aside0.mk (below_step hb_ hb); have n1_ := Aside0.mk (hbox); have n2_ := Aside0.mk ((by rw [hg]; exact (below_size hb_) : w.heap.size ≤ gb165)); have n3_ := Aside0.mk ((by rw [hg]; exact (below_size hb_) : w.heap.size ≤ gb165)); clear HB; have HB := n0_; have BK165 := n1_; have GW165 := n2_; have GE165 := n3_; clear n0_ n1_ n2_ n3_; clear hb hbox hg; have hcz6_0 : w5.cell? ⟨gb165, 0, none⟩ = some (.int .i64 a0_0) := bc_ BK165 0; have hcz6_1 : w5.cell? ⟨gb165, 1, none⟩ = some (.int .i64 a0_1) := bc_ BK165 1; have hfz6_0 := blk_frozen BK165.out 0; have hfz6_1 := blk_frozen BK165.out 1) | ((with_reducible refine gate_callee (f := 63) rfl ?_); refine goesL_ (some 5) rfl rfl Try.func63 (by kernel_rfl) rfl #[.int .i64 a0_0] rfl ar_ ?_; (with_reducible refine (impl_isCircle.calls a0_0 true _ A2.out).mono ?_); rintro e w' ⟨rfl, ⟨nd, rfl⟩⟩; refine ⟨_, rfl, ?_⟩) | (go_at_call 40; (with_reducible refine (impl_within.calls a0_1 1 (wrap64 (a0_0 - 1)) t167 _ A4.out).mono ?_); rintro e w' ⟨rfl, ⟨nd, rfl⟩⟩))
  go_ret
  exact ⟨by first | rfl | (simp [errW_none, errW_some] <;> rfl) | (simp [*, errW_none, errW_some] <;> rfl), hs_ GE165.out⟩
 ·replace c3 := Bool.eq_false_iff.mpr c3
  subst c3
  have H1 : (some false) = some r := by rw [if_neg (show ¬ (false = true) by decide)] at H; exact H
  clear H
  have H := H1
  clear H1
  obtain rfl := oI H
  go_enter Try.func45, Try.ntmps45
  go_wp2_with (first | ((with_reducible refine gate_dst (N := 1) rfl ?_); refine box_event ?hg (N := 1) ?hd (cs := #[.int .i64 a0_0, .int .i64 a0_1]) (t := 37) ?hr ?_; (case hd => rfl); (case hg => rfl); (case hr => first | (go_simp; done) | (go_simp; rfl)); intro gb165 hg w7 hbox hb; have n0_ := Aside0.mk (below_step hb_ hb); have n1_ := Aside0.mk (hbox); have n2_ := Aside0.mk ((by rw [hg]; exact (below_size hb_) : w.heap.size ≤ gb165)); have n3_ := Aside0.mk ((by rw [hg]; exact (below_size hb_) : w.heap.size ≤ gb165)); clear HB; have HB := n0_; have BK165 := n1_; have GW165 := n2_; have GE165 := n3_; clear n0_ n1_ n2_ n3_; clear hb hbox hg; have hcz8_0 : w7.cell? ⟨gb165, 0, none⟩ = some (.int .i64 a0_0) := bc_ BK165 0; have hcz8_1 : w7.cell? ⟨gb165, 1, none⟩ = some (.int .i64 a0_1) := bc_ BK165 1; have hfz8_0 := blk_frozen BK165.out 0; have hfz8_1 := blk_frozen BK165.out 1) | ((with_reducible refine gate_callee (f := 63) rfl ?_); refine goesL_ (some 5) rfl rfl Try.func63 (by kernel_rfl) rfl #[.int .i64 a0_0] rfl ar_ ?_; (with_reducible refine (impl_isCircle.calls a0_0 false _ A2.out).mono ?_); rintro e w' ⟨rfl, ⟨nd, rfl⟩⟩; refine ⟨_, rfl, ?_⟩))
  go_ret
  exact ⟨by first | rfl | (simp [errW_none, errW_some] <;> rfl) | (simp [*, errW_none, errW_some] <;> rfl), hs_ GE165.out⟩
def spec_srGood.f (a0_0 : Int) (a0_1 : Int) : Option (Bool) := (spec_srPoints.f a0_0).bind fun t261 => (if t261 = true then ((spec_l1In.f a0_1 1 (wrap64 (a0_0 - 1))).bind fun t262 => (some t262)) else (some false))
set_option maxHeartbeats 8000000 in
set_option maxRecDepth 100000 in
theorem spec_srGood.calls (a0_0 : Int) (a0_1 : Int) (r : Bool) (w : World) (h : spec_srGood.f a0_0 a0_1 = some r) :
  Calls Try.prog 47 #[.agg #[.int .i64 a0_0, .int .i64 a0_1]] w fun e w' => e = .returned (.bool r) ∧ Below w.heap.size w w' := by
 have hu37 := Try.underlying37
 have HB := Aside0.mk (Below.refl w.heap.size w)
 have H : ((spec_srPoints.f a0_0).bind fun t261 => (if t261 = true then ((spec_l1In.f a0_1 1 (wrap64 (a0_0 - 1))).bind fun t262 => (some t262)) else (some false))) = some r := h
 clear h
 replace H := bI H
 obtain ⟨t261, A20, H⟩ := H
 replace H : (if t261 = true then ((spec_l1In.f a0_1 1 (wrap64 (a0_0 - 1))).bind fun t262 => (some t262)) else (some false)) = some r := H
 have A2 := Aside0.mk A20
 clear A20
 by_cases c3 : t261 = true
 ·subst c3
  have H1 : ((spec_l1In.f a0_1 1 (wrap64 (a0_0 - 1))).bind fun t262 => (some t262)) = some r := by rw [if_pos rfl] at H; exact H
  clear H
  have H := H1
  clear H1
  replace H := bI H
  obtain ⟨t262, A40, H⟩ := H
  replace H : (some t262) = some r := H
  have A4 := Aside0.mk A40
  clear A40
  obtain rfl := oI H
  go_enter Try.func47, Try.ntmps47
  go_wp2_with (first | ((with_reducible refine gate_dst (N := 1) rfl ?_); refine box_event ?hg (N := 1) ?hd (cs := #[.int .i64 a0_0, .int .i64 a0_1]) (t := 37) ?hr ?_; (case hd => rfl); (case hg => rfl); (case hr => first | (go_simp; done) | (go_simp; rfl)); intro gb260 hg w5 hbox hb; have n0_ := Aside0.mk (below_step hb_ hb); have n1_ := Aside0.mk (hbox); have n2_ := Aside0.mk ((by rw [hg]; exact (below_size hb_) : w.heap.size ≤ gb260)); have n3_ := Aside0.mk ((by rw [hg]; exact (below_size hb_) : w.heap.size ≤ gb260)); clear HB; have HB := n0_; have BK260 := n1_; have GW260 := n2_; have GE260 := n3_; clear n0_ n1_ n2_ n3_; clear hb hbox hg; have hcz6_0 : w5.cell? ⟨gb260, 0, none⟩ = some (.int .i64 a0_0) := bc_ BK260 0; have hcz6_1 : w5.cell? ⟨gb260, 1, none⟩ = some (.int .i64 a0_1) := bc_ BK260 1; have hfz6_0 := blk_frozen BK260.out 0; have hfz6_1 := blk_frozen BK260.out 1) | ((with_reducible refine gate_callee (f := 60) rfl ?_); refine goesL_ (some 5) rfl rfl Try.func60 (by kernel_rfl) rfl #[.int .i64 a0_0] rfl ar_ ?_; (with_reducible refine (spec_srPoints.calls a0_0 true _ A2.out).mono ?_); rintro e w' ⟨rfl, ⟨nd, rfl⟩⟩; refine ⟨_, rfl, ?_⟩) | (go_at_call 34; (with_reducible refine (spec_l1In.calls a0_1 1 (wrap64 (a0_0 - 1)) t262 _ A4.out).mono ?_); rintro e w' ⟨rfl, ⟨nd, rfl⟩⟩))
  go_ret
  exact ⟨by first | rfl | (simp [errW_none, errW_some] <;> rfl) | (simp [*, errW_none, errW_some] <;> rfl), hs_ GE260.out⟩
 ·replace c3 := Bool.eq_false_iff.mpr c3
  subst c3
  have H1 : (some false) = some r := by rw [if_neg (show ¬ (false = true) by decide)] at H; exact H
  clear H
  have H := H1
  clear H1
  obtain rfl := oI H
  go_enter Try.func47, Try.ntmps47
  go_wp2_with (first | ((with_reducible refine gate_dst (N := 1) rfl ?_); refine box_event ?hg (N := 1) ?hd (cs := #[.int .i64 a0_0, .int .i64 a0_1]) (t := 37) ?hr ?_; (case hd => rfl); (case hg => rfl); (case hr => first | (go_simp; done) | (go_simp; rfl)); intro gb260 hg w7 hbox hb; have n0_ := Aside0.mk (below_step hb_ hb); have n1_ := Aside0.mk (hbox); have n2_ := Aside0.mk ((by rw [hg]; exact (below_size hb_) : w.heap.size ≤ gb260)); have n3_ := Aside0.mk ((by rw [hg]; exact (below_size hb_) : w.heap.size ≤ gb260)); clear HB; have HB := n0_; have BK260 := n1_; have GW260 := n2_; have GE260 := n3_; clear n0_ n1_ n2_ n3_; clear hb hbox hg; have hcz8_0 : w7.cell? ⟨gb260, 0, none⟩ = some (.int .i64 a0_0) := bc_ BK260 0; have hcz8_1 : w7.cell? ⟨gb260, 1, none⟩ = some (.int .i64 a0_1) := bc_ BK260 1; have hfz8_0 := blk_frozen BK260.out 0; have hfz8_1 := blk_frozen BK260.out 1) | ((with_reducible refine gate_callee (f := 60) rfl ?_); refine goesL_ (some 5) rfl rfl Try.func60 (by kernel_rfl) rfl #[.int .i64 a0_0] rfl ar_ ?_; (with_reducible refine (spec_srPoints.calls a0_0 false _ A2.out).mono ?_); rintro e w' ⟨rfl, ⟨nd, rfl⟩⟩; refine ⟨_, rfl, ?_⟩))
  go_ret
  exact ⟨by first | rfl | (simp [errW_none, errW_some] <;> rfl) | (simp [*, errW_none, errW_some] <;> rfl), hs_ GE260.out⟩
end Go.Proofs.Ytdjbdpgdhpobfaa.Pr
/- Which stars there are. -/
namespace Go.Proofs.Ytdjbdpgdhpobfaa.M
open Go.RowKit Go.Proofs.YtdjbdpgdhpobfaaW.PrintWords Go.Proofs.Ytdjbdpgdhpobfaa.Pr
theorem isStar_eq (n s : Int) : impl_IsStar.f n s = some (okStar n s) := by
  unfold impl_IsStar.f impl_isCircle.f okStar
  simp only [within_eq, Option.bind_some]
  by_cases h : 3 ≤ n ∧ n ≤ 60
  · rw [if_pos (by simpa [inB] using h), w64 (by omega) (by omega), decide_eq_true h]; rfl
  · rw [if_neg (by simpa [inB] using h), decide_eq_false h]; rfl
theorem srGood_eq (n s : Int) : spec_srGood.f n s = some (okStar n s) := by
  unfold spec_srGood.f spec_srPoints.f okStar
  simp only [l1In_eq, Option.bind_some]
  by_cases h : 3 ≤ n ∧ n ≤ 60
  · rw [if_pos (by simpa [inB] using h), w64 (by omega) (by omega), decide_eq_true h]; rfl
  · rw [if_neg (by simpa [inB] using h), decide_eq_false h]; rfl
end Go.Proofs.Ytdjbdpgdhpobfaa.M
/- What is asked of a predicate that is handed to the library, and the place of the first element for which it holds. -/
namespace Go.Proofs.Ytdjbdpgdhpobfaa.Pr
open Go.RowKit Go.Proofs.YtdjbdpgdhpobfaaW.PrintWords Go.Proofs.YtdjbdpgdhpobfaaW.PrintLast Go.Proofs.YtdjbdpgdhpobfaaW.PrintMore
/-- A function value that tells p of the elements of a list, in any world in which what was there is as it was. -/
def PredB {α : Type} (g : Nat) (lb : Array Value) (enc : α → Value) (p : α → Bool) (zs : List α) (w : World) : Prop :=
  ∀ (W : World) (x : α), x ∈ zs → Below w.heap.size w W → Calls Try.prog g (#[enc x] ++ lb) W fun e w' => e = .returned (.bool (p x)) ∧ Below W.heap.size W w'
/-- The place of the first element for which p holds, or -1. -/
def idxP {α : Type} (p : α → Bool) : List α → Int
  | [] => -1
  | x :: r => if p x = true then 0 else if idxP p r < 0 then -1 else idxP p r + 1
theorem idxP_ge {α : Type} (p : α → Bool) : ∀ l : List α, -1 ≤ idxP p l
  | [] => by simp [idxP]
  | x :: r => by
    have := idxP_ge p r
    unfold idxP
    split
    · omega
    · split <;> omega
theorem idxP_nonneg {α : Type} (p : α → Bool) : ∀ l : List α, decide (idxP p l ≥ 0) = l.any p
  | [] => by simp [idxP]
  | x :: r => by
    have ih := idxP_nonneg p r
    unfold idxP
    rw [List.any_cons, ← ih]
    cases hx : p x with
    | true => simp
    | false =>
      simp only [Bool.false_eq_true, if_false, Bool.false_or]
      split
      · rename_i h; simp; omega
      · rename_i h; simp; omega
theorem idxP_none {α : Type} (p : α → Bool) : ∀ l : List α, (∀ x ∈ l, p x = false) → idxP p l = -1
  | [], _ => rfl
  | x :: r, h => by
    unfold idxP
    rw [if_neg (by rw [h x (List.mem_cons_self ..)]; simp), idxP_none p r (fun y hy => h y (List.mem_cons_of_mem _ hy))]
    simp
theorem idxP_at {α : Type} (p : α → Bool) : ∀ (l : List α) (i : Nat) (h : i < l.length), p l[i] = true → (∀ j (hj : j < i), p (l[j]'(by omega)) = false) → idxP p l = i
  | [], i, h, _, _ => by simp at h
  | x :: r, 0, h, hp, _ => by
    unfold idxP
    rw [if_pos (by simpa using hp)]
    rfl
  | x :: r, i + 1, h, hp, hn => by
    have h0 := hn 0 (by omega)
    have ih := idxP_at p r i (by simpa using h) (by simpa using hp) (fun j hj => by simpa using hn (j + 1) (by omega))
    unfold idxP
    rw [if_neg (by simp at h0; rw [h0]; simp), ih, if_neg (by omega)]
    omega
end Go.Proofs.Ytdjbdpgdhpobfaa.Pr
/- What slices.IndexFunc and slices.ContainsFunc compute on numbers, for any predicate that leaves old memory as it was. -/
namespace Go.Proofs.Ytdjbdpgdhpobfaa.Pr
open Go.RowKit Go.Proofs.YtdjbdpgdhpobfaaW.PrintWords Go.Proofs.YtdjbdpgdhpobfaaW.PrintLast Go.Proofs.YtdjbdpgdhpobfaaW.PrintMore
def encI (x : Int) : Value := .int .i64 x
theorem rdI (l : List Int) (i : Nat) (h : i < l.length) : rd l (i : Int) = l[i] := by
  unfold rd
  simp [List.getD_eq_getElem?_getD, List.getElem?_eq_getElem h]
set_option maxHeartbeats 2000000 in
set_option maxRecDepth 100000 in
theorem indexFunc_number (A : Option Addr) (c : Nat) (zs : List Int) (p : Int → Bool) (g : Nat) (lb : Array Value) (eg : ∀ args w, (callFunc g args).run Try.prog w = .ok (.enter g args) w) (w : World)
    (hr : Kd.C (Kd.int .i64) w A zs.length zs) (hc : zs.length ≤ c) (hp : PredB g lb encI p zs w) :
    Calls Try.prog 71 #[.slice A zs.length c, .func (.func g) #[] lb] w fun e w' => e = .returned (.int .i64 (idxP p zs)) ∧ Below w.heap.size w w' := by
  have hbig : zs.length ≤ 9223372036854775807 := hr.2.1
  have HR := Aside0.mk hr
  have HP := Aside0.mk hp
  clear hr hp hc
  go_enter Try.func71, Try.ntmps71
  go_wp2
  go_loopg [5, 8] zs.length (fun gg _ s8 wr => ∃ i : Nat, s8 = .int .i64 i ∧ Aside0 (i ≤ zs.length) ∧ Aside0 (zs.length - i ≤ gg) ∧ Aside0 (Below w.heap.size w wr) ∧ Aside0 (∀ j (hj : j < zs.length), j < i → p zs[j] = false))
  case atStart => exact ⟨0, rfl, ⟨Nat.zero_le _⟩, ⟨by omega⟩, ⟨Below.refl _ w⟩, ⟨fun j _ hj => absurd hj (Nat.not_lt_zero _)⟩⟩
  case round =>
    obtain ⟨i, rfl, HI, HG, HB, HA⟩ := hrel
    by_cases hlt : i < zs.length
    · have c4b0 : decide ((i : Int) < (zs.length : Int)) = true := decide_eq_true (by omega)
      have c5b0 : decide (i < zs.length) = true := decide_eq_true hlt
      obtain ⟨ad, e, h0⟩ := Kd.at_int HR.out (i : Int) (by omega) (by omega)
      cases e
      rw [rdI zs i hlt, Int.toNat_natCast] at h0
      replace h0 := (HB.out.cell (World.block_lt_of_cell? w _ h0)).trans h0
      have hcall := HP.out wr zs[i] (List.getElem_mem hlt) HB.out
      have hn := HA.out
      obtain ⟨y, hy⟩ : ∃ y, zs[i] = y := ⟨_, rfl⟩
      have HY := Aside0.mk hy
      rw [hy] at h0 hcall
      have HN := Aside0.mk hn
      clear hn hy
      cases hq : p y with
      | true =>
        rw [hq] at hcall
        have HQ := Aside0.mk hq
        clear hq
        go_wp2_with (go_at_fn g; refine hcall.mono ?_; rintro e w' ⟨rfl, hb1⟩)
        have hb' := HB.out.trans (hb1.mono HB.out.size)
        go_ret
        exact ⟨congrArg (fun z => Ending.returned (Value.int .i64 z)) (idxP_at p zs i hlt (by rw [HY.out]; exact HQ.out) (fun j hj => HN.out j (by omega) hj)).symm, hb'⟩
      | false =>
        rw [hq] at hcall
        have HQ := Aside0.mk hq
        clear hq
        go_wp2_with (go_at_fn g; refine hcall.mono ?_; rintro e w' ⟨rfl, hb1⟩)
        have hb' := HB.out.trans (hb1.mono HB.out.size)
        go_roundg (zs.length - (i + 1))
        case measure => have := HG.out; omega
        case rel =>
          refine ⟨i + 1, by go_num, ⟨by omega⟩, ⟨by omega⟩, ⟨hb'⟩, ⟨fun j hj hji => ?_⟩⟩
          by_cases e : j = i
          · subst e
            rw [HY.out]; exact HQ.out
          · exact HN.out j hj (by omega)
    · have c4b0 : decide ((i : Int) < (zs.length : Int)) = false := decide_eq_false (by omega)
      have c5b0 : decide (i < zs.length) = false := decide_eq_false hlt
      have hall := Aside0.mk (idxP_none p zs (fun x hx => by
        obtain ⟨j, hj, rfl⟩ := List.getElem_of_mem hx
        exact HA.out j hj (by omega)))
      have HB2 := HB
      clear HA HP HR
      go_wp2
      go_ret
      exact ⟨congrArg (fun z => Ending.returned (Value.int .i64 z)) hall.out.symm, HB2.out⟩
set_option maxHeartbeats 2000000 in
theorem containsFunc_number (A : Option Addr) (c : Nat) (zs : List Int) (p : Int → Bool) (g : Nat) (lb : Array Value) (eg : ∀ args w, (callFunc g args).run Try.prog w = .ok (.enter g args) w) (w : World)
    (hr : Kd.C (Kd.int .i64) w A zs.length zs) (hc : zs.length ≤ c) (hp : PredB g lb encI p zs w) :
    Calls Try.prog 58 #[.slice A zs.length c, .func (.func g) #[] lb] w fun e w' => e = .returned (.bool (zs.any p)) ∧ Below w.heap.size w w' := by
  rw [← idxP_nonneg p zs]
  have hcon := indexFunc_number A c zs p g lb eg w hr hc hp
  clear hr hp
  generalize idxP p zs = r at hcon ⊢
  go_enter Try.func58, Try.ntmps58
  go_wp2_with (go_at_call 71; refine hcon.mono ?_; rintro e w' ⟨rfl, hb'⟩)
  go_ret
  exact ⟨by simp, hb'⟩
end Go.Proofs.Ytdjbdpgdhpobfaa.Pr
/- What the program's isArc computes: a valid set, and no arc out of range. -/
namespace Go.Proofs.Ytdjbdpgdhpobfaa.Pr
open Go.RowKit Go.Proofs.YtdjbdpgdhpobfaaW.PrintWords Go.Proofs.YtdjbdpgdhpobfaaW.PrintLast Go.Proofs.YtdjbdpgdhpobfaaW.PrintMore
def outR (n hi : Int) : Bool := !(decide (0 ≤ n ∧ n ≤ hi))
theorem within_outR (n hi : Int) : impl_within.f n 0 hi = some (!(outR n hi)) := by
  unfold impl_within.f outR
  by_cases h : n ≥ 0
  · rw [if_pos h]; congr 1; rw [Bool.eq_iff_iff]; simp; omega
  · rw [if_neg h]; congr 1; rw [Bool.eq_iff_iff]; simp; omega
def impl_isArc.f (k : Nat) (a0 : Int) (l1 : List S60) (l2 : List Int) : Option Bool :=
  (impl_isSet.f k a0 l1).bind fun t => some (t && !(l2.any fun n => outR n (wrap64 (a0 - 1))))
theorem impl_isArc.mono : ∀ a0 a1 a2 k, LeO (impl_isArc.f k a0 a1 a2) (impl_isArc.f (k + 1) a0 a1 a2) := by
  intro a0 a1 a2 k
  unfold impl_isArc.f
  exact LeO.bind (impl_isSet.mono _ _ _) (fun _ => LeO.refl _)
theorem isArc_pred (a0 : Int) (B : Nat) (zs : List Int) (w : World) (hB : B < w.heap.size) (hcell : w.cell? ⟨B, 0, none⟩ = some (.int .i64 a0)) :
    PredB 59 #[.pointer (some ⟨B, 0, none⟩)] encI (fun n => outR n (wrap64 (a0 - 1))) zs w := fun W x _ hb => by
  have hc : W.cell? ⟨B, 0, none⟩ = some (.int .i64 a0) := (hb.cell (p := ⟨B, 0, none⟩) hB).trans hcell
  have hw := within_outR x (wrap64 (a0 - 1))
  show Calls Try.prog 59 #[.int .i64 x, .pointer (some ⟨B, 0, none⟩)] W fun e w' => e = .returned (.bool (outR x (wrap64 (a0 - 1)))) ∧ Below W.heap.size W w'
  generalize outR x (wrap64 (a0 - 1)) = r at hw ⊢
  have HW := Aside0.mk hw
  clear hw
  go_enter Try.func59, Try.ntmps59
  go_wp2_with (go_at_call 40; refine (impl_within.calls x 0 (wrap64 (a0 - 1)) (!r) _ HW.out).mono ?_; rintro e w' ⟨rfl, ⟨nd, rfl⟩⟩)
  go_ret
  exact ⟨by simp, by repeat (first | exact Below.refl _ _ | apply bA | apply bN | apply bD)⟩
set_option maxHeartbeats 2000000 in
theorem impl_isArc.calls (k : Nat) (a0 : Int) (A1 : Option Addr) (c1 : Nat) (l1 : List S60) (A2 : Option Addr) (c2 : Nat) (l2 : List Int) (r : Bool) (w : World) (hr1 : Kd.C k60 w A1 l1.length l1) (hc1 : l1.length ≤ c1) (hr2 : Kd.C (Kd.int .i64) w A2 l2.length l2) (hc2 : l2.length ≤ c2) (h : impl_isArc.f k a0 l1 l2 = some r) :
    Calls Try.prog 31 #[.int .i64 a0, .slice A1 l1.length c1, .slice A2 l2.length c2] w fun e w' => e = .returned (.bool r) ∧ Below w.heap.size w w' := by
  obtain ⟨t, ht, h⟩ := bI h
  obtain rfl := oI h
  have hb0 : Below w.heap.size w (w.alloc (.cells #[.int .i64 a0] 3)) := below_alloc (Below.refl _ _) _
  have hcall := Aside0.mk (impl_isSet.calls k a0 A1 c1 l1 t (w.alloc (.cells #[.int .i64 a0] 3)) (Kd.C_below hr1 hb0) hc1 ht)
  have eg : ∀ args w, (callFunc 59 args).run Try.prog w = .ok (.enter 59 args) w := enters_of Try.func59 (by kernel_rfl) rfl
  have hC := Aside0.mk (fun (W : World) (hb : Below (w.alloc (.cells #[.int .i64 a0] 3)).heap.size (w.alloc (.cells #[.int .i64 a0] 3)) W) =>
    containsFunc_number A2 c2 l2 (fun n => outR n (wrap64 (a0 - 1))) 59 #[.pointer (some ⟨w.heap.size, 0, none⟩)] eg W (Kd.C_below (Kd.C_below hr2 hb0) hb) hc2
      (isArc_pred a0 w.heap.size l2 W (Nat.lt_of_lt_of_le (by simp) hb.size) ((hb.cell (p := ⟨w.heap.size, 0, none⟩) (by simp)).trans (by simp))))
  generalize (l2.any fun n => outR n (wrap64 (a0 - 1))) = b at hC ⊢
  have HB0 := Aside0.mk hb0
  clear hb0 hr1 hr2 ht h eg
  cases t with
  | false =>
    go_enter Try.func31, Try.ntmps31
    go_wp2_with (go_at_call 36; refine hcall.out.mono ?_; rintro e w' ⟨rfl, hb⟩)
    go_ret
    exact ⟨by simp, HB0.out.trans (hb.mono (by simp))⟩
  | true =>
    go_enter Try.func31, Try.ntmps31
    go_wp2_with (first | (go_at_call 36; refine hcall.out.mono ?_; rintro e w' ⟨rfl, hb⟩) | (go_at_call 58; refine (hC.out _ (by assumption)).mono ?_; rintro e w' ⟨rfl, hb2⟩))
    go_ret
    exact ⟨by simp, HB0.out.trans ((hb.trans (hb2.mono hb.size)).mono (by simp))⟩
end Go.Proofs.Ytdjbdpgdhpobfaa.Pr
namespace Go.Proofs.Ytdjbdpgdhpobfaa.Pr
open Go.RowKit Go.Proofs.YtdjbdpgdhpobfaaW.PrintWords Go.Proofs.YtdjbdpgdhpobfaaW.PrintLast Go.Proofs.YtdjbdpgdhpobfaaW.PrintMore
attribute [local go_sem] max2_int min2_int max_two min_two max_three min_three max_four min_four
def impl_ArcsParted.f (k : Nat) (a0 : Int) (l1 : List (S60)) (a2 : Int) (a3 : Int) : Option (Int × Bool) := (impl_isArc.f k a0 l1 (([a2, a3] : List Int))).bind fun t129 => (if t129 = true then ((impl_parted.f k l1 a2 a3).bind fun t130 => (some (t130, true))) else (some (0, false)))
theorem impl_ArcsParted.mono : ∀ a0 a1 a2 a3 k, LeO (impl_ArcsParted.f k a0 a1 a2 a3) (impl_ArcsParted.f (k + 1) a0 a1 a2 a3) := by
 intro a0 a1 a2 a3 k
 unfold impl_ArcsParted.f
 repeat' first
   | (with_reducible exact impl_isArc.mono _ _ _ _)
   | (with_reducible exact impl_parted.mono _ _ _ _)
   | (with_reducible exact LeO.refl _)
   | (with_reducible exact LeO.none _)
   | (with_reducible refine LeO.ite ?_ ?_)
   | (with_reducible refine LeO.bind ?_ (fun _ => ?_))
   | exact impl_isArc.mono _ _ _ _
   | exact impl_parted.mono _ _ _ _
   | exact LeO.none _
   | refine LeO.ite ?_ ?_
   | refine LeO.bind ?_ (fun _ => ?_)
set_option maxHeartbeats 8000000 in
set_option maxRecDepth 100000 in
theorem impl_ArcsParted.calls (k : Nat) (a0 : Int) (A1 : Option Addr) (c1 : Nat) (l1 : List (S60)) (a2 : Int) (a3 : Int) (r1 : Int) (r2 : Bool) (w : World) (hr1 : Kd.C k60 w A1 l1.length l1) (hc1 : l1.length ≤ c1) (h : impl_ArcsParted.f k a0 l1 a2 a3 = some (r1, r2)) :
  Calls Try.prog 6 #[.int .i64 a0, .slice A1 l1.length c1, .int .i64 a2, .int .i64 a3] w fun e w' => e = .returned (.tuple #[.int .i64 r1, .bool r2]) ∧ Below w.heap.size w w' := by
 have HR1 := Aside0.mk hr1
 have HC1 := Aside0.mk hc1
 clear hr1 hc1
 have HB := Aside0.mk (Below.refl w.heap.size w)
 have H : ((impl_isArc.f k a0 l1 (([a2, a3] : List Int))).bind fun t129 => (if t129 = true then ((impl_parted.f k l1 a2 a3).bind fun t130 => (some (t130, true))) else (some (0, false)))) = some (r1, r2) := h
 clear h
 obtain ⟨y126, hy126⟩ : ∃ y_ : List Int, y_ = (([a2, a3] : List Int)) := ⟨_, rfl⟩
 replace H : ((impl_isArc.f k a0 l1 y126).bind fun t129 => (if t129 = true then ((impl_parted.f k l1 a2 a3).bind fun t130 => (some (t130, true))) else (some (0, false)))) = some (r1, r2) := by first | (rw [hy126]; with_reducible exact H) | (have H2_ := (Option.bind_some _ _).symm.trans H; rw [hy126]; with_reducible exact H2_) | (have H2_ := (Option.bind_some _ _).symm.trans H; with_reducible exact H2_) | with_reducible exact H | (rw [hy126]; exact H) | exact H
 have Ny126 := Aside0.mk hy126
 clear hy126
 replace H := bI H
 obtain ⟨t129, A50, H⟩ := H
 replace H : (if t129 = true then ((impl_parted.f k l1 a2 a3).bind fun t130 => (some (t130, true))) else (some (0, false))) = some (r1, r2) := H
 have A5 := Aside0.mk A50
 clear A50
 by_cases c6 : t129 = true
 ·subst c6
  have H1 : ((impl_parted.f k l1 a2 a3).bind fun t130 => (some (t130, true))) = some (r1, r2) := by rw [if_pos rfl] at H; exact H
  clear H
  have H := H1
  clear H1
  replace H := bI H
  obtain ⟨t130, A70, H⟩ := H
  replace H : (some (t130, true)) = some (r1, r2) := H
  have A7 := Aside0.mk A70
  clear A70
  simp only [Option.some.injEq, Prod.mk.injEq] at H
  obtain ⟨rfl, rfl⟩ := H
  go_enter Try.func6, Try.ntmps6
  go_wp2_with (first | ((with_reducible refine gate_dst (N := 14) rfl ?_); refine Kd.R_lit (Kd.int .i64) _ 3 ?hg (N := 14) ?hd (xs := ([a2, a3] : List Int)) (inner := [.int .i64 a2, .int .i64 a3]) (ok := fun _ => True) (okp := fun _ => True) ?hr ?hp (fun _ hk => hk) trivial (Below.refl _ _) (Nat.le_refl _) (by simp) ?_; (case hd => rfl); (case hg => rfl); (case hr => first | (go_simp; done) | (go_simp; rfl)); (case hp => exact (Reps.one (show Kd.M (Kd.int .i64) _ _ _ a2 [.int .i64 a2] from rfl) (Reps.one (show Kd.M (Kd.int .i64) _ _ _ a3 [.int .i64 a3] from rfl) (Reps.none _ _)))); intro v127 w8 ho9 hb hg_ hnew_; clear hg_ hnew_; (first | rw [← Ny126.out] at ho9 | (simp only [Int.reduceToNat] at ho9; rw [← Ny126.out] at ho9)); have n0_ := Aside0.mk (Kd.R_lower ho9 (below_size hb_)); have n1_ := Aside0.mk (below_step hb_ hb); clear HB; have HO128 := n0_; have HB := n1_; clear n0_ n1_; clear hb ho9; obtain ⟨Ao10, co10, eo10⟩ := Kd.R_slice HO128.out; subst eo10) | ((with_reducible refine gate_callee (f := 31) rfl ?_); refine goesL_ (some 15) rfl rfl Try.func31 (by kernel_rfl) rfl #[.int .i64 a0, .slice A1 l1.length c1, .slice Ao10 y126.length co10] rfl ar_ ?_; (with_reducible refine (impl_isArc.calls k a0 _ _ l1 _ _ y126 true _ ?side1 ?side2 ?side3 ?side4 A5.out).mono ?_); (case side1 => repeat (first | exact (Kd.C_below HR1.out HB.out) | (with_reducible refine Kd.C_alloc ?_ _) | (with_reducible refine Kd.C_drewN ?_ _) | (with_reducible refine Kd.C_drew ?_))); (case side2 => exact HC1.out); (case side3 => repeat (first | exact (Kd.R_reads' HO128.out).2.2 | (with_reducible refine Kd.C_alloc ?_ _) | (with_reducible refine Kd.C_drewN ?_ _) | (with_reducible refine Kd.C_drew ?_))); (case side4 => exact (Kd.R_reads' HO128.out).2.1); rintro e w11 ⟨rfl, hb⟩; refine ⟨_, rfl, ?_⟩; have n0_ := Aside0.mk (Kd.R_below (ra_ HO128.out) hb); have n1_ := Aside0.mk (below_step hb_ hb); clear HO128; clear HB; have HO128 := n0_; have HB := n1_; clear n0_ n1_; (try clear hb); (try clear hb2); (try clear hk); (try clear hi)) | ((with_reducible refine gate_callee (f := 32) rfl ?_); refine goesL_ (some 20) rfl rfl Try.func32 (by kernel_rfl) rfl #[.slice A1 l1.length c1, .int .i64 a2, .int .i64 a3] rfl ar_ ?_; (with_reducible refine (impl_parted.calls k _ _ l1 a2 a3 t130 _ ?side1 ?side2 A7.out).mono ?_); (case side1 => repeat (first | exact (Kd.C_below HR1.out HB.out) | (with_reducible refine Kd.C_alloc ?_ _) | (with_reducible refine Kd.C_drewN ?_ _) | (with_reducible refine Kd.C_drew ?_))); (case side2 => exact HC1.out); rintro e w12 ⟨rfl, hb⟩; refine ⟨_, rfl, ?_⟩; have n0_ := Aside0.mk (Kd.R_below (ra_ HO128.out) hb); have n1_ := Aside0.mk (below_step hb_ hb); clear HO128; clear HB; have HO128 := n0_; have HB := n1_; clear n0_ n1_; (try clear hb); (try clear hb2); (try clear hk); (try clear hi)))
  go_ret2
  exact ⟨by first | rfl | (simp [errW_none, errW_some] <;> rfl) | (simp [*, errW_none, errW_some] <;> rfl), hb_⟩
 ·replace c6 := Bool.eq_false_iff.mpr c6
  subst c6
  have H1 : (some (0, false)) = some (r1, r2) := by rw [if_neg (show ¬ (false = true) by decide)] at H; exact H
  clear H
  have H := H1
  clear H1
  simp only [Option.some.injEq, Prod.mk.injEq] at H
  obtain ⟨rfl, rfl⟩ := H
  go_enter Try.func6, Try.ntmps6
  go_wp2_with (first | ((with_reducible refine gate_dst (N := 14) rfl ?_); refine Kd.R_lit (Kd.int .i64) _ 3 ?hg (N := 14) ?hd (xs := ([a2, a3] : List Int)) (inner := [.int .i64 a2, .int .i64 a3]) (ok := fun _ => True) (okp := fun _ => True) ?hr ?hp (fun _ hk => hk) trivial (Below.refl _ _) (Nat.le_refl _) (by simp) ?_; (case hd => rfl); (case hg => rfl); (case hr => first | (go_simp; done) | (go_simp; rfl)); (case hp => exact (Reps.one (show Kd.M (Kd.int .i64) _ _ _ a2 [.int .i64 a2] from rfl) (Reps.one (show Kd.M (Kd.int .i64) _ _ _ a3 [.int .i64 a3] from rfl) (Reps.none _ _)))); intro v127 w13 ho14 hb hg_ hnew_; clear hg_ hnew_; (first | rw [← Ny126.out] at ho14 | (simp only [Int.reduceToNat] at ho14; rw [← Ny126.out] at ho14)); have n0_ := Aside0.mk (Kd.R_lower ho14 (below_size hb_)); have n1_ := Aside0.mk (below_step hb_ hb); clear HB; have HO128 := n0_; have HB := n1_; clear n0_ n1_; clear hb ho14; obtain ⟨Ao15, co15, eo15⟩ := Kd.R_slice HO128.out; subst eo15) | ((with_reducible refine gate_callee (f := 31) rfl ?_); refine goesL_ (some 15) rfl rfl Try.func31 (by kernel_rfl) rfl #[.int .i64 a0, .slice A1 l1.length c1, .slice Ao15 y126.length co15] rfl ar_ ?_; (with_reducible refine (impl_isArc.calls k a0 _ _ l1 _ _ y126 false _ ?side1 ?side2 ?side3 ?side4 A5.out).mono ?_); (case side1 => repeat (first | exact (Kd.C_below HR1.out HB.out) | (with_reducible refine Kd.C_alloc ?_ _) | (with_reducible refine Kd.C_drewN ?_ _) | (with_reducible refine Kd.C_drew ?_))); (case side2 => exact HC1.out); (case side3 => repeat (first | exact (Kd.R_reads' HO128.out).2.2 | (with_reducible refine Kd.C_alloc ?_ _) | (with_reducible refine Kd.C_drewN ?_ _) | (with_reducible refine Kd.C_drew ?_))); (case side4 => exact (Kd.R_reads' HO128.out).2.1); rintro e w16 ⟨rfl, hb⟩; refine ⟨_, rfl, ?_⟩; have n0_ := Aside0.mk (Kd.R_below (ra_ HO128.out) hb); have n1_ := Aside0.mk (below_step hb_ hb); clear HO128; clear HB; have HO128 := n0_; have HB := n1_; clear n0_ n1_; (try clear hb); (try clear hb2); (try clear hk); (try clear hi)))
  go_ret2
  exact ⟨by first | rfl | (simp [errW_none, errW_some] <;> rfl) | (simp [*, errW_none, errW_some] <;> rfl), hb_⟩
def spec_ArcsParted.f (k : Nat) (a0 : Int) (l1 : List (S60)) (a2 : Int) (a3 : Int) : Option (Int × Bool) := (spec_cdGood.f k a0 l1).bind fun t231 => (if t231 = true then ((spec_l1In.f a2 0 (wrap64 (a0 - 1))).bind fun t232 => (if t232 = true then ((spec_l1In.f a3 0 (wrap64 (a0 - 1))).bind fun t233 => (if t233 = true then ((spec_reParted.f k l1 a2 a3).bind fun t234 => (some (t234, true))) else (some (0, false)))) else (some (0, false)))) else (some (0, false)))
theorem spec_ArcsParted.mono : ∀ a0 a1 a2 a3 k, LeO (spec_ArcsParted.f k a0 a1 a2 a3) (spec_ArcsParted.f (k + 1) a0 a1 a2 a3) := by
 intro a0 a1 a2 a3 k
 unfold spec_ArcsParted.f
 repeat' first
   | (with_reducible exact spec_cdGood.mono _ _ _)
   | (with_reducible exact spec_reParted.mono _ _ _ _)
   | (with_reducible exact LeO.refl _)
   | (with_reducible exact LeO.none _)
   | (with_reducible refine LeO.ite ?_ ?_)
   | (with_reducible refine LeO.bind ?_ (fun _ => ?_))
   | exact spec_cdGood.mono _ _ _
   | exact spec_reParted.mono _ _ _ _
   | exact LeO.none _
   | refine LeO.ite ?_ ?_
   | refine LeO.bind ?_ (fun _ => ?_)
set_option maxHeartbeats 8000000 in
set_option maxRecDepth 100000 in
theorem spec_ArcsParted.calls (k : Nat) (a0 : Int) (A1 : Option Addr) (c1 : Nat) (l1 : List (S60)) (a2 : Int) (a3 : Int) (r1 : Int) (r2 : Bool) (w : World) (hr1 : Kd.C k60 w A1 l1.length l1) (hc1 : l1.length ≤ c1) (h : spec_ArcsParted.f k a0 l1 a2 a3 = some (r1, r2)) :
  Calls Try.prog 7 #[.int .i64 a0, .slice A1 l1.length c1, .int .i64 a2, .int .i64 a3] w fun e w' => e = .returned (.tuple #[.int .i64 r1, .bool r2]) ∧ Below w.heap.size w w' := by
 have HR1 := Aside0.mk hr1
 have HC1 := Aside0.mk hc1
 clear hr1 hc1
 have HB := Aside0.mk (Below.refl w.heap.size w)
 have H : ((spec_cdGood.f k a0 l1).bind fun t231 => (if t231 = true then ((spec_l1In.f a2 0 (wrap64 (a0 - 1))).bind fun t232 => (if t232 = true then ((spec_l1In.f a3 0 (wrap64 (a0 - 1))).bind fun t233 => (if t233 = true then ((spec_reParted.f k l1 a2 a3).bind fun t234 => (some (t234, true))) else (some (0, false)))) else (some (0, false)))) else (some (0, false)))) = some (r1, r2) := h
 clear h
 replace H := bI H
 obtain ⟨t231, A50, H⟩ := H
 replace H : (if t231 = true then ((spec_l1In.f a2 0 (wrap64 (a0 - 1))).bind fun t232 => (if t232 = true then ((spec_l1In.f a3 0 (wrap64 (a0 - 1))).bind fun t233 => (if t233 = true then ((spec_reParted.f k l1 a2 a3).bind fun t234 => (some (t234, true))) else (some (0, false)))) else (some (0, false)))) else (some (0, false))) = some (r1, r2) := H
 have A5 := Aside0.mk A50
 clear A50
 by_cases c6 : t231 = true
 ·subst c6
  have H1 : ((spec_l1In.f a2 0 (wrap64 (a0 - 1))).bind fun t232 => (if t232 = true then ((spec_l1In.f a3 0 (wrap64 (a0 - 1))).bind fun t233 => (if t233 = true then ((spec_reParted.f k l1 a2 a3).bind fun t234 => (some (t234, true))) else (some (0, false)))) else (some (0, false)))) = some (r1, r2) := by rw [if_pos rfl] at H; exact H
  clear H
  have H := H1
  clear H1
  replace H := bI H
  obtain ⟨t232, A70, H⟩ := H
  replace H : (if t232 = true then ((spec_l1In.f a3 0 (wrap64 (a0 - 1))).bind fun t233 => (if t233 = true then ((spec_reParted.f k l1 a2 a3).bind fun t234 => (some (t234, true))) else (some (0, false)))) else (some (0, false))) = some (r1, r2) := H
  have A7 := Aside0.mk A70
  clear A70
  by_cases c8 : t232 = true
  ·subst c8
   have H1 : ((spec_l1In.f a3 0 (wrap64 (a0 - 1))).bind fun t233 => (if t233 = true then ((spec_reParted.f k l1 a2 a3).bind fun t234 => (some (t234, true))) else (some (0, false)))) = some (r1, r2) := by rw [if_pos rfl] at H; exact H
   clear H
   have H := H1
   clear H1
   replace H := bI H
   obtain ⟨t233, A90, H⟩ := H
   replace H : (if t233 = true then ((spec_reParted.f k l1 a2 a3).bind fun t234 => (some (t234, true))) else (some (0, false))) = some (r1, r2) := H
   have A9 := Aside0.mk A90
   clear A90
   by_cases c10 : t233 = true
   ·subst c10
    have H1 : ((spec_reParted.f k l1 a2 a3).bind fun t234 => (some (t234, true))) = some (r1, r2) := by rw [if_pos rfl] at H; exact H
    clear H
    have H := H1
    clear H1
    replace H := bI H
    obtain ⟨t234, A110, H⟩ := H
    replace H : (some (t234, true)) = some (r1, r2) := H
    have A11 := Aside0.mk A110
    clear A110
    simp only [Option.some.injEq, Prod.mk.injEq] at H
    obtain ⟨rfl, rfl⟩ := H
    go_enter Try.func7, Try.ntmps7
    go_wp2_with (first | ((with_reducible refine gate_callee (f := 33) rfl ?_); refine goesL_ (some 12) rfl rfl Try.func33 (by kernel_rfl) rfl #[.int .i64 a0, .slice A1 l1.length c1] rfl ar_ ?_; (with_reducible refine (spec_cdGood.calls k a0 _ _ l1 true _ ?side1 ?side2 A5.out).mono ?_); (case side1 => repeat (first | exact HR1.out | (with_reducible refine Kd.C_alloc ?_ _) | (with_reducible refine Kd.C_drewN ?_ _) | (with_reducible refine Kd.C_drew ?_))); (case side2 => exact HC1.out); rintro e w12 ⟨rfl, hb⟩; refine ⟨_, rfl, ?_⟩; have n0_ := Aside0.mk (below_step hb_ hb); clear HB; have HB := n0_; clear n0_; (try clear hb); (try clear hb2); (try clear hk); (try clear hi)) | (go_at_call 34; (with_reducible refine (spec_l1In.calls a2 0 (wrap64 (a0 - 1)) true _ A7.out).mono ?_); rintro e w' ⟨rfl, ⟨nd, rfl⟩⟩) | (go_at_call 34; (with_reducible refine (spec_l1In.calls a3 0 (wrap64 (a0 - 1)) true _ A9.out).mono ?_); rintro e w' ⟨rfl, ⟨nd, rfl⟩⟩) | ((with_reducible refine gate_callee (f := 35) rfl ?_); refine goesL_ (some 31) rfl rfl Try.func35 (by kernel_rfl) rfl #[.slice A1 l1.length c1, .int .i64 a2, .int .i64 a3] rfl ar_ ?_; (with_reducible refine (spec_reParted.calls k _ _ l1 a2 a3 t234 _ ?side1 ?side2 A11.out).mono ?_); (case side1 => repeat (first | exact (Kd.C_below HR1.out hb_) | (with_reducible refine Kd.C_alloc ?_ _) | (with_reducible refine Kd.C_drewN ?_ _) | (with_reducible refine Kd.C_drew ?_))); (case side2 => exact HC1.out); rintro e w13 ⟨rfl, hb⟩; refine ⟨_, rfl, ?_⟩; have n0_ := Aside0.mk (below_step hb_ hb); clear HB; have HB := n0_; clear n0_; (try clear hb); (try clear hb2); (try clear hk); (try clear hi)))
    go_ret2
    exact ⟨by first | rfl | (simp [errW_none, errW_some] <;> rfl) | (simp [*, errW_none, errW_some] <;> rfl), hb_⟩
   ·replace c10 := Bool.eq_false_iff.mpr c10
    subst c10
    have H1 : (some (0, false)) = some (r1, r2) := by rw [if_neg (show ¬ (false = true) by decide)] at H; exact H
    clear H
    have H := H1
    clear H1
    simp only [Option.some.injEq, Prod.mk.injEq] at H
    obtain ⟨rfl, rfl⟩ := H
    go_enter Try.func7, Try.ntmps7
    go_wp2_with (first | ((with_reducible refine gate_callee (f := 33) rfl ?_); refine goesL_ (some 12) rfl rfl Try.func33 (by kernel_rfl) rfl #[.int .i64 a0, .slice A1 l1.length c1] rfl ar_ ?_; (with_reducible refine (spec_cdGood.calls k a0 _ _ l1 true _ ?side1 ?side2 A5.out).mono ?_); (case side1 => repeat (first | exact HR1.out | (with_reducible refine Kd.C_alloc ?_ _) | (with_reducible refine Kd.C_drewN ?_ _) | (with_reducible refine Kd.C_drew ?_))); (case side2 => exact HC1.out); rintro e w14 ⟨rfl, hb⟩; refine ⟨_, rfl, ?_⟩; have n0_ := Aside0.mk (below_step hb_ hb); clear HB; have HB := n0_; clear n0_; (try clear hb); (try clear hb2); (try clear hk); (try clear hi)) | (go_at_call 34; (with_reducible refine (spec_l1In.calls a2 0 (wrap64 (a0 - 1)) true _ A7.out).mono ?_); rintro e w' ⟨rfl, ⟨nd, rfl⟩⟩) | (go_at_call 34; (with_reducible refine (spec_l1In.calls a3 0 (wrap64 (a0 - 1)) false _ A9.out).mono ?_); rintro e w' ⟨rfl, ⟨nd, rfl⟩⟩))
    go_ret2
    exact ⟨by first | rfl | (simp [errW_none, errW_some] <;> rfl) | (simp [*, errW_none, errW_some] <;> rfl), hb_⟩
  ·replace c8 := Bool.eq_false_iff.mpr c8
   subst c8
   have H1 : (some (0, false)) = some (r1, r2) := by rw [if_neg (show ¬ (false = true) by decide)] at H; exact H
   clear H
   have H := H1
   clear H1
   simp only [Option.some.injEq, Prod.mk.injEq] at H
   obtain ⟨rfl, rfl⟩ := H
   go_enter Try.func7, Try.ntmps7
   go_wp2_with (first | ((with_reducible refine gate_callee (f := 33) rfl ?_); refine goesL_ (some 12) rfl rfl Try.func33 (by kernel_rfl) rfl #[.int .i64 a0, .slice A1 l1.length c1] rfl ar_ ?_; (with_reducible refine (spec_cdGood.calls k a0 _ _ l1 true _ ?side1 ?side2 A5.out).mono ?_); (case side1 => repeat (first | exact HR1.out | (with_reducible refine Kd.C_alloc ?_ _) | (with_reducible refine Kd.C_drewN ?_ _) | (with_reducible refine Kd.C_drew ?_))); (case side2 => exact HC1.out); rintro e w15 ⟨rfl, hb⟩; refine ⟨_, rfl, ?_⟩; have n0_ := Aside0.mk (below_step hb_ hb); clear HB; have HB := n0_; clear n0_; (try clear hb); (try clear hb2); (try clear hk); (try clear hi)) | (go_at_call 34; (with_reducible refine (spec_l1In.calls a2 0 (wrap64 (a0 - 1)) false _ A7.out).mono ?_); rintro e w' ⟨rfl, ⟨nd, rfl⟩⟩))
   go_ret2
   exact ⟨by first | rfl | (simp [errW_none, errW_some] <;> rfl) | (simp [*, errW_none, errW_some] <;> rfl), hb_⟩
 ·replace c6 := Bool.eq_false_iff.mpr c6
  subst c6
  have H1 : (some (0, false)) = some (r1, r2) := by rw [if_neg (show ¬ (false = true) by decide)] at H; exact H
  clear H
  have H := H1
  clear H1
  simp only [Option.some.injEq, Prod.mk.injEq] at H
  obtain ⟨rfl, rfl⟩ := H
  go_enter Try.func7, Try.ntmps7
  go_wp2_with (first | ((with_reducible refine gate_callee (f := 33) rfl ?_); refine goesL_ (some 12) rfl rfl Try.func33 (by kernel_rfl) rfl #[.int .i64 a0, .slice A1 l1.length c1] rfl ar_ ?_; (with_reducible refine (spec_cdGood.calls k a0 _ _ l1 false _ ?side1 ?side2 A5.out).mono ?_); (case side1 => repeat (first | exact HR1.out | (with_reducible refine Kd.C_alloc ?_ _) | (with_reducible refine Kd.C_drewN ?_ _) | (with_reducible refine Kd.C_drew ?_))); (case side2 => exact HC1.out); rintro e w16 ⟨rfl, hb⟩; refine ⟨_, rfl, ?_⟩; have n0_ := Aside0.mk (below_step hb_ hb); clear HB; have HB := n0_; clear n0_; (try clear hb); (try clear hb2); (try clear hk); (try clear hi)))
  go_ret2
  exact ⟨by first | rfl | (simp [errW_none, errW_some] <;> rfl) | (simp [*, errW_none, errW_some] <;> rfl), hb_⟩
end Go.Proofs.Ytdjbdpgdhpobfaa.Pr
