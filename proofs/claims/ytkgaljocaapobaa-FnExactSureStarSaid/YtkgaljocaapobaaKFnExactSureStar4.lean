/- The program's SureStar returns what the reference's returns, for all arguments. (Part 5 of 6.) -/
import Derived.Deep.Slices
import Derived.Deep.Fields
import Derived.ChangeSame
import Derived.ChangeShapes
import Derived.Below
import Derived.Carry
import Derived.Lib.SmallJoins
import Derived.RowKit
import Derived.OpenShut
import Derived.Test.YtkgaljocaapobaaKFnExactSureStar0
import Derived.Test.YtkgaljocaapobaaKFnExactSureStar1
import Derived.Test.YtkgaljocaapobaaKFnExactSureStar2
import Derived.Test.YtkgaljocaapobaaKFnExactSureStar3
set_option linter.unusedVariables false
set_option linter.unusedSimpArgs false
namespace Go.Proofs.Ytkgaljocaapobaa.Pr
open Go.RowKit Go.Proofs.YtkgaljocaapobaaW.PrintWords Go.Proofs.YtkgaljocaapobaaW.PrintLast Go.Proofs.YtkgaljocaapobaaW.PrintMore
attribute [local go_sem] max2_int min2_int max_two min_two max_three min_three max_four min_four
def impl_Star_chords.l0 : Nat → List (S88) → Int → Int → Int → Int → Option ((List (S88)))
 | 0, _, _, _, _, _ => none
 | k + 1, x3, x7, x8, x157000, x157001 => if x8 < x7 then (if x157000 = 0 then (none) else ((impl_chord.f x8 (Int.tmod (wrap64 (x8 + x157001)) x157000)).bind fun bt160 => (if x3.length < 8796093022208 then (impl_Star_chords.l0 k (x3 ++ [(⟨bt160.1, bt160.2⟩ : S88)]) x7 (wrap64 (x8 + 1)) x157000 x157001) else (none)))) else ((impl_ordered.f x3).bind fun t165 => (some t165))
def impl_Star_chords.f (k : Nat) (a0_0 : Int) (a0_1 : Int) : Option ((List (S88))) := impl_Star_chords.l0 k (([] : List (S88))) a0_0 0 a0_0 a0_1
theorem impl_Star_chords.mono_l : ∀ k, (∀ y0 y1 y2 y3 y4, LeO (impl_Star_chords.l0 k y0 y1 y2 y3 y4) (impl_Star_chords.l0 (k + 1) y0 y1 y2 y3 y4))
 | 0 => fun _ _ _ _ _ r h => by simp [impl_Star_chords.l0] at h
 | k + 1 => by
  have ih0 := impl_Star_chords.mono_l k
  ·intro y0 y1 y2 y3 y4
   unfold impl_Star_chords.l0
   repeat' first
   | (with_reducible exact ih0 _ _ _ _ _)
   | (with_reducible exact LeO.refl _)
   | (with_reducible exact LeO.none _)
   | (with_reducible refine LeO.ite ?_ ?_)
   | (with_reducible refine LeO.bind ?_ (fun _ => ?_))
   | exact ih0 _ _ _ _ _
   | exact LeO.none _
   | refine LeO.ite ?_ ?_
   | refine LeO.bind ?_ (fun _ => ?_)
theorem impl_Star_chords.mono : ∀ a0 a1 k, LeO (impl_Star_chords.f k a0 a1) (impl_Star_chords.f (k + 1) a0 a1) := by
 intro a0 a1 k
 have ih0 := impl_Star_chords.mono_l k
 unfold impl_Star_chords.f
 repeat' first
   | (with_reducible exact ih0 _ _ _ _ _)
   | (with_reducible exact LeO.refl _)
   | (with_reducible exact LeO.none _)
   | (with_reducible refine LeO.ite ?_ ?_)
   | (with_reducible refine LeO.bind ?_ (fun _ => ?_))
   | exact ih0 _ _ _ _ _
   | exact LeO.none _
   | refine LeO.ite ?_ ?_
   | refine LeO.bind ?_ (fun _ => ?_)
set_option maxHeartbeats 8000000 in
set_option maxRecDepth 100000 in
theorem impl_Star_chords.calls (k : Nat) (a0_0 : Int) (a0_1 : Int) (r : List (S88)) (w : World) (h : impl_Star_chords.f k a0_0 a0_1 = some r) :
  Calls Try.prog 80 #[.agg #[.int .i64 a0_0, .int .i64 a0_1]] w fun e w' => ∃ v0_ : Value, e = .returned (v0_) ∧ Kd.R k88 88 w' w.heap.size (fun _ => True) v0_ r ∧ Below w.heap.size w w' := by
 have hu37 := Try.underlying37
 have HB := Aside0.mk (Below.refl w.heap.size w)
 have H : (impl_Star_chords.l0 k (([] : List (S88))) a0_0 0 a0_0 a0_1) = some r := h
 clear h
 obtain ⟨y157, hy157⟩ : ∃ y_ : List (S88), y_ = (([] : List (S88))) := ⟨_, rfl⟩
 replace H : (impl_Star_chords.l0 k y157 a0_0 0 a0_0 a0_1) = some r := by first | (rw [hy157]; with_reducible exact H) | (have H2_ := (Option.bind_some _ _).symm.trans H; rw [hy157]; with_reducible exact H2_) | (have H2_ := (Option.bind_some _ _).symm.trans H; with_reducible exact H2_) | with_reducible exact H | (rw [hy157]; exact H) | exact H
 have Ny157 := Aside0.mk hy157
 clear hy157
 have H' := Aside0.mk H
 clear H
 go_enter Try.func80, Try.ntmps80
 go_wp2_with (first | ((with_reducible refine gate_dst (N := 1) rfl ?_); refine box_event ?hg (N := 1) ?hd (cs := #[.int .i64 a0_0, .int .i64 a0_1]) (t := 37) ?hr ?_; (case hd => rfl); (case hg => rfl); (case hr => first | (go_simp; done) | (go_simp; rfl)); intro gb156 hg w2 hbox hb; have n0_ := Aside0.mk (below_step hb_ hb); have n1_ := Aside0.mk (hbox); have n2_ := Aside0.mk ((by rw [hg]; exact (below_size hb_) : w.heap.size ≤ gb156)); have n3_ := Aside0.mk ((by rw [hg]; exact (below_size hb_) : w.heap.size ≤ gb156)); clear HB; have HB := n0_; have BK156 := n1_; have GW156 := n2_; have GE156 := n3_; clear n0_ n1_ n2_ n3_; clear hb hbox hg) | ((with_reducible refine gate_dst (N := 5) rfl ?_); refine Kd.R_lit k88 _ 88 ?hg (N := 5) ?hd (xs := ([] : List (S88))) (inner := []) (ok := fun _ => True) (okp := fun _ => True) ?hr ?hp (fun _ hk => hk) trivial (Below.refl _ _) (Nat.le_refl _) (by simp) ?_; (case hd => rfl); (case hg => rfl); (case hr => first | (go_simp; done) | (go_simp; rfl)); (case hp => exact (Reps.none _ _)); intro v158 w3 ho4 hb hg_ hnew_; clear hg_ hnew_; (first | rw [← Ny157.out] at ho4 | (simp only [Int.reduceToNat] at ho4; rw [← Ny157.out] at ho4)); have n0_ := Aside0.mk (Kd.R_lower ho4 (below_size (hs_ GE156.out))); have n1_ := Aside0.mk (blk_below (g := gb156) (o := .cells #[.int .i64 a0_0, .int .i64 a0_1] 37 (0, 0)) (kx_ BK156.out) hb); have n2_ := Aside0.mk (below_step (hs_ GE156.out) hb); clear BK156; clear HB; have HO159 := n0_; have BK156 := n1_; have HB := n2_; clear n0_ n1_ n2_; clear hb ho4; have hcz5_0 : w3.cell? ⟨gb156, 0, none⟩ = some (.int .i64 a0_0) := (blk_cell BK156.out 0).trans rfl; have hcz5_1 : w3.cell? ⟨gb156, 1, none⟩ = some (.int .i64 a0_1) := (blk_cell BK156.out 1).trans rfl; have hfz5_0 := blk_frozen BK156.out 0; have hfz5_1 := blk_frozen BK156.out 1))
 go_loopg [3, 8] k (fun kq v3 v8 w' => ∃ (x3_1 : List (S88)) (x8_1 : Int), v8 = .int .i64 x8_1 ∧ Aside0 (impl_Star_chords.l0 kq x3_1 a0_0 x8_1 a0_0 a0_1 = some r) ∧ Aside0 (kq ≤ k) ∧ Aside0 (Kd.R k88 88 w' w.heap.size (fun _ => True) v3 x3_1) ∧ Aside0 (w'.heap[gb156]? = some (.cells #[.int .i64 a0_0, .int .i64 a0_1] 37 (0, 0))) ∧ Aside0 (Below w.heap.size w w'))
 case atStart => exact ⟨(y157), (0), (by first | rfl | (simp; done) | (simp [*]; done)), H', ⟨Nat.le_refl _⟩, ⟨by (with_reducible repeat (first | apply rA | apply rN | apply rD)); exact HO159.out⟩, ⟨by (with_reducible repeat (first | refine kN ?_ _ | refine kD ?_ | refine kA ?_ _)); exact BK156.out⟩, ⟨hs_ GE156.out⟩⟩
 case round =>
  clear H'
  try clear p2
  try clear hcz5_0
  try clear hcz5_1
  try clear hfz5_0
  try clear hfz5_1
  obtain ⟨x3_1, x8_1, rfl, HA, HK1, HO_3, BK156, HB⟩ := hrel
  cases gk with
  | zero => exact absurd HA.out (by simp [impl_Star_chords.l0])
  | succ k1 =>
   have H := HA.out
   clear HA
   simp only [impl_Star_chords.l0] at H
   by_cases c6 : x8_1 < a0_0
   ·rw [if_pos c6] at H
    have c6b0 : decide (x8_1 < a0_0) = true := decide_eq_true c6
    clear c6
    by_cases c7 : a0_0 = 0
    ·rw [if_pos c7] at H
     exact absurd H (by simp)
    ·rw [if_neg c7] at H
     have c7b0 : (a0_0 == 0) = false := beq_eq_false_iff_ne.mpr c7
     have c7b1 : (a0_0 != 0) = true := bne_iff_ne.mpr c7
     replace H := bI H
     obtain ⟨⟨t160, t161⟩, A80, H⟩ := H
     replace H : (if x3_1.length < 8796093022208 then (impl_Star_chords.l0 k1 (x3_1 ++ [(⟨t160, t161⟩ : S88)]) a0_0 (wrap64 (x8_1 + 1)) a0_0 a0_1) else (none)) = some r := H
     have A8 := Aside0.mk A80
     clear A80
     by_cases c9 : x3_1.length < 8796093022208
     ·rw [if_pos c9] at H
      have LMc9 := Aside0.mk c9
      clear c9
      obtain ⟨y162, hy162⟩ : ∃ y_ : List (S88), y_ = (x3_1 ++ [(⟨t160, t161⟩ : S88)]) := ⟨_, rfl⟩
      replace H : (impl_Star_chords.l0 k1 y162 a0_0 (wrap64 (x8_1 + 1)) a0_0 a0_1) = some r := by first | (rw [hy162]; with_reducible exact H) | (have H2_ := (Option.bind_some _ _).symm.trans H; rw [hy162]; with_reducible exact H2_) | (have H2_ := (Option.bind_some _ _).symm.trans H; with_reducible exact H2_) | with_reducible exact H | (rw [hy162]; exact H) | exact H
      have Ny162 := Aside0.mk hy162
      clear hy162
      have H' := Aside0.mk H
      clear H
      have hcz10_0 : wr.cell? ⟨gb156, 0, none⟩ = some (.int .i64 a0_0) := (blk_cell BK156.out 0).trans rfl
      have hcz10_1 : wr.cell? ⟨gb156, 1, none⟩ = some (.int .i64 a0_1) := (blk_cell BK156.out 1).trans rfl
      have hfz10_0 := blk_frozen BK156.out 0
      have hfz10_1 := blk_frozen BK156.out 1
      go_wp2_with (first | ((with_reducible refine gate_callee (f := 86) rfl ?_); refine goesL_ (some 20) rfl rfl Try.func86 (by kernel_rfl) rfl #[.int .i64 x8_1, .int .i64 (Int.tmod (wrap64 (x8_1 + a0_1)) a0_0)] rfl ar_ ?_; (with_reducible refine (impl_chord.calls x8_1 (Int.tmod (wrap64 (x8_1 + a0_1)) a0_0) t160 t161 _ A8.out).mono ?_); rintro e w11 ⟨rfl, hb⟩; refine ⟨_, rfl, ?_⟩; have n0_ := Aside0.mk (Kd.R_below (by (with_reducible repeat (first | apply rA | apply rN | apply rD)); exact HO_3.out) hb); have n1_ := Aside0.mk (blk_below (g := gb156) (o := .cells #[.int .i64 a0_0, .int .i64 a0_1] 37 (0, 0)) (kx_ BK156.out) hb); have n2_ := Aside0.mk (below_step (hs_ GE156.out) hb); clear HO_3; clear BK156; clear HB; have HO_3 := n0_; have BK156 := n1_; have HB := n2_; clear n0_ n1_ n2_; (try clear hb); (try clear hb2); (try clear hk); (try clear hi)) | ((with_reducible refine gate_builtin (b := .append) (xs := #[.tmp 11, .tmp 21]) rfl ?_); at_builtin; refine Kd.R_append k88 (w0 := w) w.heap.size rfl (.tmp 11) (.tmp 21) 83 88 (.agg #[(.int .i64 0), (.int .i64 0)]) 16 rfl Try.underlying83 info88 rfl (by decide) (by omega) u3 x3_1 (⟨t160, t161⟩ : S88) [.int .i64 t160, .int .i64 t161] (fun _ => True) (fun _ => False) rfl rfl ?aP (fun _ hk => hk.elim) ?aF ?aO ?aB ?aS ?aL ?_; (case aP => exact k88_mkM _ _ _ (⟨t160, t161⟩ : S88)); (case aB => exact (hs_ GE156.out)); (case aF => exact (fun _ _ => trivial)); (case aO => exact (by (with_reducible repeat (first | apply rA | apply rN | apply rD)); exact HO_3.out)); (case aS => exact (below_size (hs_ GE156.out))); (case aL => have := LMc9.out; omega); intro v163 w12 ho hb hg hat; rw [← Ny162.out] at ho; have n0_ := Aside0.mk (blk_grown (g := gb156) (o := .cells #[.int .i64 a0_0, .int .i64 a0_1] 37 (0, 0)) (kx_ BK156.out) hg (Kd.R_ne HO_3.out BK156.out (by decide))); have n1_ := Aside0.mk (hb); have n2_ := Aside0.mk (ho); clear BK156; clear HB; clear HO_3; have BK156 := n0_; have HB := n1_; have HO164 := n2_; clear n0_ n1_ n2_; clear ho hb hg hat))
      go_roundg k1
      case measure => have := HK1.out; omega
      case rel => exact ⟨(y162), (wrap64 (x8_1 + 1)), (by first | rfl | (simp; done) | (simp [*]; done)), H', ⟨by have := HK1.out; omega⟩, ⟨by (with_reducible repeat (first | apply rA | apply rN | apply rD)); exact HO164.out⟩, ⟨by (with_reducible repeat (first | refine kN ?_ _ | refine kD ?_ | refine kA ?_ _)); exact BK156.out⟩, ⟨hs_ GE156.out⟩⟩
     ·rw [if_neg c9] at H
      exact absurd H (by simp)
   ·rw [if_neg c6] at H
    have c6b0 : decide (x8_1 < a0_0) = false := decide_eq_false c6
    clear c6
    replace H := bI H
    obtain ⟨t165, A130, H⟩ := H
    replace H : (some t165) = some r := H
    have A13 := Aside0.mk A130
    clear A130
    obtain rfl := oI H
    obtain ⟨Ao14, co14, eo14⟩ := Kd.R_slice HO_3.out
    subst eo14
    go_wp2_with (first | ((with_reducible refine gate_callee (f := 87) rfl ?_); refine goesL_ (some 25) rfl rfl Try.func87 (by kernel_rfl) rfl #[.slice Ao14 x3_1.length co14] rfl ar_ ?_; (with_reducible refine (impl_ordered.calls (fun k_ => some k_ = (.slice Ao14 x3_1.length co14 : Value).ownBlock) (.slice Ao14 x3_1.length co14) x3_1 t165 w _ ?side1 ?side2 A13.out).mono ?_); (case side1 => repeat (first | (with_reducible first | exact HB.out | apply bA | apply bN | apply bD | refine below_set ?_ GE156.out) | exact HB.out)); (case side2 => exact Kd.R_tight rfl HO_3.out); rintro e w15 ⟨v166, rfl, ho0, hb, hkp⟩; refine ⟨_, rfl, ?_⟩; have n0_ := Aside0.mk (blk_kept (kx_ BK156.out) hkp (fun hs_ => (fun e_ => (Kd.R_ne HO_3.out BK156.out (by decide)) e_) hs_)); have n1_ := Aside0.mk (Kd.R_mono (ok' := fun k_ => True) ho0 (fun k_ hk_ => trivial)); have n2_ := Aside0.mk (hb); clear BK156; clear HB; clear HO_3; have BK156 := n0_; have HO167 := n1_; have HB := n2_; clear n0_ n1_ n2_; (try clear hb); (try clear hkp); (try clear ho0)))
    go_ret
    exact ⟨_, by first | rfl | (simp [errW_none, errW_some] <;> rfl) | (simp [*, errW_none, errW_some] <;> rfl), by (with_reducible repeat (first | apply rA | apply rN | apply rD)); exact HO167.out, hs_ GE156.out⟩
end Go.Proofs.Ytkgaljocaapobaa.Pr
/- The chords of a star: sorted and compacted by the program, put in one by one by the reference; and their crossings. -/
namespace Go.Proofs.Ytkgaljocaapobaa.M
open Go.RowKit Go.Proofs.YtkgaljocaapobaaW.PrintWords Go.Proofs.Ytkgaljocaapobaa.Pr
theorem ltB_iff (x y : Ch) : ltB x y = true ↔ (x.f0 < y.f0 ∨ x.f0 = y.f0 ∧ x.f1 < y.f1) := by simp [ltB]
theorem ltB_not (x y : Ch) : ltB x y = false ↔ ¬ (x.f0 < y.f0 ∨ x.f0 = y.f0 ∧ x.f1 < y.f1) := by rw [← ltB_iff, Bool.not_eq_true]
theorem ordB : Ord ltB where
  irrefl x := by rw [ltB_not]; omega
  trans x y z h1 h2 := by rw [ltB_iff] at *; omega
  tri x y h1 h2 := by
    rw [ltB_not] at h1 h2
    obtain ⟨a, b⟩ := x
    obtain ⟨c, d⟩ := y
    simp only at h1 h2
    rw [show a = c by omega, show b = d by omega]
/-- The chords in order, each once. -/
def setC (xs : List Ch) : List Ch := xs.foldl (put ltB) []
theorem ordC_eq (xs : List Ch) : ordC xs = setC xs := by
  have e : ltOf cmpC = ltB := by
    funext x y
    rw [Bool.eq_iff_iff, ltC_iff, ltB_iff]
  unfold ordC sortC
  rw [e]
  exact sort_compact ordB xs
theorem mem_setC (x : Ch) (xs : List Ch) : x ∈ setC xs ↔ x ∈ xs := by
  unfold setC
  rw [mem_fold]
  simp
theorem setC_length (xs : List Ch) : (setC xs).length ≤ xs.length := by
  have := length_fold ltB xs []
  unfold setC
  simpa using this
theorem srPut_ev (l : List Ch) (c : Ch) (hl : l.length ≤ 1000000) : Ev (fun k => spec_srPut.f k l c.f0 c.f1) (put ltB l c) := by
  unfold spec_srPut.f
  have e := Ev.scan0 (fun k i (_ : Unit) => spec_srPut.l0 k l i c.f0 c.f1) l (fun rest _ => l.take (l.length - rest.length) ++ put ltB rest c) (fun _ _ => True)
    (fun acc _ => by
      refine Ev.step (fun k => by rw [spec_srPut.l0]) ?_
      refine Ev.neg (by omega) ?_
      rw [Int.toNat_natCast]
      refine Ev.bindc rfl (Ev.pos (by omega) (Ev.pos (by omega) (Ev.bindc rfl (Ev.pos (by simp <;> omega) (Ev.bindc rfl (Ev.bindc rfl (Ev.pos (by simp <;> omega) (Ev.bindc rfl (Ev.bindc rfl (Ev.pos (by simp <;> omega) (Ev.val ?_)))))))))))
      simp [put])
    (fun i h acc _ => by
      have hr := rd_ch l i h
      have hdl : (l[i] :: l.drop (i + 1)).length = l.length - i := by simp <;> omega
      have ht : l.length - (l.length - i) = i := by omega
      by_cases hlt : ltB l[i] c = true
      · refine .inl ⟨(), trivial, ?_, fun r hr2 => ?_⟩
        · rw [hdl, ht, put, if_pos hlt, show l.length - (l.drop (i + 1)).length = i + 1 by simp <;> omega, List.take_succ_eq_append_getElem h, List.append_assoc]
          rfl
        · refine Ev.step (fun k => by rw [spec_srPut.l0]) ?_
          refine Ev.pos (by omega) (Ev.pos (by omega) ?_)
          rw [hr]
          refine Ev.bindc (srLess_eq _ _ _ _) (Ev.pos hlt ?_)
          rw [w64 (x := (i : Int) + 1) (by omega) (by omega)]
          exact hr2
      · refine .inr ?_
        refine Ev.step (fun k => by rw [spec_srPut.l0]) ?_
        refine Ev.pos (by omega) (Ev.pos (by omega) ?_)
        rw [hr]
        refine Ev.bindc (srLess_eq _ _ _ _) (Ev.neg hlt ?_)
        rw [hdl, ht, put, if_neg hlt]
        by_cases he : l[i] = c
        · refine Ev.pos (by rw [he]; simp) (Ev.val ?_)
          rw [if_pos he, ← List.drop_eq_getElem_cons h, List.take_append_drop]
        · refine Ev.neg (fun hh => he ?_) ?_
          · simp only [Bool.and_eq_true, beq_iff_eq] at hh
            generalize l[i] = y at hh ⊢
            obtain ⟨a, b⟩ := y
            obtain ⟨c, d⟩ := c
            rw [show a = c from hh.1, show b = d from hh.2]
          · rw [if_neg he, Int.toNat_natCast]
            refine Ev.bindc rfl (Ev.pos (by omega) (Ev.bindc rfl (Ev.pos (by simp <;> omega) (Ev.bindc rfl (Ev.bindc rfl (Ev.pos (by simp <;> omega) (Ev.bindc rfl (Ev.bindc rfl (Ev.pos (by simp <;> omega) (Ev.val ?_))))))))))
            simp only [List.nil_append, List.append_assoc, List.cons_append]
            rw [← List.drop_eq_getElem_cons h])
    () trivial
  simpa using e
/-- The chord from a point of a star. -/
def chV (n s p : Int) : Ch := ⟨mn p (Int.tmod (p + s) n), mx p (Int.tmod (p + s) n)⟩
/-- The chords from the points p, p + 1, .., n - 1. -/
def chsFrom (n s : Int) : Nat → Int → List Ch
  | 0, _ => []
  | d + 1, p => chV n s p :: chsFrom n s d (p + 1)
theorem chsFrom_length (n s : Int) : ∀ d p, (chsFrom n s d p).length = d
  | 0, _ => rfl
  | d + 1, p => by rw [chsFrom, List.length_cons, chsFrom_length]
theorem mem_chsFrom (n s : Int) (c : Ch) : ∀ d p, c ∈ chsFrom n s d p → ∃ q : Int, p ≤ q ∧ q < p + d ∧ c = chV n s q
  | 0, _, h => by simp [chsFrom] at h
  | d + 1, p, h => by
    rw [chsFrom, List.mem_cons] at h
    rcases h with rfl | h
    · exact ⟨p, by omega, by omega, rfl⟩
    · obtain ⟨q, h1, h2, h3⟩ := mem_chsFrom n s c d (p + 1) h
      exact ⟨q, by omega, by omega, h3⟩
theorem srChord_eq (a b : Int) : spec_srChord.f a b = some (mn a b, mx a b) := by
  unfold spec_srChord.f spec_l1Least.f spec_l1Most.f mn mx
  by_cases h1 : a < b
  · rw [if_pos h1, if_neg (show ¬ a > b by omega), if_neg (show ¬ b < a by omega), if_pos h1]; rfl
  · by_cases h2 : a > b
    · rw [if_neg h1, if_pos h2, if_pos (show b < a by omega), if_neg h1]; rfl
    · rw [if_neg h1, if_neg h2, if_neg (show ¬ b < a by omega), if_neg h1]
      have : a = b := by omega
      subst this
      rfl
theorem srChords_ev (n s : Int) (hn : 1 ≤ n ∧ n ≤ 1000) (hs : 0 ≤ s ∧ s ≤ 1000) : Ev (fun k => spec_srChords.f k n s) (setC (chsFrom n s n.toNat 0)) := by
  unfold spec_srChords.f setC
  have e := Ev.upto (fun k i (acc : List Ch) => spec_srChords.l0 k acc i n s) n (fun i acc => (chsFrom n s (n - i).toNat i).foldl (put ltB) acc) (fun i acc => 0 ≤ i ∧ i ≤ n ∧ (acc.length : Int) ≤ i)
    (fun i acc hi hp => by
      have hz : (n - i).toNat = 0 := by omega
      refine Ev.step (fun k => by rw [spec_srChords.l0]) ?_
      refine Ev.neg (by omega) (Ev.val ?_)
      rw [hz]
      rfl)
    (fun i acc hi hp => by
      have hz : (n - i).toNat = (n - (i + 1)).toNat + 1 := by omega
      have hl := length_put ltB (chV n s i) acc
      refine .inl ⟨put ltB acc (chV n s i), ⟨by omega, by omega, by omega⟩, by rw [hz, chsFrom, List.foldl_cons], fun r hr2 => ?_⟩
      refine Ev.step (fun k => by rw [spec_srChords.l0]) ?_
      refine Ev.pos hi (Ev.neg (by omega) ?_)
      rw [w64 (x := i + s) (by omega) (by omega), w64 (x := i + 1) (by omega) (by omega)]
      exact Ev.bindc (srChord_eq _ _) (Ev.bindk (srPut_ev acc (chV n s i) (by omega)) hr2))
    n.toNat 0 [] (by omega) ⟨by omega, by omega, by simp⟩
  rw [show n - 0 = n by omega] at e
  exact e
theorem chords_ev (n s : Int) (hn : 1 ≤ n ∧ n ≤ 1000) (hs : 0 ≤ s ∧ s ≤ 1000) : Ev (fun k => impl_Star_chords.f k n s) (setC (chsFrom n s n.toNat 0)) := by
  unfold impl_Star_chords.f
  have e := Ev.upto (fun k i (acc : List Ch) => impl_Star_chords.l0 k acc n i n s) n (fun i acc => setC (acc ++ chsFrom n s (n - i).toNat i)) (fun i acc => 0 ≤ i ∧ i ≤ n ∧ (acc.length : Int) = i)
    (fun i acc hi hp => by
      have hz : (n - i).toNat = 0 := by omega
      refine Ev.step (fun k => by rw [impl_Star_chords.l0]) ?_
      refine Ev.neg (by omega) (Ev.bindc (a := setC acc) ?_ (Ev.val ?_))
      · unfold impl_ordered.f
        rw [if_pos (by omega), ordC_eq]
      · rw [hz]
        simp [chsFrom])
    (fun i acc hi hp => by
      have hz : (n - i).toNat = (n - (i + 1)).toNat + 1 := by omega
      refine .inl ⟨acc ++ [chV n s i], ⟨by omega, by omega, by simp <;> omega⟩, by rw [hz, chsFrom]; simp, fun r hr2 => ?_⟩
      refine Ev.step (fun k => by rw [impl_Star_chords.l0]) ?_
      refine Ev.pos hi (Ev.neg (by omega) ?_)
      rw [w64 (x := i + s) (by omega) (by omega), w64 (x := i + 1) (by omega) (by omega)]
      exact Ev.bindc rfl (Ev.pos (by omega) hr2))
    n.toNat 0 [] (by omega) ⟨by omega, by omega, by simp⟩
  rw [show n - 0 = n by omega] at e
  exact e
/-- A star's chords are chords of its points. -/
theorem chords_ok (n s : Int) (hn : 1 ≤ n ∧ n ≤ 1000) (hs : 1 ≤ s ∧ s < n) : ∀ c ∈ setC (chsFrom n s n.toNat 0), 0 ≤ c.f0 ∧ c.f0 < c.f1 ∧ c.f1 < n := by
  intro c hc
  obtain ⟨q, h1, h2, rfl⟩ := mem_chsFrom n s c _ _ ((mem_setC _ _).1 hc)
  have ht : Int.tmod (q + s) n = (q + s) % n := Int.tmod_eq_emod_of_nonneg (by omega)
  have hb : 0 ≤ (q + s) % n := Int.emod_nonneg _ (by omega)
  have hb2 : (q + s) % n < n := Int.emod_lt_of_pos _ (by omega)
  have hne : (q + s) % n ≠ q := by
    intro e
    by_cases h : q + s < n
    · rw [Int.emod_eq_of_lt (by omega) h] at e; omega
    · have : (q + s) % n = q + s - n := by
        rw [← Int.sub_emod_right, Int.emod_eq_of_lt (by omega) (by omega)]
      omega
  unfold chV mn mx
  rw [ht]
  generalize (q + s) % n = t at hb hb2 hne ⊢
  simp only
  split <;> split <;> omega
theorem srCount_ev (l : List Ch) (hl : l.length ≤ 1000) (hv : ∀ c ∈ l, c.f0 < c.f1) : Ev (fun k => spec_srCount.f k l) (pairsN l : Int) := by
  unfold spec_srCount.f
  have inner : ∀ (i : Nat) (hi : i < l.length) (r : Int) (acc : Int), 0 ≤ acc ∧ acc ≤ i * 1000 → Ev (fun k => spec_srCount.l0 k l (acc + (cnt l[i] (l.drop (i + 1)) : Int)) l (l.length : Int) ((i : Int) + 1)) r →
      Ev (fun k => spec_srCount.l1 k l acc l (l.length : Int) (i : Int) (l.drop (i + 1)) ((l.drop (i + 1)).length : Int) 0 l[i].f0 l[i].f1) r := by
    intro i hi r acc hacc hr
    have hdl : (l.drop (i + 1)).length = l.length - (i + 1) := List.length_drop
    have e := Ev.cps (fun k j (a : Int) => spec_srCount.l1 k l a l (l.length : Int) (i : Int) (l.drop (i + 1)) ((l.drop (i + 1)).length : Int) j l[i].f0 l[i].f1)
      (fun k a => spec_srCount.l0 k l a l (l.length : Int) ((i : Int) + 1)) (l.drop (i + 1))
      (fun rest a => a + (cnt l[i] rest : Int)) (fun j a => 0 ≤ a ∧ a ≤ i * 1000 + j)
      (fun a r _ hr => by
        refine Ev.step (fun k => by rw [spec_srCount.l1]) ?_
        refine Ev.neg (by omega) ?_
        rw [w64 (x := (i : Int) + 1) (by omega) (by omega)]
        simpa [cnt] using hr)
      (fun j hj a hp => by
        obtain ⟨hp1, hp2⟩ := hp
        have hrd := rd_ch (l.drop (i + 1)) j hj
        have hcv := hv l[i] (List.getElem_mem hi)
        have hdv := hv (l.drop (i + 1))[j] (List.mem_of_mem_drop (List.getElem_mem hj))
        by_cases hc : crB l[i] (l.drop (i + 1))[j] = true
        · refine ⟨a + 1, ⟨by omega, by omega⟩, by rw [cnt_pos _ hc]; omega, fun r hr2 => ?_⟩
          refine Ev.step (fun k => by rw [spec_srCount.l1]) ?_
          refine Ev.pos (by omega) (Ev.pos (by omega) (Ev.pos (by omega) ?_))
          rw [hrd]
          refine Ev.bindc (srCross_eq _ _ hcv hdv) (Ev.pos hc ?_)
          rw [w64 (x := (j : Int) + 1) (by omega) (by omega), w64 (x := a + 1) (by omega) (by omega)]
          exact hr2
        · refine ⟨a, ⟨by omega, by omega⟩, by rw [cnt_neg _ hc], fun r hr2 => ?_⟩
          refine Ev.step (fun k => by rw [spec_srCount.l1]) ?_
          refine Ev.pos (by omega) (Ev.pos (by omega) (Ev.pos (by omega) ?_))
          rw [hrd]
          refine Ev.bindc (srCross_eq _ _ hcv hdv) (Ev.neg hc ?_)
          rw [w64 (x := (j : Int) + 1) (by omega) (by omega)]
          exact hr2)
      (l.drop (i + 1)).length 0 acc r (by omega) ⟨by omega, by omega⟩ (by simpa using hr)
    simpa using e
  have e := Ev.scan0 (fun k i (acc : Int) => spec_srCount.l0 k l acc l (l.length : Int) i) l (fun rest acc => acc + (pairsN rest : Int)) (fun i acc => 0 ≤ acc ∧ acc ≤ i * 1000)
    (fun acc hp => by
      refine Ev.step (fun k => by rw [spec_srCount.l0]) ?_
      exact Ev.neg (by omega) (Ev.val (by simp [pairsN])))
    (fun i h acc hp => by
      have hr := rd_ch l i h
      have hcl := cnt_le l[i] (l.drop (i + 1))
      have hdl : (l.drop (i + 1)).length = l.length - (i + 1) := List.length_drop
      refine .inl ⟨acc + (cnt l[i] (l.drop (i + 1)) : Int), ⟨by omega, by omega⟩, by rw [pairsN]; omega, fun r hr2 => ?_⟩
      refine Ev.step (fun k => by rw [spec_srCount.l0]) ?_
      rw [w64 (x := (i : Int) + 1) (by omega) (by omega), show ((i : Int) + 1).toNat = i + 1 by omega]
      refine Ev.pos (by omega) (Ev.pos (by omega) (Ev.pos (by omega) (Ev.pos (by omega) (Ev.pos (by omega) ?_))))
      rw [hr]
      exact inner i h r acc hp hr2)
    0 ⟨by omega, by omega⟩
  simpa using e
end Go.Proofs.Ytkgaljocaapobaa.M
namespace Go.Proofs.Ytkgaljocaapobaa.Pr
open Go.RowKit Go.Proofs.YtkgaljocaapobaaW.PrintWords Go.Proofs.YtkgaljocaapobaaW.PrintLast Go.Proofs.YtkgaljocaapobaaW.PrintMore
attribute [local go_sem] max2_int min2_int max_two min_two max_three min_three max_four min_four
def impl_IsClue.f (a0_0 : Int) (a0_1 : Int) (a0_2 : Int) : Option (Bool) := (some (([3, 1, 1, 0, 0, 1] : List Int) : List Int)).bind fun y102 => ((some (([14, 7, 14, 100, 14, 14] : List Int) : List Int)).bind fun y105 => ((impl_within.f a0_0 0 5).bind fun t108 => (if t108 = true then (if 0 ≤ a0_0 then (if a0_0 < (y102.length : Int) then (if a0_0 < (y105.length : Int) then ((impl_within.f a0_1 (rd y102 a0_0) (rd y105 a0_0)).bind fun t111 => (if t111 = true then (if a0_2 = 0 then (some true) else (if a0_0 = 4 then ((impl_within.f a0_2 0 14).bind fun t112 => (some t112)) else (some false))) else (some false))) else (none)) else (none)) else (none)) else (some false))))
set_option maxHeartbeats 8000000 in
set_option maxRecDepth 100000 in
theorem impl_IsClue.calls (a0_0 : Int) (a0_1 : Int) (a0_2 : Int) (r : Bool) (w : World) (h : impl_IsClue.f a0_0 a0_1 a0_2 = some r) :
  Calls Try.prog 64 #[.agg #[.int .i64 a0_0, .int .i64 a0_1, .int .i64 a0_2]] w fun e w' => e = .returned (.bool r) ∧ Below w.heap.size w w' := by
 have hu67 := Try.underlying67
 have HB := Aside0.mk (Below.refl w.heap.size w)
 have H : ((some (([3, 1, 1, 0, 0, 1] : List Int) : List Int)).bind fun y102 => ((some (([14, 7, 14, 100, 14, 14] : List Int) : List Int)).bind fun y105 => ((impl_within.f a0_0 0 5).bind fun t108 => (if t108 = true then (if 0 ≤ a0_0 then (if a0_0 < (y102.length : Int) then (if a0_0 < (y105.length : Int) then ((impl_within.f a0_1 (rd y102 a0_0) (rd y105 a0_0)).bind fun t111 => (if t111 = true then (if a0_2 = 0 then (some true) else (if a0_0 = 4 then ((impl_within.f a0_2 0 14).bind fun t112 => (some t112)) else (some false))) else (some false))) else (none)) else (none)) else (none)) else (some false))))) = some r := h
 clear h
 obtain ⟨y102, hy102⟩ : ∃ y_ : List Int, y_ = (([3, 1, 1, 0, 0, 1] : List Int)) := ⟨_, rfl⟩
 replace H : ((some (([14, 7, 14, 100, 14, 14] : List Int) : List Int)).bind fun y105 => ((impl_within.f a0_0 0 5).bind fun t108 => (if t108 = true then (if 0 ≤ a0_0 then (if a0_0 < (y102.length : Int) then (if a0_0 < (y105.length : Int) then ((impl_within.f a0_1 (rd y102 a0_0) (rd y105 a0_0)).bind fun t111 => (if t111 = true then (if a0_2 = 0 then (some true) else (if a0_0 = 4 then ((impl_within.f a0_2 0 14).bind fun t112 => (some t112)) else (some false))) else (some false))) else (none)) else (none)) else (none)) else (some false)))) = some r := by first | (rw [hy102]; with_reducible exact H) | (have H2_ := (Option.bind_some _ _).symm.trans H; rw [hy102]; with_reducible exact H2_) | (have H2_ := (Option.bind_some _ _).symm.trans H; with_reducible exact H2_) | with_reducible exact H | (rw [hy102]; exact H) | exact H
 have Ny102 := Aside0.mk hy102
 clear hy102
 obtain ⟨y105, hy105⟩ : ∃ y_ : List Int, y_ = (([14, 7, 14, 100, 14, 14] : List Int)) := ⟨_, rfl⟩
 replace H : ((impl_within.f a0_0 0 5).bind fun t108 => (if t108 = true then (if 0 ≤ a0_0 then (if a0_0 < (y102.length : Int) then (if a0_0 < (y105.length : Int) then ((impl_within.f a0_1 (rd y102 a0_0) (rd y105 a0_0)).bind fun t111 => (if t111 = true then (if a0_2 = 0 then (some true) else (if a0_0 = 4 then ((impl_within.f a0_2 0 14).bind fun t112 => (some t112)) else (some false))) else (some false))) else (none)) else (none)) else (none)) else (some false))) = some r := by first | (rw [hy105]; with_reducible exact H) | (have H2_ := (Option.bind_some _ _).symm.trans H; rw [hy105]; with_reducible exact H2_) | (have H2_ := (Option.bind_some _ _).symm.trans H; with_reducible exact H2_) | with_reducible exact H | (rw [hy105]; exact H) | exact H
 have Ny105 := Aside0.mk hy105
 clear hy105
 replace H := bI H
 obtain ⟨t108, A20, H⟩ := H
 replace H : (if t108 = true then (if 0 ≤ a0_0 then (if a0_0 < (y102.length : Int) then (if a0_0 < (y105.length : Int) then ((impl_within.f a0_1 (rd y102 a0_0) (rd y105 a0_0)).bind fun t111 => (if t111 = true then (if a0_2 = 0 then (some true) else (if a0_0 = 4 then ((impl_within.f a0_2 0 14).bind fun t112 => (some t112)) else (some false))) else (some false))) else (none)) else (none)) else (none)) else (some false)) = some r := H
 have A2 := Aside0.mk A20
 clear A20
 by_cases c3 : t108 = true
 ·subst c3
  have H1 : (if 0 ≤ a0_0 then (if a0_0 < (y102.length : Int) then (if a0_0 < (y105.length : Int) then ((impl_within.f a0_1 (rd y102 a0_0) (rd y105 a0_0)).bind fun t111 => (if t111 = true then (if a0_2 = 0 then (some true) else (if a0_0 = 4 then ((impl_within.f a0_2 0 14).bind fun t112 => (some t112)) else (some false))) else (some false))) else (none)) else (none)) else (none)) = some r := by rw [if_pos rfl] at H; exact H
  clear H
  have H := H1
  clear H1
  by_cases c4 : 0 ≤ a0_0
  ·rw [if_pos c4] at H
   have c4b0 : decide (0 ≤ a0_0) = true := decide_eq_true c4
   clear c4
   by_cases c5 : a0_0 < (y102.length : Int)
   ·rw [if_pos c5] at H
    have c5b0 : decide (a0_0 < (y102.length : Int)) = true := decide_eq_true c5
    clear c5
    by_cases c6 : a0_0 < (y105.length : Int)
    ·rw [if_pos c6] at H
     have c6b0 : decide (a0_0 < (y105.length : Int)) = true := decide_eq_true c6
     clear c6
     replace H := bI H
     obtain ⟨t111, A70, H⟩ := H
     replace H : (if t111 = true then (if a0_2 = 0 then (some true) else (if a0_0 = 4 then ((impl_within.f a0_2 0 14).bind fun t112 => (some t112)) else (some false))) else (some false)) = some r := H
     have A7 := Aside0.mk A70
     clear A70
     by_cases c8 : t111 = true
     ·subst c8
      have H1 : (if a0_2 = 0 then (some true) else (if a0_0 = 4 then ((impl_within.f a0_2 0 14).bind fun t112 => (some t112)) else (some false))) = some r := by rw [if_pos rfl] at H; exact H
      clear H
      have H := H1
      clear H1
      by_cases c9 : a0_2 = 0
      ·rw [if_pos c9] at H
       have c9b0 : (a0_2 == 0) = true := beq_iff_eq.mpr c9
       have c9b1 : (a0_2 != 0) = false := bne_eq_false_iff_eq.mpr c9
       clear c9
       obtain rfl := oI H
       go_enter Try.func64, Try.ntmps64
       go_wp2_with (first | ((with_reducible refine gate_dst (N := 1) rfl ?_); refine box_event ?hg (N := 1) ?hd (cs := #[.int .i64 a0_0, .int .i64 a0_1, .int .i64 a0_2]) (t := 67) ?hr ?_; (case hd => rfl); (case hg => rfl); (case hr => first | (go_simp; done) | (go_simp; rfl)); intro gb101 hg w10 hbox hb; have n0_ := Aside0.mk (below_step hb_ hb); have n1_ := Aside0.mk (hbox); have n2_ := Aside0.mk ((by rw [hg]; exact (below_size hb_) : w.heap.size ≤ gb101)); have n3_ := Aside0.mk ((by rw [hg]; exact (below_size hb_) : w.heap.size ≤ gb101)); clear HB; have HB := n0_; have BK101 := n1_; have GW101 := n2_; have GE101 := n3_; clear n0_ n1_ n2_ n3_; clear hb hbox hg) | ((with_reducible refine gate_dst (N := 5) rfl ?_); refine Kd.R_lit (Kd.int .i64) _ 3 ?hg (N := 5) ?hd (xs := ([3, 1, 1, 0, 0, 1] : List Int)) (inner := [.int .i64 3, .int .i64 1, .int .i64 1, .int .i64 0, .int .i64 0, .int .i64 1]) (ok := fun _ => True) (okp := fun _ => True) ?hr ?hp (fun _ hk => hk) trivial (Below.refl _ _) (Nat.le_refl _) (by simp) ?_; (case hd => rfl); (case hg => rfl); (case hr => first | (go_simp; done) | (go_simp; rfl)); (case hp => exact (Reps.one (show Kd.M (Kd.int .i64) _ _ _ 3 [.int .i64 3] from rfl) (Reps.one (show Kd.M (Kd.int .i64) _ _ _ 1 [.int .i64 1] from rfl) (Reps.one (show Kd.M (Kd.int .i64) _ _ _ 1 [.int .i64 1] from rfl) (Reps.one (show Kd.M (Kd.int .i64) _ _ _ 0 [.int .i64 0] from rfl) (Reps.one (show Kd.M (Kd.int .i64) _ _ _ 0 [.int .i64 0] from rfl) (Reps.one (show Kd.M (Kd.int .i64) _ _ _ 1 [.int .i64 1] from rfl) (Reps.none _ _)))))))); intro v103 w11 ho12 hb hg_ hnew_; clear hg_ hnew_; (first | rw [← Ny102.out] at ho12 | (simp only [Int.reduceToNat] at ho12; rw [← Ny102.out] at ho12)); have n0_ := Aside0.mk (Kd.R_lower ho12 (below_size (hs_ GE101.out))); have n1_ := Aside0.mk (blk_below (g := gb101) (o := .cells #[.int .i64 a0_0, .int .i64 a0_1, .int .i64 a0_2] 67 (0, 0)) (kx_ BK101.out) hb); have n2_ := Aside0.mk (below_step (hs_ GE101.out) hb); clear BK101; clear HB; have HO104 := n0_; have BK101 := n1_; have HB := n2_; clear n0_ n1_ n2_; clear hb ho12) | ((with_reducible refine gate_dst (N := 6) rfl ?_); refine Kd.R_lit (Kd.int .i64) _ 3 ?hg (N := 6) ?hd (xs := ([14, 7, 14, 100, 14, 14] : List Int)) (inner := [.int .i64 14, .int .i64 7, .int .i64 14, .int .i64 100, .int .i64 14, .int .i64 14]) (ok := fun _ => True) (okp := fun _ => True) ?hr ?hp (fun _ hk => hk) trivial (Below.refl _ _) (Nat.le_refl _) (by simp) ?_; (case hd => rfl); (case hg => rfl); (case hr => first | (go_simp; done) | (go_simp; rfl)); (case hp => exact (Reps.one (show Kd.M (Kd.int .i64) _ _ _ 14 [.int .i64 14] from rfl) (Reps.one (show Kd.M (Kd.int .i64) _ _ _ 7 [.int .i64 7] from rfl) (Reps.one (show Kd.M (Kd.int .i64) _ _ _ 14 [.int .i64 14] from rfl) (Reps.one (show Kd.M (Kd.int .i64) _ _ _ 100 [.int .i64 100] from rfl) (Reps.one (show Kd.M (Kd.int .i64) _ _ _ 14 [.int .i64 14] from rfl) (Reps.one (show Kd.M (Kd.int .i64) _ _ _ 14 [.int .i64 14] from rfl) (Reps.none _ _)))))))); intro v106 w13 ho14 hb hg_ hnew_; clear hg_ hnew_; (first | rw [← Ny105.out] at ho14 | (simp only [Int.reduceToNat] at ho14; rw [← Ny105.out] at ho14)); have n0_ := Aside0.mk (Kd.R_elder' (by (with_reducible repeat (first | apply rA | apply rN | apply rD)); exact HO104.out) (Kd.R_base ho14) hb); have n1_ := Aside0.mk (Kd.R_lower (Kd.R_new' ho14 (Kd.R_lt (by (with_reducible repeat (first | apply rA | apply rN | apply rD)); exact HO104.out))) (below_size (hs_ GE101.out))); have n2_ := Aside0.mk (blk_below (g := gb101) (o := .cells #[.int .i64 a0_0, .int .i64 a0_1, .int .i64 a0_2] 67 (0, 0)) (kx_ BK101.out) hb); have n3_ := Aside0.mk (below_step (hs_ GE101.out) hb); clear HO104; clear BK101; clear HB; have HO104 := n0_; have HO107 := n1_; have BK101 := n2_; have HB := n3_; clear n0_ n1_ n2_ n3_; clear hb ho14; have hcz15_0 : w13.cell? ⟨gb101, 0, none⟩ = some (.int .i64 a0_0) := (blk_cell BK101.out 0).trans rfl; have hcz15_1 : w13.cell? ⟨gb101, 1, none⟩ = some (.int .i64 a0_1) := (blk_cell BK101.out 1).trans rfl; have hcz15_2 : w13.cell? ⟨gb101, 2, none⟩ = some (.int .i64 a0_2) := (blk_cell BK101.out 2).trans rfl; have hfz15_0 := blk_frozen BK101.out 0; have hfz15_1 := blk_frozen BK101.out 1; have hfz15_2 := blk_frozen BK101.out 2) | (go_at_call 72; (with_reducible refine (impl_within.calls a0_0 0 5 true _ A2.out).mono ?_); rintro e w' ⟨rfl, ⟨nd, rfl⟩⟩; (try first | exact ⟨rfl, _, World.drewN_drewN _ _ _⟩ | exact ⟨rfl, _, Eq.trans (World.drewN_drewN _ _ _) (congrArg (World.drewN _) (Nat.add_assoc _ _ _))⟩); obtain ⟨Ao16, co16, eo16⟩ := Kd.R_slice HO104.out; subst eo16; have p109 : 0 ≤ (a0_0 : Int) := of_decide_eq_true (by assumption); have q109 : a0_0 < (y102.length : Int) := of_decide_eq_true (by assumption); obtain ⟨ad109, e109, hx109_0⟩ := Kd.at_int (Kd.R_reads' HO104.out).2.2 a0_0 p109 q109; cases e109; replace p109 := eq_true p109; replace q109 := eq_true q109; obtain ⟨Ao17, co17, eo17⟩ := Kd.R_slice HO107.out; subst eo17; have p110 : 0 ≤ (a0_0 : Int) := of_decide_eq_true (by assumption); have q110 : a0_0 < (y105.length : Int) := of_decide_eq_true (by assumption); obtain ⟨ad110, e110, hx110_0⟩ := Kd.at_int (Kd.R_reads' HO107.out).2.2 a0_0 p110 q110; cases e110; replace p110 := eq_true p110; replace q110 := eq_true q110) | (go_at_call 72; (with_reducible refine (impl_within.calls a0_1 (rd y102 a0_0) (rd y105 a0_0) true _ A7.out).mono ?_); rintro e w' ⟨rfl, ⟨nd, rfl⟩⟩; (try first | exact ⟨rfl, _, World.drewN_drewN _ _ _⟩ | exact ⟨rfl, _, Eq.trans (World.drewN_drewN _ _ _) (congrArg (World.drewN _) (Nat.add_assoc _ _ _))⟩)))
       repeat (go_quiet (first | ((with_reducible refine gate_dst (N := 1) rfl ?_); refine box_event ?hg (N := 1) ?hd (cs := #[.int .i64 a0_0, .int .i64 a0_1, .int .i64 a0_2]) (t := 67) ?hr ?_; (case hd => rfl); (case hg => rfl); (case hr => first | (go_simp; done) | (go_simp; rfl)); intro gb101 hg w10 hbox hb; have n0_ := Aside0.mk (below_step hb_ hb); have n1_ := Aside0.mk (hbox); have n2_ := Aside0.mk ((by rw [hg]; exact (below_size hb_) : w.heap.size ≤ gb101)); have n3_ := Aside0.mk ((by rw [hg]; exact (below_size hb_) : w.heap.size ≤ gb101)); clear HB; have HB := n0_; have BK101 := n1_; have GW101 := n2_; have GE101 := n3_; clear n0_ n1_ n2_ n3_; clear hb hbox hg) | ((with_reducible refine gate_dst (N := 5) rfl ?_); refine Kd.R_lit (Kd.int .i64) _ 3 ?hg (N := 5) ?hd (xs := ([3, 1, 1, 0, 0, 1] : List Int)) (inner := [.int .i64 3, .int .i64 1, .int .i64 1, .int .i64 0, .int .i64 0, .int .i64 1]) (ok := fun _ => True) (okp := fun _ => True) ?hr ?hp (fun _ hk => hk) trivial (Below.refl _ _) (Nat.le_refl _) (by simp) ?_; (case hd => rfl); (case hg => rfl); (case hr => first | (go_simp; done) | (go_simp; rfl)); (case hp => exact (Reps.one (show Kd.M (Kd.int .i64) _ _ _ 3 [.int .i64 3] from rfl) (Reps.one (show Kd.M (Kd.int .i64) _ _ _ 1 [.int .i64 1] from rfl) (Reps.one (show Kd.M (Kd.int .i64) _ _ _ 1 [.int .i64 1] from rfl) (Reps.one (show Kd.M (Kd.int .i64) _ _ _ 0 [.int .i64 0] from rfl) (Reps.one (show Kd.M (Kd.int .i64) _ _ _ 0 [.int .i64 0] from rfl) (Reps.one (show Kd.M (Kd.int .i64) _ _ _ 1 [.int .i64 1] from rfl) (Reps.none _ _)))))))); intro v103 w11 ho12 hb hg_ hnew_; clear hg_ hnew_; (first | rw [← Ny102.out] at ho12 | (simp only [Int.reduceToNat] at ho12; rw [← Ny102.out] at ho12)); have n0_ := Aside0.mk (Kd.R_lower ho12 (below_size (hs_ GE101.out))); have n1_ := Aside0.mk (blk_below (g := gb101) (o := .cells #[.int .i64 a0_0, .int .i64 a0_1, .int .i64 a0_2] 67 (0, 0)) (kx_ BK101.out) hb); have n2_ := Aside0.mk (below_step (hs_ GE101.out) hb); clear BK101; clear HB; have HO104 := n0_; have BK101 := n1_; have HB := n2_; clear n0_ n1_ n2_; clear hb ho12) | ((with_reducible refine gate_dst (N := 6) rfl ?_); refine Kd.R_lit (Kd.int .i64) _ 3 ?hg (N := 6) ?hd (xs := ([14, 7, 14, 100, 14, 14] : List Int)) (inner := [.int .i64 14, .int .i64 7, .int .i64 14, .int .i64 100, .int .i64 14, .int .i64 14]) (ok := fun _ => True) (okp := fun _ => True) ?hr ?hp (fun _ hk => hk) trivial (Below.refl _ _) (Nat.le_refl _) (by simp) ?_; (case hd => rfl); (case hg => rfl); (case hr => first | (go_simp; done) | (go_simp; rfl)); (case hp => exact (Reps.one (show Kd.M (Kd.int .i64) _ _ _ 14 [.int .i64 14] from rfl) (Reps.one (show Kd.M (Kd.int .i64) _ _ _ 7 [.int .i64 7] from rfl) (Reps.one (show Kd.M (Kd.int .i64) _ _ _ 14 [.int .i64 14] from rfl) (Reps.one (show Kd.M (Kd.int .i64) _ _ _ 100 [.int .i64 100] from rfl) (Reps.one (show Kd.M (Kd.int .i64) _ _ _ 14 [.int .i64 14] from rfl) (Reps.one (show Kd.M (Kd.int .i64) _ _ _ 14 [.int .i64 14] from rfl) (Reps.none _ _)))))))); intro v106 w13 ho14 hb hg_ hnew_; clear hg_ hnew_; (first | rw [← Ny105.out] at ho14 | (simp only [Int.reduceToNat] at ho14; rw [← Ny105.out] at ho14)); have n0_ := Aside0.mk (Kd.R_elder' (by (with_reducible repeat (first | apply rA | apply rN | apply rD)); exact HO104.out) (Kd.R_base ho14) hb); have n1_ := Aside0.mk (Kd.R_lower (Kd.R_new' ho14 (Kd.R_lt (by (with_reducible repeat (first | apply rA | apply rN | apply rD)); exact HO104.out))) (below_size (hs_ GE101.out))); have n2_ := Aside0.mk (blk_below (g := gb101) (o := .cells #[.int .i64 a0_0, .int .i64 a0_1, .int .i64 a0_2] 67 (0, 0)) (kx_ BK101.out) hb); have n3_ := Aside0.mk (below_step (hs_ GE101.out) hb); clear HO104; clear BK101; clear HB; have HO104 := n0_; have HO107 := n1_; have BK101 := n2_; have HB := n3_; clear n0_ n1_ n2_ n3_; clear hb ho14; have hcz15_0 : w13.cell? ⟨gb101, 0, none⟩ = some (.int .i64 a0_0) := (blk_cell BK101.out 0).trans rfl; have hcz15_1 : w13.cell? ⟨gb101, 1, none⟩ = some (.int .i64 a0_1) := (blk_cell BK101.out 1).trans rfl; have hcz15_2 : w13.cell? ⟨gb101, 2, none⟩ = some (.int .i64 a0_2) := (blk_cell BK101.out 2).trans rfl; have hfz15_0 := blk_frozen BK101.out 0; have hfz15_1 := blk_frozen BK101.out 1; have hfz15_2 := blk_frozen BK101.out 2) | (go_at_call 72; (with_reducible refine (impl_within.calls a0_0 0 5 true _ A2.out).mono ?_); rintro e w' ⟨rfl, ⟨nd, rfl⟩⟩; (try first | exact ⟨rfl, _, World.drewN_drewN _ _ _⟩ | exact ⟨rfl, _, Eq.trans (World.drewN_drewN _ _ _) (congrArg (World.drewN _) (Nat.add_assoc _ _ _))⟩); obtain ⟨Ao16, co16, eo16⟩ := Kd.R_slice HO104.out; subst eo16; have p109 : 0 ≤ (a0_0 : Int) := of_decide_eq_true (by assumption); have q109 : a0_0 < (y102.length : Int) := of_decide_eq_true (by assumption); obtain ⟨ad109, e109, hx109_0⟩ := Kd.at_int (Kd.R_reads' HO104.out).2.2 a0_0 p109 q109; cases e109; replace p109 := eq_true p109; replace q109 := eq_true q109; obtain ⟨Ao17, co17, eo17⟩ := Kd.R_slice HO107.out; subst eo17; have p110 : 0 ≤ (a0_0 : Int) := of_decide_eq_true (by assumption); have q110 : a0_0 < (y105.length : Int) := of_decide_eq_true (by assumption); obtain ⟨ad110, e110, hx110_0⟩ := Kd.at_int (Kd.R_reads' HO107.out).2.2 a0_0 p110 q110; cases e110; replace p110 := eq_true p110; replace q110 := eq_true q110) | (go_at_call 72; (with_reducible refine (impl_within.calls a0_1 (rd y102 a0_0) (rd y105 a0_0) true _ A7.out).mono ?_); rintro e w' ⟨rfl, ⟨nd, rfl⟩⟩; (try first | exact ⟨rfl, _, World.drewN_drewN _ _ _⟩ | exact ⟨rfl, _, Eq.trans (World.drewN_drewN _ _ _) (congrArg (World.drewN _) (Nat.add_assoc _ _ _))⟩))); try go_wp2_with (first | ((with_reducible refine gate_dst (N := 1) rfl ?_); refine box_event ?hg (N := 1) ?hd (cs := #[.int .i64 a0_0, .int .i64 a0_1, .int .i64 a0_2]) (t := 67) ?hr ?_; (case hd => rfl); (case hg => rfl); (case hr => first | (go_simp; done) | (go_simp; rfl)); intro gb101 hg w10 hbox hb; have n0_ := Aside0.mk (below_step hb_ hb); have n1_ := Aside0.mk (hbox); have n2_ := Aside0.mk ((by rw [hg]; exact (below_size hb_) : w.heap.size ≤ gb101)); have n3_ := Aside0.mk ((by rw [hg]; exact (below_size hb_) : w.heap.size ≤ gb101)); clear HB; have HB := n0_; have BK101 := n1_; have GW101 := n2_; have GE101 := n3_; clear n0_ n1_ n2_ n3_; clear hb hbox hg) | ((with_reducible refine gate_dst (N := 5) rfl ?_); refine Kd.R_lit (Kd.int .i64) _ 3 ?hg (N := 5) ?hd (xs := ([3, 1, 1, 0, 0, 1] : List Int)) (inner := [.int .i64 3, .int .i64 1, .int .i64 1, .int .i64 0, .int .i64 0, .int .i64 1]) (ok := fun _ => True) (okp := fun _ => True) ?hr ?hp (fun _ hk => hk) trivial (Below.refl _ _) (Nat.le_refl _) (by simp) ?_; (case hd => rfl); (case hg => rfl); (case hr => first | (go_simp; done) | (go_simp; rfl)); (case hp => exact (Reps.one (show Kd.M (Kd.int .i64) _ _ _ 3 [.int .i64 3] from rfl) (Reps.one (show Kd.M (Kd.int .i64) _ _ _ 1 [.int .i64 1] from rfl) (Reps.one (show Kd.M (Kd.int .i64) _ _ _ 1 [.int .i64 1] from rfl) (Reps.one (show Kd.M (Kd.int .i64) _ _ _ 0 [.int .i64 0] from rfl) (Reps.one (show Kd.M (Kd.int .i64) _ _ _ 0 [.int .i64 0] from rfl) (Reps.one (show Kd.M (Kd.int .i64) _ _ _ 1 [.int .i64 1] from rfl) (Reps.none _ _)))))))); intro v103 w11 ho12 hb hg_ hnew_; clear hg_ hnew_; (first | rw [← Ny102.out] at ho12 | (simp only [Int.reduceToNat] at ho12; rw [← Ny102.out] at ho12)); have n0_ := Aside0.mk (Kd.R_lower ho12 (below_size (hs_ GE101.out))); have n1_ := Aside0.mk (blk_below (g := gb101) (o := .cells #[.int .i64 a0_0, .int .i64 a0_1, .int .i64 a0_2] 67 (0, 0)) (kx_ BK101.out) hb); have n2_ := Aside0.mk (below_step (hs_ GE101.out) hb); clear BK101; clear HB; have HO104 := n0_; have BK101 := n1_; have HB := n2_; clear n0_ n1_ n2_; clear hb ho12) | ((with_reducible refine gate_dst (N := 6) rfl ?_); refine Kd.R_lit (Kd.int .i64) _ 3 ?hg (N := 6) ?hd (xs := ([14, 7, 14, 100, 14, 14] : List Int)) (inner := [.int .i64 14, .int .i64 7, .int .i64 14, .int .i64 100, .int .i64 14, .int .i64 14]) (ok := fun _ => True) (okp := fun _ => True) ?hr ?hp (fun _ hk => hk) trivial (Below.refl _ _) (Nat.le_refl _) (by simp) ?_; (case hd => rfl); (case hg => rfl); (case hr => first | (go_simp; done) | (go_simp; rfl)); (case hp => exact (Reps.one (show Kd.M (Kd.int .i64) _ _ _ 14 [.int .i64 14] from rfl) (Reps.one (show Kd.M (Kd.int .i64) _ _ _ 7 [.int .i64 7] from rfl) (Reps.one (show Kd.M (Kd.int .i64) _ _ _ 14 [.int .i64 14] from rfl) (Reps.one (show Kd.M (Kd.int .i64) _ _ _ 100 [.int .i64 100] from rfl) (Reps.one (show Kd.M (Kd.int .i64) _ _ _ 14 [.int .i64 14] from rfl) (Reps.one (show Kd.M (Kd.int .i64) _ _ _ 14 [.int .i64 14] from rfl) (Reps.none _ _)))))))); intro v106 w13 ho14 hb hg_ hnew_; clear hg_ hnew_; (first | rw [← Ny105.out] at ho14 | (simp only [Int.reduceToNat] at ho14; rw [← Ny105.out] at ho14)); have n0_ := Aside0.mk (Kd.R_elder' (by (with_reducible repeat (first | apply rA | apply rN | apply rD)); exact HO104.out) (Kd.R_base ho14) hb); have n1_ := Aside0.mk (Kd.R_lower (Kd.R_new' ho14 (Kd.R_lt (by (with_reducible repeat (first | apply rA | apply rN | apply rD)); exact HO104.out))) (below_size (hs_ GE101.out))); have n2_ := Aside0.mk (blk_below (g := gb101) (o := .cells #[.int .i64 a0_0, .int .i64 a0_1, .int .i64 a0_2] 67 (0, 0)) (kx_ BK101.out) hb); have n3_ := Aside0.mk (below_step (hs_ GE101.out) hb); clear HO104; clear BK101; clear HB; have HO104 := n0_; have HO107 := n1_; have BK101 := n2_; have HB := n3_; clear n0_ n1_ n2_ n3_; clear hb ho14; have hcz15_0 : w13.cell? ⟨gb101, 0, none⟩ = some (.int .i64 a0_0) := (blk_cell BK101.out 0).trans rfl; have hcz15_1 : w13.cell? ⟨gb101, 1, none⟩ = some (.int .i64 a0_1) := (blk_cell BK101.out 1).trans rfl; have hcz15_2 : w13.cell? ⟨gb101, 2, none⟩ = some (.int .i64 a0_2) := (blk_cell BK101.out 2).trans rfl; have hfz15_0 := blk_frozen BK101.out 0; have hfz15_1 := blk_frozen BK101.out 1; have hfz15_2 := blk_frozen BK101.out 2) | (go_at_call 72; (with_reducible refine (impl_within.calls a0_0 0 5 true _ A2.out).mono ?_); rintro e w' ⟨rfl, ⟨nd, rfl⟩⟩; (try first | exact ⟨rfl, _, World.drewN_drewN _ _ _⟩ | exact ⟨rfl, _, Eq.trans (World.drewN_drewN _ _ _) (congrArg (World.drewN _) (Nat.add_assoc _ _ _))⟩); obtain ⟨Ao16, co16, eo16⟩ := Kd.R_slice HO104.out; subst eo16; have p109 : 0 ≤ (a0_0 : Int) := of_decide_eq_true (by assumption); have q109 : a0_0 < (y102.length : Int) := of_decide_eq_true (by assumption); obtain ⟨ad109, e109, hx109_0⟩ := Kd.at_int (Kd.R_reads' HO104.out).2.2 a0_0 p109 q109; cases e109; replace p109 := eq_true p109; replace q109 := eq_true q109; obtain ⟨Ao17, co17, eo17⟩ := Kd.R_slice HO107.out; subst eo17; have p110 : 0 ≤ (a0_0 : Int) := of_decide_eq_true (by assumption); have q110 : a0_0 < (y105.length : Int) := of_decide_eq_true (by assumption); obtain ⟨ad110, e110, hx110_0⟩ := Kd.at_int (Kd.R_reads' HO107.out).2.2 a0_0 p110 q110; cases e110; replace p110 := eq_true p110; replace q110 := eq_true q110) | (go_at_call 72; (with_reducible refine (impl_within.calls a0_1 (rd y102 a0_0) (rd y105 a0_0) true _ A7.out).mono ?_); rintro e w' ⟨rfl, ⟨nd, rfl⟩⟩; (try first | exact ⟨rfl, _, World.drewN_drewN _ _ _⟩ | exact ⟨rfl, _, Eq.trans (World.drewN_drewN _ _ _) (congrArg (World.drewN _) (Nat.add_assoc _ _ _))⟩))))
       go_ret
       exact ⟨by first | rfl | (simp [errW_none, errW_some] <;> rfl) | (simp [*, errW_none, errW_some] <;> rfl), hs_ GE101.out⟩
      ·rw [if_neg c9] at H
       have c9b0 : (a0_2 == 0) = false := beq_eq_false_iff_ne.mpr c9
       have c9b1 : (a0_2 != 0) = true := bne_iff_ne.mpr c9
       by_cases c18 : a0_0 = 4
       ·rw [if_pos c18] at H
        have c18b0 : (a0_0 == 4) = true := beq_iff_eq.mpr c18
        have c18b1 : (a0_0 != 4) = false := bne_eq_false_iff_eq.mpr c18
        clear c18
        replace H := bI H
        obtain ⟨t112, A190, H⟩ := H
        replace H : (some t112) = some r := H
        have A19 := Aside0.mk A190
        clear A190
        obtain rfl := oI H
        go_enter Try.func64, Try.ntmps64
        go_wp2_with (first | ((with_reducible refine gate_dst (N := 1) rfl ?_); refine box_event ?hg (N := 1) ?hd (cs := #[.int .i64 a0_0, .int .i64 a0_1, .int .i64 a0_2]) (t := 67) ?hr ?_; (case hd => rfl); (case hg => rfl); (case hr => first | (go_simp; done) | (go_simp; rfl)); intro gb101 hg w20 hbox hb; have n0_ := Aside0.mk (below_step hb_ hb); have n1_ := Aside0.mk (hbox); have n2_ := Aside0.mk ((by rw [hg]; exact (below_size hb_) : w.heap.size ≤ gb101)); have n3_ := Aside0.mk ((by rw [hg]; exact (below_size hb_) : w.heap.size ≤ gb101)); clear HB; have HB := n0_; have BK101 := n1_; have GW101 := n2_; have GE101 := n3_; clear n0_ n1_ n2_ n3_; clear hb hbox hg) | ((with_reducible refine gate_dst (N := 5) rfl ?_); refine Kd.R_lit (Kd.int .i64) _ 3 ?hg (N := 5) ?hd (xs := ([3, 1, 1, 0, 0, 1] : List Int)) (inner := [.int .i64 3, .int .i64 1, .int .i64 1, .int .i64 0, .int .i64 0, .int .i64 1]) (ok := fun _ => True) (okp := fun _ => True) ?hr ?hp (fun _ hk => hk) trivial (Below.refl _ _) (Nat.le_refl _) (by simp) ?_; (case hd => rfl); (case hg => rfl); (case hr => first | (go_simp; done) | (go_simp; rfl)); (case hp => exact (Reps.one (show Kd.M (Kd.int .i64) _ _ _ 3 [.int .i64 3] from rfl) (Reps.one (show Kd.M (Kd.int .i64) _ _ _ 1 [.int .i64 1] from rfl) (Reps.one (show Kd.M (Kd.int .i64) _ _ _ 1 [.int .i64 1] from rfl) (Reps.one (show Kd.M (Kd.int .i64) _ _ _ 0 [.int .i64 0] from rfl) (Reps.one (show Kd.M (Kd.int .i64) _ _ _ 0 [.int .i64 0] from rfl) (Reps.one (show Kd.M (Kd.int .i64) _ _ _ 1 [.int .i64 1] from rfl) (Reps.none _ _)))))))); intro v103 w21 ho22 hb hg_ hnew_; clear hg_ hnew_; (first | rw [← Ny102.out] at ho22 | (simp only [Int.reduceToNat] at ho22; rw [← Ny102.out] at ho22)); have n0_ := Aside0.mk (Kd.R_lower ho22 (below_size (hs_ GE101.out))); have n1_ := Aside0.mk (blk_below (g := gb101) (o := .cells #[.int .i64 a0_0, .int .i64 a0_1, .int .i64 a0_2] 67 (0, 0)) (kx_ BK101.out) hb); have n2_ := Aside0.mk (below_step (hs_ GE101.out) hb); clear BK101; clear HB; have HO104 := n0_; have BK101 := n1_; have HB := n2_; clear n0_ n1_ n2_; clear hb ho22) | ((with_reducible refine gate_dst (N := 6) rfl ?_); refine Kd.R_lit (Kd.int .i64) _ 3 ?hg (N := 6) ?hd (xs := ([14, 7, 14, 100, 14, 14] : List Int)) (inner := [.int .i64 14, .int .i64 7, .int .i64 14, .int .i64 100, .int .i64 14, .int .i64 14]) (ok := fun _ => True) (okp := fun _ => True) ?hr ?hp (fun _ hk => hk) trivial (Below.refl _ _) (Nat.le_refl _) (by simp) ?_; (case hd => rfl); (case hg => rfl); (case hr => first | (go_simp; done) | (go_simp; rfl)); (case hp => exact (Reps.one (show Kd.M (Kd.int .i64) _ _ _ 14 [.int .i64 14] from rfl) (Reps.one (show Kd.M (Kd.int .i64) _ _ _ 7 [.int .i64 7] from rfl) (Reps.one (show Kd.M (Kd.int .i64) _ _ _ 14 [.int .i64 14] from rfl) (Reps.one (show Kd.M (Kd.int .i64) _ _ _ 100 [.int .i64 100] from rfl) (Reps.one (show Kd.M (Kd.int .i64) _ _ _ 14 [.int .i64 14] from rfl) (Reps.one (show Kd.M (Kd.int .i64) _ _ _ 14 [.int .i64 14] from rfl) (Reps.none _ _)))))))); intro v106 w23 ho24 hb hg_ hnew_; clear hg_ hnew_; (first | rw [← Ny105.out] at ho24 | (simp only [Int.reduceToNat] at ho24; rw [← Ny105.out] at ho24)); have n0_ := Aside0.mk (Kd.R_elder' (by (with_reducible repeat (first | apply rA | apply rN | apply rD)); exact HO104.out) (Kd.R_base ho24) hb); have n1_ := Aside0.mk (Kd.R_lower (Kd.R_new' ho24 (Kd.R_lt (by (with_reducible repeat (first | apply rA | apply rN | apply rD)); exact HO104.out))) (below_size (hs_ GE101.out))); have n2_ := Aside0.mk (blk_below (g := gb101) (o := .cells #[.int .i64 a0_0, .int .i64 a0_1, .int .i64 a0_2] 67 (0, 0)) (kx_ BK101.out) hb); have n3_ := Aside0.mk (below_step (hs_ GE101.out) hb); clear HO104; clear BK101; clear HB; have HO104 := n0_; have HO107 := n1_; have BK101 := n2_; have HB := n3_; clear n0_ n1_ n2_ n3_; clear hb ho24; have hcz25_0 : w23.cell? ⟨gb101, 0, none⟩ = some (.int .i64 a0_0) := (blk_cell BK101.out 0).trans rfl; have hcz25_1 : w23.cell? ⟨gb101, 1, none⟩ = some (.int .i64 a0_1) := (blk_cell BK101.out 1).trans rfl; have hcz25_2 : w23.cell? ⟨gb101, 2, none⟩ = some (.int .i64 a0_2) := (blk_cell BK101.out 2).trans rfl; have hfz25_0 := blk_frozen BK101.out 0; have hfz25_1 := blk_frozen BK101.out 1; have hfz25_2 := blk_frozen BK101.out 2) | (go_at_call 72; (with_reducible refine (impl_within.calls a0_0 0 5 true _ A2.out).mono ?_); rintro e w' ⟨rfl, ⟨nd, rfl⟩⟩; (try first | exact ⟨rfl, _, World.drewN_drewN _ _ _⟩ | exact ⟨rfl, _, Eq.trans (World.drewN_drewN _ _ _) (congrArg (World.drewN _) (Nat.add_assoc _ _ _))⟩); obtain ⟨Ao26, co26, eo26⟩ := Kd.R_slice HO104.out; subst eo26; have p109 : 0 ≤ (a0_0 : Int) := of_decide_eq_true (by assumption); have q109 : a0_0 < (y102.length : Int) := of_decide_eq_true (by assumption); obtain ⟨ad109, e109, hx109_0⟩ := Kd.at_int (Kd.R_reads' HO104.out).2.2 a0_0 p109 q109; cases e109; replace p109 := eq_true p109; replace q109 := eq_true q109; obtain ⟨Ao27, co27, eo27⟩ := Kd.R_slice HO107.out; subst eo27; have p110 : 0 ≤ (a0_0 : Int) := of_decide_eq_true (by assumption); have q110 : a0_0 < (y105.length : Int) := of_decide_eq_true (by assumption); obtain ⟨ad110, e110, hx110_0⟩ := Kd.at_int (Kd.R_reads' HO107.out).2.2 a0_0 p110 q110; cases e110; replace p110 := eq_true p110; replace q110 := eq_true q110) | (go_at_call 72; (with_reducible refine (impl_within.calls a0_1 (rd y102 a0_0) (rd y105 a0_0) true _ A7.out).mono ?_); rintro e w' ⟨rfl, ⟨nd, rfl⟩⟩; (try first | exact ⟨rfl, _, World.drewN_drewN _ _ _⟩ | exact ⟨rfl, _, Eq.trans (World.drewN_drewN _ _ _) (congrArg (World.drewN _) (Nat.add_assoc _ _ _))⟩)) | (go_at_call 72; (with_reducible refine (impl_within.calls a0_2 0 14 t112 _ A19.out).mono ?_); rintro e w' ⟨rfl, ⟨nd, rfl⟩⟩; (try first | exact ⟨rfl, _, World.drewN_drewN _ _ _⟩ | exact ⟨rfl, _, Eq.trans (World.drewN_drewN _ _ _) (congrArg (World.drewN _) (Nat.add_assoc _ _ _))⟩)))
        repeat (go_quiet (first | ((with_reducible refine gate_dst (N := 1) rfl ?_); refine box_event ?hg (N := 1) ?hd (cs := #[.int .i64 a0_0, .int .i64 a0_1, .int .i64 a0_2]) (t := 67) ?hr ?_; (case hd => rfl); (case hg => rfl); (case hr => first | (go_simp; done) | (go_simp; rfl)); intro gb101 hg w20 hbox hb; have n0_ := Aside0.mk (below_step hb_ hb); have n1_ := Aside0.mk (hbox); have n2_ := Aside0.mk ((by rw [hg]; exact (below_size hb_) : w.heap.size ≤ gb101)); have n3_ := Aside0.mk ((by rw [hg]; exact (below_size hb_) : w.heap.size ≤ gb101)); clear HB; have HB := n0_; have BK101 := n1_; have GW101 := n2_; have GE101 := n3_; clear n0_ n1_ n2_ n3_; clear hb hbox hg) | ((with_reducible refine gate_dst (N := 5) rfl ?_); refine Kd.R_lit (Kd.int .i64) _ 3 ?hg (N := 5) ?hd (xs := ([3, 1, 1, 0, 0, 1] : List Int)) (inner := [.int .i64 3, .int .i64 1, .int .i64 1, .int .i64 0, .int .i64 0, .int .i64 1]) (ok := fun _ => True) (okp := fun _ => True) ?hr ?hp (fun _ hk => hk) trivial (Below.refl _ _) (Nat.le_refl _) (by simp) ?_; (case hd => rfl); (case hg => rfl); (case hr => first | (go_simp; done) | (go_simp; rfl)); (case hp => exact (Reps.one (show Kd.M (Kd.int .i64) _ _ _ 3 [.int .i64 3] from rfl) (Reps.one (show Kd.M (Kd.int .i64) _ _ _ 1 [.int .i64 1] from rfl) (Reps.one (show Kd.M (Kd.int .i64) _ _ _ 1 [.int .i64 1] from rfl) (Reps.one (show Kd.M (Kd.int .i64) _ _ _ 0 [.int .i64 0] from rfl) (Reps.one (show Kd.M (Kd.int .i64) _ _ _ 0 [.int .i64 0] from rfl) (Reps.one (show Kd.M (Kd.int .i64) _ _ _ 1 [.int .i64 1] from rfl) (Reps.none _ _)))))))); intro v103 w21 ho22 hb hg_ hnew_; clear hg_ hnew_; (first | rw [← Ny102.out] at ho22 | (simp only [Int.reduceToNat] at ho22; rw [← Ny102.out] at ho22)); have n0_ := Aside0.mk (Kd.R_lower ho22 (below_size (hs_ GE101.out))); have n1_ := Aside0.mk (blk_below (g := gb101) (o := .cells #[.int .i64 a0_0, .int .i64 a0_1, .int .i64 a0_2] 67 (0, 0)) (kx_ BK101.out) hb); have n2_ := Aside0.mk (below_step (hs_ GE101.out) hb); clear BK101; clear HB; have HO104 := n0_; have BK101 := n1_; have HB := n2_; clear n0_ n1_ n2_; clear hb ho22) | ((with_reducible refine gate_dst (N := 6) rfl ?_); refine Kd.R_lit (Kd.int .i64) _ 3 ?hg (N := 6) ?hd (xs := ([14, 7, 14, 100, 14, 14] : List Int)) (inner := [.int .i64 14, .int .i64 7, .int .i64 14, .int .i64 100, .int .i64 14, .int .i64 14]) (ok := fun _ => True) (okp := fun _ => True) ?hr ?hp (fun _ hk => hk) trivial (Below.refl _ _) (Nat.le_refl _) (by simp) ?_; (case hd => rfl); (case hg => rfl); (case hr => first | (go_simp; done) | (go_simp; rfl)); (case hp => exact (Reps.one (show Kd.M (Kd.int .i64) _ _ _ 14 [.int .i64 14] from rfl) (Reps.one (show Kd.M (Kd.int .i64) _ _ _ 7 [.int .i64 7] from rfl) (Reps.one (show Kd.M (Kd.int .i64) _ _ _ 14 [.int .i64 14] from rfl) (Reps.one (show Kd.M (Kd.int .i64) _ _ _ 100 [.int .i64 100] from rfl) (Reps.one (show Kd.M (Kd.int .i64) _ _ _ 14 [.int .i64 14] from rfl) (Reps.one (show Kd.M (Kd.int .i64) _ _ _ 14 [.int .i64 14] from rfl) (Reps.none _ _)))))))); intro v106 w23 ho24 hb hg_ hnew_; clear hg_ hnew_; (first | rw [← Ny105.out] at ho24 | (simp only [Int.reduceToNat] at ho24; rw [← Ny105.out] at ho24)); have n0_ := Aside0.mk (Kd.R_elder' (by (with_reducible repeat (first | apply rA | apply rN | apply rD)); exact HO104.out) (Kd.R_base ho24) hb); have n1_ := Aside0.mk (Kd.R_lower (Kd.R_new' ho24 (Kd.R_lt (by (with_reducible repeat (first | apply rA | apply rN | apply rD)); exact HO104.out))) (below_size (hs_ GE101.out))); have n2_ := Aside0.mk (blk_below (g := gb101) (o := .cells #[.int .i64 a0_0, .int .i64 a0_1, .int .i64 a0_2] 67 (0, 0)) (kx_ BK101.out) hb); have n3_ := Aside0.mk (below_step (hs_ GE101.out) hb); clear HO104; clear BK101; clear HB; have HO104 := n0_; have HO107 := n1_; have BK101 := n2_; have HB := n3_; clear n0_ n1_ n2_ n3_; clear hb ho24; have hcz25_0 : w23.cell? ⟨gb101, 0, none⟩ = some (.int .i64 a0_0) := (blk_cell BK101.out 0).trans rfl; have hcz25_1 : w23.cell? ⟨gb101, 1, none⟩ = some (.int .i64 a0_1) := (blk_cell BK101.out 1).trans rfl; have hcz25_2 : w23.cell? ⟨gb101, 2, none⟩ = some (.int .i64 a0_2) := (blk_cell BK101.out 2).trans rfl; have hfz25_0 := blk_frozen BK101.out 0; have hfz25_1 := blk_frozen BK101.out 1; have hfz25_2 := blk_frozen BK101.out 2) | (go_at_call 72; (with_reducible refine (impl_within.calls a0_0 0 5 true _ A2.out).mono ?_); rintro e w' ⟨rfl, ⟨nd, rfl⟩⟩; (try first | exact ⟨rfl, _, World.drewN_drewN _ _ _⟩ | exact ⟨rfl, _, Eq.trans (World.drewN_drewN _ _ _) (congrArg (World.drewN _) (Nat.add_assoc _ _ _))⟩); obtain ⟨Ao26, co26, eo26⟩ := Kd.R_slice HO104.out; subst eo26; have p109 : 0 ≤ (a0_0 : Int) := of_decide_eq_true (by assumption); have q109 : a0_0 < (y102.length : Int) := of_decide_eq_true (by assumption); obtain ⟨ad109, e109, hx109_0⟩ := Kd.at_int (Kd.R_reads' HO104.out).2.2 a0_0 p109 q109; cases e109; replace p109 := eq_true p109; replace q109 := eq_true q109; obtain ⟨Ao27, co27, eo27⟩ := Kd.R_slice HO107.out; subst eo27; have p110 : 0 ≤ (a0_0 : Int) := of_decide_eq_true (by assumption); have q110 : a0_0 < (y105.length : Int) := of_decide_eq_true (by assumption); obtain ⟨ad110, e110, hx110_0⟩ := Kd.at_int (Kd.R_reads' HO107.out).2.2 a0_0 p110 q110; cases e110; replace p110 := eq_true p110; replace q110 := eq_true q110) | (go_at_call 72; (with_reducible refine (impl_within.calls a0_1 (rd y102 a0_0) (rd y105 a0_0) true _ A7.out).mono ?_); rintro e w' ⟨rfl, ⟨nd, rfl⟩⟩; (try first | exact ⟨rfl, _, World.drewN_drewN _ _ _⟩ | exact ⟨rfl, _, Eq.trans (World.drewN_drewN _ _ _) (congrArg (World.drewN _) (Nat.add_assoc _ _ _))⟩)) | (go_at_call 72; (with_reducible refine (impl_within.calls a0_2 0 14 t112 _ A19.out).mono ?_); rintro e w' ⟨rfl, ⟨nd, rfl⟩⟩; (try first | exact ⟨rfl, _, World.drewN_drewN _ _ _⟩ | exact ⟨rfl, _, Eq.trans (World.drewN_drewN _ _ _) (congrArg (World.drewN _) (Nat.add_assoc _ _ _))⟩))); try go_wp2_with (first | ((with_reducible refine gate_dst (N := 1) rfl ?_); refine box_event ?hg (N := 1) ?hd (cs := #[.int .i64 a0_0, .int .i64 a0_1, .int .i64 a0_2]) (t := 67) ?hr ?_; (case hd => rfl); (case hg => rfl); (case hr => first | (go_simp; done) | (go_simp; rfl)); intro gb101 hg w20 hbox hb; have n0_ := Aside0.mk (below_step hb_ hb); have n1_ := Aside0.mk (hbox); have n2_ := Aside0.mk ((by rw [hg]; exact (below_size hb_) : w.heap.size ≤ gb101)); have n3_ := Aside0.mk ((by rw [hg]; exact (below_size hb_) : w.heap.size ≤ gb101)); clear HB; have HB := n0_; have BK101 := n1_; have GW101 := n2_; have GE101 := n3_; clear n0_ n1_ n2_ n3_; clear hb hbox hg) | ((with_reducible refine gate_dst (N := 5) rfl ?_); refine Kd.R_lit (Kd.int .i64) _ 3 ?hg (N := 5) ?hd (xs := ([3, 1, 1, 0, 0, 1] : List Int)) (inner := [.int .i64 3, .int .i64 1, .int .i64 1, .int .i64 0, .int .i64 0, .int .i64 1]) (ok := fun _ => True) (okp := fun _ => True) ?hr ?hp (fun _ hk => hk) trivial (Below.refl _ _) (Nat.le_refl _) (by simp) ?_; (case hd => rfl); (case hg => rfl); (case hr => first | (go_simp; done) | (go_simp; rfl)); (case hp => exact (Reps.one (show Kd.M (Kd.int .i64) _ _ _ 3 [.int .i64 3] from rfl) (Reps.one (show Kd.M (Kd.int .i64) _ _ _ 1 [.int .i64 1] from rfl) (Reps.one (show Kd.M (Kd.int .i64) _ _ _ 1 [.int .i64 1] from rfl) (Reps.one (show Kd.M (Kd.int .i64) _ _ _ 0 [.int .i64 0] from rfl) (Reps.one (show Kd.M (Kd.int .i64) _ _ _ 0 [.int .i64 0] from rfl) (Reps.one (show Kd.M (Kd.int .i64) _ _ _ 1 [.int .i64 1] from rfl) (Reps.none _ _)))))))); intro v103 w21 ho22 hb hg_ hnew_; clear hg_ hnew_; (first | rw [← Ny102.out] at ho22 | (simp only [Int.reduceToNat] at ho22; rw [← Ny102.out] at ho22)); have n0_ := Aside0.mk (Kd.R_lower ho22 (below_size (hs_ GE101.out))); have n1_ := Aside0.mk (blk_below (g := gb101) (o := .cells #[.int .i64 a0_0, .int .i64 a0_1, .int .i64 a0_2] 67 (0, 0)) (kx_ BK101.out) hb); have n2_ := Aside0.mk (below_step (hs_ GE101.out) hb); clear BK101; clear HB; have HO104 := n0_; have BK101 := n1_; have HB := n2_; clear n0_ n1_ n2_; clear hb ho22) | ((with_reducible refine gate_dst (N := 6) rfl ?_); refine Kd.R_lit (Kd.int .i64) _ 3 ?hg (N := 6) ?hd (xs := ([14, 7, 14, 100, 14, 14] : List Int)) (inner := [.int .i64 14, .int .i64 7, .int .i64 14, .int .i64 100, .int .i64 14, .int .i64 14]) (ok := fun _ => True) (okp := fun _ => True) ?hr ?hp (fun _ hk => hk) trivial (Below.refl _ _) (Nat.le_refl _) (by simp) ?_; (case hd => rfl); (case hg => rfl); (case hr => first | (go_simp; done) | (go_simp; rfl)); (case hp => exact (Reps.one (show Kd.M (Kd.int .i64) _ _ _ 14 [.int .i64 14] from rfl) (Reps.one (show Kd.M (Kd.int .i64) _ _ _ 7 [.int .i64 7] from rfl) (Reps.one (show Kd.M (Kd.int .i64) _ _ _ 14 [.int .i64 14] from rfl) (Reps.one (show Kd.M (Kd.int .i64) _ _ _ 100 [.int .i64 100] from rfl) (Reps.one (show Kd.M (Kd.int .i64) _ _ _ 14 [.int .i64 14] from rfl) (Reps.one (show Kd.M (Kd.int .i64) _ _ _ 14 [.int .i64 14] from rfl) (Reps.none _ _)))))))); intro v106 w23 ho24 hb hg_ hnew_; clear hg_ hnew_; (first | rw [← Ny105.out] at ho24 | (simp only [Int.reduceToNat] at ho24; rw [← Ny105.out] at ho24)); have n0_ := Aside0.mk (Kd.R_elder' (by (with_reducible repeat (first | apply rA | apply rN | apply rD)); exact HO104.out) (Kd.R_base ho24) hb); have n1_ := Aside0.mk (Kd.R_lower (Kd.R_new' ho24 (Kd.R_lt (by (with_reducible repeat (first | apply rA | apply rN | apply rD)); exact HO104.out))) (below_size (hs_ GE101.out))); have n2_ := Aside0.mk (blk_below (g := gb101) (o := .cells #[.int .i64 a0_0, .int .i64 a0_1, .int .i64 a0_2] 67 (0, 0)) (kx_ BK101.out) hb); have n3_ := Aside0.mk (below_step (hs_ GE101.out) hb); clear HO104; clear BK101; clear HB; have HO104 := n0_; have HO107 := n1_; have BK101 := n2_; have HB := n3_; clear n0_ n1_ n2_ n3_; clear hb ho24; have hcz25_0 : w23.cell? ⟨gb101, 0, none⟩ = some (.int .i64 a0_0) := (blk_cell BK101.out 0).trans rfl; have hcz25_1 : w23.cell? ⟨gb101, 1, none⟩ = some (.int .i64 a0_1) := (blk_cell BK101.out 1).trans rfl; have hcz25_2 : w23.cell? ⟨gb101, 2, none⟩ = some (.int .i64 a0_2) := (blk_cell BK101.out 2).trans rfl; have hfz25_0 := blk_frozen BK101.out 0; have hfz25_1 := blk_frozen BK101.out 1; have hfz25_2 := blk_frozen BK101.out 2) | (go_at_call 72; (with_reducible refine (impl_within.calls a0_0 0 5 true _ A2.out).mono ?_); rintro e w' ⟨rfl, ⟨nd, rfl⟩⟩; (try first | exact ⟨rfl, _, World.drewN_drewN _ _ _⟩ | exact ⟨rfl, _, Eq.trans (World.drewN_drewN _ _ _) (congrArg (World.drewN _) (Nat.add_assoc _ _ _))⟩); obtain ⟨Ao26, co26, eo26⟩ := Kd.R_slice HO104.out; subst eo26; have p109 : 0 ≤ (a0_0 : Int) := of_decide_eq_true (by assumption); have q109 : a0_0 < (y102.length : Int) := of_decide_eq_true (by assumption); obtain ⟨ad109, e109, hx109_0⟩ := Kd.at_int (Kd.R_reads' HO104.out).2.2 a0_0 p109 q109; cases e109; replace p109 := eq_true p109; replace q109 := eq_true q109; obtain ⟨Ao27, co27, eo27⟩ := Kd.R_slice HO107.out; subst eo27; have p110 : 0 ≤ (a0_0 : Int) := of_decide_eq_true (by assumption); have q110 : a0_0 < (y105.length : Int) := of_decide_eq_true (by assumption); obtain ⟨ad110, e110, hx110_0⟩ := Kd.at_int (Kd.R_reads' HO107.out).2.2 a0_0 p110 q110; cases e110; replace p110 := eq_true p110; replace q110 := eq_true q110) | (go_at_call 72; (with_reducible refine (impl_within.calls a0_1 (rd y102 a0_0) (rd y105 a0_0) true _ A7.out).mono ?_); rintro e w' ⟨rfl, ⟨nd, rfl⟩⟩; (try first | exact ⟨rfl, _, World.drewN_drewN _ _ _⟩ | exact ⟨rfl, _, Eq.trans (World.drewN_drewN _ _ _) (congrArg (World.drewN _) (Nat.add_assoc _ _ _))⟩)) | (go_at_call 72; (with_reducible refine (impl_within.calls a0_2 0 14 t112 _ A19.out).mono ?_); rintro e w' ⟨rfl, ⟨nd, rfl⟩⟩; (try first | exact ⟨rfl, _, World.drewN_drewN _ _ _⟩ | exact ⟨rfl, _, Eq.trans (World.drewN_drewN _ _ _) (congrArg (World.drewN _) (Nat.add_assoc _ _ _))⟩))))
        go_ret
        exact ⟨by first | rfl | (simp [errW_none, errW_some] <;> rfl) | (simp [*, errW_none, errW_some] <;> rfl), hs_ GE101.out⟩
       ·rw [if_neg c18] at H
        have c18b0 : (a0_0 == 4) = false := beq_eq_false_iff_ne.mpr c18
        have c18b1 : (a0_0 != 4) = true := bne_iff_ne.mpr c18
        obtain rfl := oI H
        go_enter Try.func64, Try.ntmps64
        go_wp2_with (first | ((with_reducible refine gate_dst (N := 1) rfl ?_); refine box_event ?hg (N := 1) ?hd (cs := #[.int .i64 a0_0, .int .i64 a0_1, .int .i64 a0_2]) (t := 67) ?hr ?_; (case hd => rfl); (case hg => rfl); (case hr => first | (go_simp; done) | (go_simp; rfl)); intro gb101 hg w28 hbox hb; have n0_ := Aside0.mk (below_step hb_ hb); have n1_ := Aside0.mk (hbox); have n2_ := Aside0.mk ((by rw [hg]; exact (below_size hb_) : w.heap.size ≤ gb101)); have n3_ := Aside0.mk ((by rw [hg]; exact (below_size hb_) : w.heap.size ≤ gb101)); clear HB; have HB := n0_; have BK101 := n1_; have GW101 := n2_; have GE101 := n3_; clear n0_ n1_ n2_ n3_; clear hb hbox hg) | ((with_reducible refine gate_dst (N := 5) rfl ?_); refine Kd.R_lit (Kd.int .i64) _ 3 ?hg (N := 5) ?hd (xs := ([3, 1, 1, 0, 0, 1] : List Int)) (inner := [.int .i64 3, .int .i64 1, .int .i64 1, .int .i64 0, .int .i64 0, .int .i64 1]) (ok := fun _ => True) (okp := fun _ => True) ?hr ?hp (fun _ hk => hk) trivial (Below.refl _ _) (Nat.le_refl _) (by simp) ?_; (case hd => rfl); (case hg => rfl); (case hr => first | (go_simp; done) | (go_simp; rfl)); (case hp => exact (Reps.one (show Kd.M (Kd.int .i64) _ _ _ 3 [.int .i64 3] from rfl) (Reps.one (show Kd.M (Kd.int .i64) _ _ _ 1 [.int .i64 1] from rfl) (Reps.one (show Kd.M (Kd.int .i64) _ _ _ 1 [.int .i64 1] from rfl) (Reps.one (show Kd.M (Kd.int .i64) _ _ _ 0 [.int .i64 0] from rfl) (Reps.one (show Kd.M (Kd.int .i64) _ _ _ 0 [.int .i64 0] from rfl) (Reps.one (show Kd.M (Kd.int .i64) _ _ _ 1 [.int .i64 1] from rfl) (Reps.none _ _)))))))); intro v103 w29 ho30 hb hg_ hnew_; clear hg_ hnew_; (first | rw [← Ny102.out] at ho30 | (simp only [Int.reduceToNat] at ho30; rw [← Ny102.out] at ho30)); have n0_ := Aside0.mk (Kd.R_lower ho30 (below_size (hs_ GE101.out))); have n1_ := Aside0.mk (blk_below (g := gb101) (o := .cells #[.int .i64 a0_0, .int .i64 a0_1, .int .i64 a0_2] 67 (0, 0)) (kx_ BK101.out) hb); have n2_ := Aside0.mk (below_step (hs_ GE101.out) hb); clear BK101; clear HB; have HO104 := n0_; have BK101 := n1_; have HB := n2_; clear n0_ n1_ n2_; clear hb ho30) | ((with_reducible refine gate_dst (N := 6) rfl ?_); refine Kd.R_lit (Kd.int .i64) _ 3 ?hg (N := 6) ?hd (xs := ([14, 7, 14, 100, 14, 14] : List Int)) (inner := [.int .i64 14, .int .i64 7, .int .i64 14, .int .i64 100, .int .i64 14, .int .i64 14]) (ok := fun _ => True) (okp := fun _ => True) ?hr ?hp (fun _ hk => hk) trivial (Below.refl _ _) (Nat.le_refl _) (by simp) ?_; (case hd => rfl); (case hg => rfl); (case hr => first | (go_simp; done) | (go_simp; rfl)); (case hp => exact (Reps.one (show Kd.M (Kd.int .i64) _ _ _ 14 [.int .i64 14] from rfl) (Reps.one (show Kd.M (Kd.int .i64) _ _ _ 7 [.int .i64 7] from rfl) (Reps.one (show Kd.M (Kd.int .i64) _ _ _ 14 [.int .i64 14] from rfl) (Reps.one (show Kd.M (Kd.int .i64) _ _ _ 100 [.int .i64 100] from rfl) (Reps.one (show Kd.M (Kd.int .i64) _ _ _ 14 [.int .i64 14] from rfl) (Reps.one (show Kd.M (Kd.int .i64) _ _ _ 14 [.int .i64 14] from rfl) (Reps.none _ _)))))))); intro v106 w31 ho32 hb hg_ hnew_; clear hg_ hnew_; (first | rw [← Ny105.out] at ho32 | (simp only [Int.reduceToNat] at ho32; rw [← Ny105.out] at ho32)); have n0_ := Aside0.mk (Kd.R_elder' (by (with_reducible repeat (first | apply rA | apply rN | apply rD)); exact HO104.out) (Kd.R_base ho32) hb); have n1_ := Aside0.mk (Kd.R_lower (Kd.R_new' ho32 (Kd.R_lt (by (with_reducible repeat (first | apply rA | apply rN | apply rD)); exact HO104.out))) (below_size (hs_ GE101.out))); have n2_ := Aside0.mk (blk_below (g := gb101) (o := .cells #[.int .i64 a0_0, .int .i64 a0_1, .int .i64 a0_2] 67 (0, 0)) (kx_ BK101.out) hb); have n3_ := Aside0.mk (below_step (hs_ GE101.out) hb); clear HO104; clear BK101; clear HB; have HO104 := n0_; have HO107 := n1_; have BK101 := n2_; have HB := n3_; clear n0_ n1_ n2_ n3_; clear hb ho32; have hcz33_0 : w31.cell? ⟨gb101, 0, none⟩ = some (.int .i64 a0_0) := (blk_cell BK101.out 0).trans rfl; have hcz33_1 : w31.cell? ⟨gb101, 1, none⟩ = some (.int .i64 a0_1) := (blk_cell BK101.out 1).trans rfl; have hcz33_2 : w31.cell? ⟨gb101, 2, none⟩ = some (.int .i64 a0_2) := (blk_cell BK101.out 2).trans rfl; have hfz33_0 := blk_frozen BK101.out 0; have hfz33_1 := blk_frozen BK101.out 1; have hfz33_2 := blk_frozen BK101.out 2) | (go_at_call 72; (with_reducible refine (impl_within.calls a0_0 0 5 true _ A2.out).mono ?_); rintro e w' ⟨rfl, ⟨nd, rfl⟩⟩; (try first | exact ⟨rfl, _, World.drewN_drewN _ _ _⟩ | exact ⟨rfl, _, Eq.trans (World.drewN_drewN _ _ _) (congrArg (World.drewN _) (Nat.add_assoc _ _ _))⟩); obtain ⟨Ao34, co34, eo34⟩ := Kd.R_slice HO104.out; subst eo34; have p109 : 0 ≤ (a0_0 : Int) := of_decide_eq_true (by assumption); have q109 : a0_0 < (y102.length : Int) := of_decide_eq_true (by assumption); obtain ⟨ad109, e109, hx109_0⟩ := Kd.at_int (Kd.R_reads' HO104.out).2.2 a0_0 p109 q109; cases e109; replace p109 := eq_true p109; replace q109 := eq_true q109; obtain ⟨Ao35, co35, eo35⟩ := Kd.R_slice HO107.out; subst eo35; have p110 : 0 ≤ (a0_0 : Int) := of_decide_eq_true (by assumption); have q110 : a0_0 < (y105.length : Int) := of_decide_eq_true (by assumption); obtain ⟨ad110, e110, hx110_0⟩ := Kd.at_int (Kd.R_reads' HO107.out).2.2 a0_0 p110 q110; cases e110; replace p110 := eq_true p110; replace q110 := eq_true q110) | (go_at_call 72; (with_reducible refine (impl_within.calls a0_1 (rd y102 a0_0) (rd y105 a0_0) true _ A7.out).mono ?_); rintro e w' ⟨rfl, ⟨nd, rfl⟩⟩; (try first | exact ⟨rfl, _, World.drewN_drewN _ _ _⟩ | exact ⟨rfl, _, Eq.trans (World.drewN_drewN _ _ _) (congrArg (World.drewN _) (Nat.add_assoc _ _ _))⟩)))
        repeat (go_quiet (first | ((with_reducible refine gate_dst (N := 1) rfl ?_); refine box_event ?hg (N := 1) ?hd (cs := #[.int .i64 a0_0, .int .i64 a0_1, .int .i64 a0_2]) (t := 67) ?hr ?_; (case hd => rfl); (case hg => rfl); (case hr => first | (go_simp; done) | (go_simp; rfl)); intro gb101 hg w28 hbox hb; have n0_ := Aside0.mk (below_step hb_ hb); have n1_ := Aside0.mk (hbox); have n2_ := Aside0.mk ((by rw [hg]; exact (below_size hb_) : w.heap.size ≤ gb101)); have n3_ := Aside0.mk ((by rw [hg]; exact (below_size hb_) : w.heap.size ≤ gb101)); clear HB; have HB := n0_; have BK101 := n1_; have GW101 := n2_; have GE101 := n3_; clear n0_ n1_ n2_ n3_; clear hb hbox hg) | ((with_reducible refine gate_dst (N := 5) rfl ?_); refine Kd.R_lit (Kd.int .i64) _ 3 ?hg (N := 5) ?hd (xs := ([3, 1, 1, 0, 0, 1] : List Int)) (inner := [.int .i64 3, .int .i64 1, .int .i64 1, .int .i64 0, .int .i64 0, .int .i64 1]) (ok := fun _ => True) (okp := fun _ => True) ?hr ?hp (fun _ hk => hk) trivial (Below.refl _ _) (Nat.le_refl _) (by simp) ?_; (case hd => rfl); (case hg => rfl); (case hr => first | (go_simp; done) | (go_simp; rfl)); (case hp => exact (Reps.one (show Kd.M (Kd.int .i64) _ _ _ 3 [.int .i64 3] from rfl) (Reps.one (show Kd.M (Kd.int .i64) _ _ _ 1 [.int .i64 1] from rfl) (Reps.one (show Kd.M (Kd.int .i64) _ _ _ 1 [.int .i64 1] from rfl) (Reps.one (show Kd.M (Kd.int .i64) _ _ _ 0 [.int .i64 0] from rfl) (Reps.one (show Kd.M (Kd.int .i64) _ _ _ 0 [.int .i64 0] from rfl) (Reps.one (show Kd.M (Kd.int .i64) _ _ _ 1 [.int .i64 1] from rfl) (Reps.none _ _)))))))); intro v103 w29 ho30 hb hg_ hnew_; clear hg_ hnew_; (first | rw [← Ny102.out] at ho30 | (simp only [Int.reduceToNat] at ho30; rw [← Ny102.out] at ho30)); have n0_ := Aside0.mk (Kd.R_lower ho30 (below_size (hs_ GE101.out))); have n1_ := Aside0.mk (blk_below (g := gb101) (o := .cells #[.int .i64 a0_0, .int .i64 a0_1, .int .i64 a0_2] 67 (0, 0)) (kx_ BK101.out) hb); have n2_ := Aside0.mk (below_step (hs_ GE101.out) hb); clear BK101; clear HB; have HO104 := n0_; have BK101 := n1_; have HB := n2_; clear n0_ n1_ n2_; clear hb ho30) | ((with_reducible refine gate_dst (N := 6) rfl ?_); refine Kd.R_lit (Kd.int .i64) _ 3 ?hg (N := 6) ?hd (xs := ([14, 7, 14, 100, 14, 14] : List Int)) (inner := [.int .i64 14, .int .i64 7, .int .i64 14, .int .i64 100, .int .i64 14, .int .i64 14]) (ok := fun _ => True) (okp := fun _ => True) ?hr ?hp (fun _ hk => hk) trivial (Below.refl _ _) (Nat.le_refl _) (by simp) ?_; (case hd => rfl); (case hg => rfl); (case hr => first | (go_simp; done) | (go_simp; rfl)); (case hp => exact (Reps.one (show Kd.M (Kd.int .i64) _ _ _ 14 [.int .i64 14] from rfl) (Reps.one (show Kd.M (Kd.int .i64) _ _ _ 7 [.int .i64 7] from rfl) (Reps.one (show Kd.M (Kd.int .i64) _ _ _ 14 [.int .i64 14] from rfl) (Reps.one (show Kd.M (Kd.int .i64) _ _ _ 100 [.int .i64 100] from rfl) (Reps.one (show Kd.M (Kd.int .i64) _ _ _ 14 [.int .i64 14] from rfl) (Reps.one (show Kd.M (Kd.int .i64) _ _ _ 14 [.int .i64 14] from rfl) (Reps.none _ _)))))))); intro v106 w31 ho32 hb hg_ hnew_; clear hg_ hnew_; (first | rw [← Ny105.out] at ho32 | (simp only [Int.reduceToNat] at ho32; rw [← Ny105.out] at ho32)); have n0_ := Aside0.mk (Kd.R_elder' (by (with_reducible repeat (first | apply rA | apply rN | apply rD)); exact HO104.out) (Kd.R_base ho32) hb); have n1_ := Aside0.mk (Kd.R_lower (Kd.R_new' ho32 (Kd.R_lt (by (with_reducible repeat (first | apply rA | apply rN | apply rD)); exact HO104.out))) (below_size (hs_ GE101.out))); have n2_ := Aside0.mk (blk_below (g := gb101) (o := .cells #[.int .i64 a0_0, .int .i64 a0_1, .int .i64 a0_2] 67 (0, 0)) (kx_ BK101.out) hb); have n3_ := Aside0.mk (below_step (hs_ GE101.out) hb); clear HO104; clear BK101; clear HB; have HO104 := n0_; have HO107 := n1_; have BK101 := n2_; have HB := n3_; clear n0_ n1_ n2_ n3_; clear hb ho32; have hcz33_0 : w31.cell? ⟨gb101, 0, none⟩ = some (.int .i64 a0_0) := (blk_cell BK101.out 0).trans rfl; have hcz33_1 : w31.cell? ⟨gb101, 1, none⟩ = some (.int .i64 a0_1) := (blk_cell BK101.out 1).trans rfl; have hcz33_2 : w31.cell? ⟨gb101, 2, none⟩ = some (.int .i64 a0_2) := (blk_cell BK101.out 2).trans rfl; have hfz33_0 := blk_frozen BK101.out 0; have hfz33_1 := blk_frozen BK101.out 1; have hfz33_2 := blk_frozen BK101.out 2) | (go_at_call 72; (with_reducible refine (impl_within.calls a0_0 0 5 true _ A2.out).mono ?_); rintro e w' ⟨rfl, ⟨nd, rfl⟩⟩; (try first | exact ⟨rfl, _, World.drewN_drewN _ _ _⟩ | exact ⟨rfl, _, Eq.trans (World.drewN_drewN _ _ _) (congrArg (World.drewN _) (Nat.add_assoc _ _ _))⟩); obtain ⟨Ao34, co34, eo34⟩ := Kd.R_slice HO104.out; subst eo34; have p109 : 0 ≤ (a0_0 : Int) := of_decide_eq_true (by assumption); have q109 : a0_0 < (y102.length : Int) := of_decide_eq_true (by assumption); obtain ⟨ad109, e109, hx109_0⟩ := Kd.at_int (Kd.R_reads' HO104.out).2.2 a0_0 p109 q109; cases e109; replace p109 := eq_true p109; replace q109 := eq_true q109; obtain ⟨Ao35, co35, eo35⟩ := Kd.R_slice HO107.out; subst eo35; have p110 : 0 ≤ (a0_0 : Int) := of_decide_eq_true (by assumption); have q110 : a0_0 < (y105.length : Int) := of_decide_eq_true (by assumption); obtain ⟨ad110, e110, hx110_0⟩ := Kd.at_int (Kd.R_reads' HO107.out).2.2 a0_0 p110 q110; cases e110; replace p110 := eq_true p110; replace q110 := eq_true q110) | (go_at_call 72; (with_reducible refine (impl_within.calls a0_1 (rd y102 a0_0) (rd y105 a0_0) true _ A7.out).mono ?_); rintro e w' ⟨rfl, ⟨nd, rfl⟩⟩; (try first | exact ⟨rfl, _, World.drewN_drewN _ _ _⟩ | exact ⟨rfl, _, Eq.trans (World.drewN_drewN _ _ _) (congrArg (World.drewN _) (Nat.add_assoc _ _ _))⟩))); try go_wp2_with (first | ((with_reducible refine gate_dst (N := 1) rfl ?_); refine box_event ?hg (N := 1) ?hd (cs := #[.int .i64 a0_0, .int .i64 a0_1, .int .i64 a0_2]) (t := 67) ?hr ?_; (case hd => rfl); (case hg => rfl); (case hr => first | (go_simp; done) | (go_simp; rfl)); intro gb101 hg w28 hbox hb; have n0_ := Aside0.mk (below_step hb_ hb); have n1_ := Aside0.mk (hbox); have n2_ := Aside0.mk ((by rw [hg]; exact (below_size hb_) : w.heap.size ≤ gb101)); have n3_ := Aside0.mk ((by rw [hg]; exact (below_size hb_) : w.heap.size ≤ gb101)); clear HB; have HB := n0_; have BK101 := n1_; have GW101 := n2_; have GE101 := n3_; clear n0_ n1_ n2_ n3_; clear hb hbox hg) | ((with_reducible refine gate_dst (N := 5) rfl ?_); refine Kd.R_lit (Kd.int .i64) _ 3 ?hg (N := 5) ?hd (xs := ([3, 1, 1, 0, 0, 1] : List Int)) (inner := [.int .i64 3, .int .i64 1, .int .i64 1, .int .i64 0, .int .i64 0, .int .i64 1]) (ok := fun _ => True) (okp := fun _ => True) ?hr ?hp (fun _ hk => hk) trivial (Below.refl _ _) (Nat.le_refl _) (by simp) ?_; (case hd => rfl); (case hg => rfl); (case hr => first | (go_simp; done) | (go_simp; rfl)); (case hp => exact (Reps.one (show Kd.M (Kd.int .i64) _ _ _ 3 [.int .i64 3] from rfl) (Reps.one (show Kd.M (Kd.int .i64) _ _ _ 1 [.int .i64 1] from rfl) (Reps.one (show Kd.M (Kd.int .i64) _ _ _ 1 [.int .i64 1] from rfl) (Reps.one (show Kd.M (Kd.int .i64) _ _ _ 0 [.int .i64 0] from rfl) (Reps.one (show Kd.M (Kd.int .i64) _ _ _ 0 [.int .i64 0] from rfl) (Reps.one (show Kd.M (Kd.int .i64) _ _ _ 1 [.int .i64 1] from rfl) (Reps.none _ _)))))))); intro v103 w29 ho30 hb hg_ hnew_; clear hg_ hnew_; (first | rw [← Ny102.out] at ho30 | (simp only [Int.reduceToNat] at ho30; rw [← Ny102.out] at ho30)); have n0_ := Aside0.mk (Kd.R_lower ho30 (below_size (hs_ GE101.out))); have n1_ := Aside0.mk (blk_below (g := gb101) (o := .cells #[.int .i64 a0_0, .int .i64 a0_1, .int .i64 a0_2] 67 (0, 0)) (kx_ BK101.out) hb); have n2_ := Aside0.mk (below_step (hs_ GE101.out) hb); clear BK101; clear HB; have HO104 := n0_; have BK101 := n1_; have HB := n2_; clear n0_ n1_ n2_; clear hb ho30) | ((with_reducible refine gate_dst (N := 6) rfl ?_); refine Kd.R_lit (Kd.int .i64) _ 3 ?hg (N := 6) ?hd (xs := ([14, 7, 14, 100, 14, 14] : List Int)) (inner := [.int .i64 14, .int .i64 7, .int .i64 14, .int .i64 100, .int .i64 14, .int .i64 14]) (ok := fun _ => True) (okp := fun _ => True) ?hr ?hp (fun _ hk => hk) trivial (Below.refl _ _) (Nat.le_refl _) (by simp) ?_; (case hd => rfl); (case hg => rfl); (case hr => first | (go_simp; done) | (go_simp; rfl)); (case hp => exact (Reps.one (show Kd.M (Kd.int .i64) _ _ _ 14 [.int .i64 14] from rfl) (Reps.one (show Kd.M (Kd.int .i64) _ _ _ 7 [.int .i64 7] from rfl) (Reps.one (show Kd.M (Kd.int .i64) _ _ _ 14 [.int .i64 14] from rfl) (Reps.one (show Kd.M (Kd.int .i64) _ _ _ 100 [.int .i64 100] from rfl) (Reps.one (show Kd.M (Kd.int .i64) _ _ _ 14 [.int .i64 14] from rfl) (Reps.one (show Kd.M (Kd.int .i64) _ _ _ 14 [.int .i64 14] from rfl) (Reps.none _ _)))))))); intro v106 w31 ho32 hb hg_ hnew_; clear hg_ hnew_; (first | rw [← Ny105.out] at ho32 | (simp only [Int.reduceToNat] at ho32; rw [← Ny105.out] at ho32)); have n0_ := Aside0.mk (Kd.R_elder' (by (with_reducible repeat (first | apply rA | apply rN | apply rD)); exact HO104.out) (Kd.R_base ho32) hb); have n1_ := Aside0.mk (Kd.R_lower (Kd.R_new' ho32 (Kd.R_lt (by (with_reducible repeat (first | apply rA | apply rN | apply rD)); exact HO104.out))) (below_size (hs_ GE101.out))); have n2_ := Aside0.mk (blk_below (g := gb101) (o := .cells #[.int .i64 a0_0, .int .i64 a0_1, .int .i64 a0_2] 67 (0, 0)) (kx_ BK101.out) hb); have n3_ := Aside0.mk (below_step (hs_ GE101.out) hb); clear HO104; clear BK101; clear HB; have HO104 := n0_; have HO107 := n1_; have BK101 := n2_; have HB := n3_; clear n0_ n1_ n2_ n3_; clear hb ho32; have hcz33_0 : w31.cell? ⟨gb101, 0, none⟩ = some (.int .i64 a0_0) := (blk_cell BK101.out 0).trans rfl; have hcz33_1 : w31.cell? ⟨gb101, 1, none⟩ = some (.int .i64 a0_1) := (blk_cell BK101.out 1).trans rfl; have hcz33_2 : w31.cell? ⟨gb101, 2, none⟩ = some (.int .i64 a0_2) := (blk_cell BK101.out 2).trans rfl; have hfz33_0 := blk_frozen BK101.out 0; have hfz33_1 := blk_frozen BK101.out 1; have hfz33_2 := blk_frozen BK101.out 2) | (go_at_call 72; (with_reducible refine (impl_within.calls a0_0 0 5 true _ A2.out).mono ?_); rintro e w' ⟨rfl, ⟨nd, rfl⟩⟩; (try first | exact ⟨rfl, _, World.drewN_drewN _ _ _⟩ | exact ⟨rfl, _, Eq.trans (World.drewN_drewN _ _ _) (congrArg (World.drewN _) (Nat.add_assoc _ _ _))⟩); obtain ⟨Ao34, co34, eo34⟩ := Kd.R_slice HO104.out; subst eo34; have p109 : 0 ≤ (a0_0 : Int) := of_decide_eq_true (by assumption); have q109 : a0_0 < (y102.length : Int) := of_decide_eq_true (by assumption); obtain ⟨ad109, e109, hx109_0⟩ := Kd.at_int (Kd.R_reads' HO104.out).2.2 a0_0 p109 q109; cases e109; replace p109 := eq_true p109; replace q109 := eq_true q109; obtain ⟨Ao35, co35, eo35⟩ := Kd.R_slice HO107.out; subst eo35; have p110 : 0 ≤ (a0_0 : Int) := of_decide_eq_true (by assumption); have q110 : a0_0 < (y105.length : Int) := of_decide_eq_true (by assumption); obtain ⟨ad110, e110, hx110_0⟩ := Kd.at_int (Kd.R_reads' HO107.out).2.2 a0_0 p110 q110; cases e110; replace p110 := eq_true p110; replace q110 := eq_true q110) | (go_at_call 72; (with_reducible refine (impl_within.calls a0_1 (rd y102 a0_0) (rd y105 a0_0) true _ A7.out).mono ?_); rintro e w' ⟨rfl, ⟨nd, rfl⟩⟩; (try first | exact ⟨rfl, _, World.drewN_drewN _ _ _⟩ | exact ⟨rfl, _, Eq.trans (World.drewN_drewN _ _ _) (congrArg (World.drewN _) (Nat.add_assoc _ _ _))⟩))))
        go_ret
        exact ⟨by first | rfl | (simp [errW_none, errW_some] <;> rfl) | (simp [*, errW_none, errW_some] <;> rfl), hs_ GE101.out⟩
     ·replace c8 := Bool.eq_false_iff.mpr c8
      subst c8
      have H1 : (some false) = some r := by rw [if_neg (show ¬ (false = true) by decide)] at H; exact H
      clear H
      have H := H1
      clear H1
      obtain rfl := oI H
      go_enter Try.func64, Try.ntmps64
      go_wp2_with (first | ((with_reducible refine gate_dst (N := 1) rfl ?_); refine box_event ?hg (N := 1) ?hd (cs := #[.int .i64 a0_0, .int .i64 a0_1, .int .i64 a0_2]) (t := 67) ?hr ?_; (case hd => rfl); (case hg => rfl); (case hr => first | (go_simp; done) | (go_simp; rfl)); intro gb101 hg w36 hbox hb; have n0_ := Aside0.mk (below_step hb_ hb); have n1_ := Aside0.mk (hbox); have n2_ := Aside0.mk ((by rw [hg]; exact (below_size hb_) : w.heap.size ≤ gb101)); have n3_ := Aside0.mk ((by rw [hg]; exact (below_size hb_) : w.heap.size ≤ gb101)); clear HB; have HB := n0_; have BK101 := n1_; have GW101 := n2_; have GE101 := n3_; clear n0_ n1_ n2_ n3_; clear hb hbox hg) | ((with_reducible refine gate_dst (N := 5) rfl ?_); refine Kd.R_lit (Kd.int .i64) _ 3 ?hg (N := 5) ?hd (xs := ([3, 1, 1, 0, 0, 1] : List Int)) (inner := [.int .i64 3, .int .i64 1, .int .i64 1, .int .i64 0, .int .i64 0, .int .i64 1]) (ok := fun _ => True) (okp := fun _ => True) ?hr ?hp (fun _ hk => hk) trivial (Below.refl _ _) (Nat.le_refl _) (by simp) ?_; (case hd => rfl); (case hg => rfl); (case hr => first | (go_simp; done) | (go_simp; rfl)); (case hp => exact (Reps.one (show Kd.M (Kd.int .i64) _ _ _ 3 [.int .i64 3] from rfl) (Reps.one (show Kd.M (Kd.int .i64) _ _ _ 1 [.int .i64 1] from rfl) (Reps.one (show Kd.M (Kd.int .i64) _ _ _ 1 [.int .i64 1] from rfl) (Reps.one (show Kd.M (Kd.int .i64) _ _ _ 0 [.int .i64 0] from rfl) (Reps.one (show Kd.M (Kd.int .i64) _ _ _ 0 [.int .i64 0] from rfl) (Reps.one (show Kd.M (Kd.int .i64) _ _ _ 1 [.int .i64 1] from rfl) (Reps.none _ _)))))))); intro v103 w37 ho38 hb hg_ hnew_; clear hg_ hnew_; (first | rw [← Ny102.out] at ho38 | (simp only [Int.reduceToNat] at ho38; rw [← Ny102.out] at ho38)); have n0_ := Aside0.mk (Kd.R_lower ho38 (below_size (hs_ GE101.out))); have n1_ := Aside0.mk (blk_below (g := gb101) (o := .cells #[.int .i64 a0_0, .int .i64 a0_1, .int .i64 a0_2] 67 (0, 0)) (kx_ BK101.out) hb); have n2_ := Aside0.mk (below_step (hs_ GE101.out) hb); clear BK101; clear HB; have HO104 := n0_; have BK101 := n1_; have HB := n2_; clear n0_ n1_ n2_; clear hb ho38) | ((with_reducible refine gate_dst (N := 6) rfl ?_); refine Kd.R_lit (Kd.int .i64) _ 3 ?hg (N := 6) ?hd (xs := ([14, 7, 14, 100, 14, 14] : List Int)) (inner := [.int .i64 14, .int .i64 7, .int .i64 14, .int .i64 100, .int .i64 14, .int .i64 14]) (ok := fun _ => True) (okp := fun _ => True) ?hr ?hp (fun _ hk => hk) trivial (Below.refl _ _) (Nat.le_refl _) (by simp) ?_; (case hd => rfl); (case hg => rfl); (case hr => first | (go_simp; done) | (go_simp; rfl)); (case hp => exact (Reps.one (show Kd.M (Kd.int .i64) _ _ _ 14 [.int .i64 14] from rfl) (Reps.one (show Kd.M (Kd.int .i64) _ _ _ 7 [.int .i64 7] from rfl) (Reps.one (show Kd.M (Kd.int .i64) _ _ _ 14 [.int .i64 14] from rfl) (Reps.one (show Kd.M (Kd.int .i64) _ _ _ 100 [.int .i64 100] from rfl) (Reps.one (show Kd.M (Kd.int .i64) _ _ _ 14 [.int .i64 14] from rfl) (Reps.one (show Kd.M (Kd.int .i64) _ _ _ 14 [.int .i64 14] from rfl) (Reps.none _ _)))))))); intro v106 w39 ho40 hb hg_ hnew_; clear hg_ hnew_; (first | rw [← Ny105.out] at ho40 | (simp only [Int.reduceToNat] at ho40; rw [← Ny105.out] at ho40)); have n0_ := Aside0.mk (Kd.R_elder' (by (with_reducible repeat (first | apply rA | apply rN | apply rD)); exact HO104.out) (Kd.R_base ho40) hb); have n1_ := Aside0.mk (Kd.R_lower (Kd.R_new' ho40 (Kd.R_lt (by (with_reducible repeat (first | apply rA | apply rN | apply rD)); exact HO104.out))) (below_size (hs_ GE101.out))); have n2_ := Aside0.mk (blk_below (g := gb101) (o := .cells #[.int .i64 a0_0, .int .i64 a0_1, .int .i64 a0_2] 67 (0, 0)) (kx_ BK101.out) hb); have n3_ := Aside0.mk (below_step (hs_ GE101.out) hb); clear HO104; clear BK101; clear HB; have HO104 := n0_; have HO107 := n1_; have BK101 := n2_; have HB := n3_; clear n0_ n1_ n2_ n3_; clear hb ho40; have hcz41_0 : w39.cell? ⟨gb101, 0, none⟩ = some (.int .i64 a0_0) := (blk_cell BK101.out 0).trans rfl; have hcz41_1 : w39.cell? ⟨gb101, 1, none⟩ = some (.int .i64 a0_1) := (blk_cell BK101.out 1).trans rfl; have hcz41_2 : w39.cell? ⟨gb101, 2, none⟩ = some (.int .i64 a0_2) := (blk_cell BK101.out 2).trans rfl; have hfz41_0 := blk_frozen BK101.out 0; have hfz41_1 := blk_frozen BK101.out 1; have hfz41_2 := blk_frozen BK101.out 2) | (go_at_call 72; (with_reducible refine (impl_within.calls a0_0 0 5 true _ A2.out).mono ?_); rintro e w' ⟨rfl, ⟨nd, rfl⟩⟩; (try first | exact ⟨rfl, _, World.drewN_drewN _ _ _⟩ | exact ⟨rfl, _, Eq.trans (World.drewN_drewN _ _ _) (congrArg (World.drewN _) (Nat.add_assoc _ _ _))⟩); obtain ⟨Ao42, co42, eo42⟩ := Kd.R_slice HO104.out; subst eo42; have p109 : 0 ≤ (a0_0 : Int) := of_decide_eq_true (by assumption); have q109 : a0_0 < (y102.length : Int) := of_decide_eq_true (by assumption); obtain ⟨ad109, e109, hx109_0⟩ := Kd.at_int (Kd.R_reads' HO104.out).2.2 a0_0 p109 q109; cases e109; replace p109 := eq_true p109; replace q109 := eq_true q109; obtain ⟨Ao43, co43, eo43⟩ := Kd.R_slice HO107.out; subst eo43; have p110 : 0 ≤ (a0_0 : Int) := of_decide_eq_true (by assumption); have q110 : a0_0 < (y105.length : Int) := of_decide_eq_true (by assumption); obtain ⟨ad110, e110, hx110_0⟩ := Kd.at_int (Kd.R_reads' HO107.out).2.2 a0_0 p110 q110; cases e110; replace p110 := eq_true p110; replace q110 := eq_true q110) | (go_at_call 72; (with_reducible refine (impl_within.calls a0_1 (rd y102 a0_0) (rd y105 a0_0) false _ A7.out).mono ?_); rintro e w' ⟨rfl, ⟨nd, rfl⟩⟩; (try first | exact ⟨rfl, _, World.drewN_drewN _ _ _⟩ | exact ⟨rfl, _, Eq.trans (World.drewN_drewN _ _ _) (congrArg (World.drewN _) (Nat.add_assoc _ _ _))⟩)))
      repeat (go_quiet (first | ((with_reducible refine gate_dst (N := 1) rfl ?_); refine box_event ?hg (N := 1) ?hd (cs := #[.int .i64 a0_0, .int .i64 a0_1, .int .i64 a0_2]) (t := 67) ?hr ?_; (case hd => rfl); (case hg => rfl); (case hr => first | (go_simp; done) | (go_simp; rfl)); intro gb101 hg w36 hbox hb; have n0_ := Aside0.mk (below_step hb_ hb); have n1_ := Aside0.mk (hbox); have n2_ := Aside0.mk ((by rw [hg]; exact (below_size hb_) : w.heap.size ≤ gb101)); have n3_ := Aside0.mk ((by rw [hg]; exact (below_size hb_) : w.heap.size ≤ gb101)); clear HB; have HB := n0_; have BK101 := n1_; have GW101 := n2_; have GE101 := n3_; clear n0_ n1_ n2_ n3_; clear hb hbox hg) | ((with_reducible refine gate_dst (N := 5) rfl ?_); refine Kd.R_lit (Kd.int .i64) _ 3 ?hg (N := 5) ?hd (xs := ([3, 1, 1, 0, 0, 1] : List Int)) (inner := [.int .i64 3, .int .i64 1, .int .i64 1, .int .i64 0, .int .i64 0, .int .i64 1]) (ok := fun _ => True) (okp := fun _ => True) ?hr ?hp (fun _ hk => hk) trivial (Below.refl _ _) (Nat.le_refl _) (by simp) ?_; (case hd => rfl); (case hg => rfl); (case hr => first | (go_simp; done) | (go_simp; rfl)); (case hp => exact (Reps.one (show Kd.M (Kd.int .i64) _ _ _ 3 [.int .i64 3] from rfl) (Reps.one (show Kd.M (Kd.int .i64) _ _ _ 1 [.int .i64 1] from rfl) (Reps.one (show Kd.M (Kd.int .i64) _ _ _ 1 [.int .i64 1] from rfl) (Reps.one (show Kd.M (Kd.int .i64) _ _ _ 0 [.int .i64 0] from rfl) (Reps.one (show Kd.M (Kd.int .i64) _ _ _ 0 [.int .i64 0] from rfl) (Reps.one (show Kd.M (Kd.int .i64) _ _ _ 1 [.int .i64 1] from rfl) (Reps.none _ _)))))))); intro v103 w37 ho38 hb hg_ hnew_; clear hg_ hnew_; (first | rw [← Ny102.out] at ho38 | (simp only [Int.reduceToNat] at ho38; rw [← Ny102.out] at ho38)); have n0_ := Aside0.mk (Kd.R_lower ho38 (below_size (hs_ GE101.out))); have n1_ := Aside0.mk (blk_below (g := gb101) (o := .cells #[.int .i64 a0_0, .int .i64 a0_1, .int .i64 a0_2] 67 (0, 0)) (kx_ BK101.out) hb); have n2_ := Aside0.mk (below_step (hs_ GE101.out) hb); clear BK101; clear HB; have HO104 := n0_; have BK101 := n1_; have HB := n2_; clear n0_ n1_ n2_; clear hb ho38) | ((with_reducible refine gate_dst (N := 6) rfl ?_); refine Kd.R_lit (Kd.int .i64) _ 3 ?hg (N := 6) ?hd (xs := ([14, 7, 14, 100, 14, 14] : List Int)) (inner := [.int .i64 14, .int .i64 7, .int .i64 14, .int .i64 100, .int .i64 14, .int .i64 14]) (ok := fun _ => True) (okp := fun _ => True) ?hr ?hp (fun _ hk => hk) trivial (Below.refl _ _) (Nat.le_refl _) (by simp) ?_; (case hd => rfl); (case hg => rfl); (case hr => first | (go_simp; done) | (go_simp; rfl)); (case hp => exact (Reps.one (show Kd.M (Kd.int .i64) _ _ _ 14 [.int .i64 14] from rfl) (Reps.one (show Kd.M (Kd.int .i64) _ _ _ 7 [.int .i64 7] from rfl) (Reps.one (show Kd.M (Kd.int .i64) _ _ _ 14 [.int .i64 14] from rfl) (Reps.one (show Kd.M (Kd.int .i64) _ _ _ 100 [.int .i64 100] from rfl) (Reps.one (show Kd.M (Kd.int .i64) _ _ _ 14 [.int .i64 14] from rfl) (Reps.one (show Kd.M (Kd.int .i64) _ _ _ 14 [.int .i64 14] from rfl) (Reps.none _ _)))))))); intro v106 w39 ho40 hb hg_ hnew_; clear hg_ hnew_; (first | rw [← Ny105.out] at ho40 | (simp only [Int.reduceToNat] at ho40; rw [← Ny105.out] at ho40)); have n0_ := Aside0.mk (Kd.R_elder' (by (with_reducible repeat (first | apply rA | apply rN | apply rD)); exact HO104.out) (Kd.R_base ho40) hb); have n1_ := Aside0.mk (Kd.R_lower (Kd.R_new' ho40 (Kd.R_lt (by (with_reducible repeat (first | apply rA | apply rN | apply rD)); exact HO104.out))) (below_size (hs_ GE101.out))); have n2_ := Aside0.mk (blk_below (g := gb101) (o := .cells #[.int .i64 a0_0, .int .i64 a0_1, .int .i64 a0_2] 67 (0, 0)) (kx_ BK101.out) hb); have n3_ := Aside0.mk (below_step (hs_ GE101.out) hb); clear HO104; clear BK101; clear HB; have HO104 := n0_; have HO107 := n1_; have BK101 := n2_; have HB := n3_; clear n0_ n1_ n2_ n3_; clear hb ho40; have hcz41_0 : w39.cell? ⟨gb101, 0, none⟩ = some (.int .i64 a0_0) := (blk_cell BK101.out 0).trans rfl; have hcz41_1 : w39.cell? ⟨gb101, 1, none⟩ = some (.int .i64 a0_1) := (blk_cell BK101.out 1).trans rfl; have hcz41_2 : w39.cell? ⟨gb101, 2, none⟩ = some (.int .i64 a0_2) := (blk_cell BK101.out 2).trans rfl; have hfz41_0 := blk_frozen BK101.out 0; have hfz41_1 := blk_frozen BK101.out 1; have hfz41_2 := blk_frozen BK101.out 2) | (go_at_call 72; (with_reducible refine (impl_within.calls a0_0 0 5 true _ A2.out).mono ?_); rintro e w' ⟨rfl, ⟨nd, rfl⟩⟩; (try first | exact ⟨rfl, _, World.drewN_drewN _ _ _⟩ | exact ⟨rfl, _, Eq.trans (World.drewN_drewN _ _ _) (congrArg (World.drewN _) (Nat.add_assoc _ _ _))⟩); obtain ⟨Ao42, co42, eo42⟩ := Kd.R_slice HO104.out; subst eo42; have p109 : 0 ≤ (a0_0 : Int) := of_decide_eq_true (by assumption); have q109 : a0_0 < (y102.length : Int) := of_decide_eq_true (by assumption); obtain ⟨ad109, e109, hx109_0⟩ := Kd.at_int (Kd.R_reads' HO104.out).2.2 a0_0 p109 q109; cases e109; replace p109 := eq_true p109; replace q109 := eq_true q109; obtain ⟨Ao43, co43, eo43⟩ := Kd.R_slice HO107.out; subst eo43; have p110 : 0 ≤ (a0_0 : Int) := of_decide_eq_true (by assumption); have q110 : a0_0 < (y105.length : Int) := of_decide_eq_true (by assumption); obtain ⟨ad110, e110, hx110_0⟩ := Kd.at_int (Kd.R_reads' HO107.out).2.2 a0_0 p110 q110; cases e110; replace p110 := eq_true p110; replace q110 := eq_true q110) | (go_at_call 72; (with_reducible refine (impl_within.calls a0_1 (rd y102 a0_0) (rd y105 a0_0) false _ A7.out).mono ?_); rintro e w' ⟨rfl, ⟨nd, rfl⟩⟩; (try first | exact ⟨rfl, _, World.drewN_drewN _ _ _⟩ | exact ⟨rfl, _, Eq.trans (World.drewN_drewN _ _ _) (congrArg (World.drewN _) (Nat.add_assoc _ _ _))⟩))); try go_wp2_with (first | ((with_reducible refine gate_dst (N := 1) rfl ?_); refine box_event ?hg (N := 1) ?hd (cs := #[.int .i64 a0_0, .int .i64 a0_1, .int .i64 a0_2]) (t := 67) ?hr ?_; (case hd => rfl); (case hg => rfl); (case hr => first | (go_simp; done) | (go_simp; rfl)); intro gb101 hg w36 hbox hb; have n0_ := Aside0.mk (below_step hb_ hb); have n1_ := Aside0.mk (hbox); have n2_ := Aside0.mk ((by rw [hg]; exact (below_size hb_) : w.heap.size ≤ gb101)); have n3_ := Aside0.mk ((by rw [hg]; exact (below_size hb_) : w.heap.size ≤ gb101)); clear HB; have HB := n0_; have BK101 := n1_; have GW101 := n2_; have GE101 := n3_; clear n0_ n1_ n2_ n3_; clear hb hbox hg) | ((with_reducible refine gate_dst (N := 5) rfl ?_); refine Kd.R_lit (Kd.int .i64) _ 3 ?hg (N := 5) ?hd (xs := ([3, 1, 1, 0, 0, 1] : List Int)) (inner := [.int .i64 3, .int .i64 1, .int .i64 1, .int .i64 0, .int .i64 0, .int .i64 1]) (ok := fun _ => True) (okp := fun _ => True) ?hr ?hp (fun _ hk => hk) trivial (Below.refl _ _) (Nat.le_refl _) (by simp) ?_; (case hd => rfl); (case hg => rfl); (case hr => first | (go_simp; done) | (go_simp; rfl)); (case hp => exact (Reps.one (show Kd.M (Kd.int .i64) _ _ _ 3 [.int .i64 3] from rfl) (Reps.one (show Kd.M (Kd.int .i64) _ _ _ 1 [.int .i64 1] from rfl) (Reps.one (show Kd.M (Kd.int .i64) _ _ _ 1 [.int .i64 1] from rfl) (Reps.one (show Kd.M (Kd.int .i64) _ _ _ 0 [.int .i64 0] from rfl) (Reps.one (show Kd.M (Kd.int .i64) _ _ _ 0 [.int .i64 0] from rfl) (Reps.one (show Kd.M (Kd.int .i64) _ _ _ 1 [.int .i64 1] from rfl) (Reps.none _ _)))))))); intro v103 w37 ho38 hb hg_ hnew_; clear hg_ hnew_; (first | rw [← Ny102.out] at ho38 | (simp only [Int.reduceToNat] at ho38; rw [← Ny102.out] at ho38)); have n0_ := Aside0.mk (Kd.R_lower ho38 (below_size (hs_ GE101.out))); have n1_ := Aside0.mk (blk_below (g := gb101) (o := .cells #[.int .i64 a0_0, .int .i64 a0_1, .int .i64 a0_2] 67 (0, 0)) (kx_ BK101.out) hb); have n2_ := Aside0.mk (below_step (hs_ GE101.out) hb); clear BK101; clear HB; have HO104 := n0_; have BK101 := n1_; have HB := n2_; clear n0_ n1_ n2_; clear hb ho38) | ((with_reducible refine gate_dst (N := 6) rfl ?_); refine Kd.R_lit (Kd.int .i64) _ 3 ?hg (N := 6) ?hd (xs := ([14, 7, 14, 100, 14, 14] : List Int)) (inner := [.int .i64 14, .int .i64 7, .int .i64 14, .int .i64 100, .int .i64 14, .int .i64 14]) (ok := fun _ => True) (okp := fun _ => True) ?hr ?hp (fun _ hk => hk) trivial (Below.refl _ _) (Nat.le_refl _) (by simp) ?_; (case hd => rfl); (case hg => rfl); (case hr => first | (go_simp; done) | (go_simp; rfl)); (case hp => exact (Reps.one (show Kd.M (Kd.int .i64) _ _ _ 14 [.int .i64 14] from rfl) (Reps.one (show Kd.M (Kd.int .i64) _ _ _ 7 [.int .i64 7] from rfl) (Reps.one (show Kd.M (Kd.int .i64) _ _ _ 14 [.int .i64 14] from rfl) (Reps.one (show Kd.M (Kd.int .i64) _ _ _ 100 [.int .i64 100] from rfl) (Reps.one (show Kd.M (Kd.int .i64) _ _ _ 14 [.int .i64 14] from rfl) (Reps.one (show Kd.M (Kd.int .i64) _ _ _ 14 [.int .i64 14] from rfl) (Reps.none _ _)))))))); intro v106 w39 ho40 hb hg_ hnew_; clear hg_ hnew_; (first | rw [← Ny105.out] at ho40 | (simp only [Int.reduceToNat] at ho40; rw [← Ny105.out] at ho40)); have n0_ := Aside0.mk (Kd.R_elder' (by (with_reducible repeat (first | apply rA | apply rN | apply rD)); exact HO104.out) (Kd.R_base ho40) hb); have n1_ := Aside0.mk (Kd.R_lower (Kd.R_new' ho40 (Kd.R_lt (by (with_reducible repeat (first | apply rA | apply rN | apply rD)); exact HO104.out))) (below_size (hs_ GE101.out))); have n2_ := Aside0.mk (blk_below (g := gb101) (o := .cells #[.int .i64 a0_0, .int .i64 a0_1, .int .i64 a0_2] 67 (0, 0)) (kx_ BK101.out) hb); have n3_ := Aside0.mk (below_step (hs_ GE101.out) hb); clear HO104; clear BK101; clear HB; have HO104 := n0_; have HO107 := n1_; have BK101 := n2_; have HB := n3_; clear n0_ n1_ n2_ n3_; clear hb ho40; have hcz41_0 : w39.cell? ⟨gb101, 0, none⟩ = some (.int .i64 a0_0) := (blk_cell BK101.out 0).trans rfl; have hcz41_1 : w39.cell? ⟨gb101, 1, none⟩ = some (.int .i64 a0_1) := (blk_cell BK101.out 1).trans rfl; have hcz41_2 : w39.cell? ⟨gb101, 2, none⟩ = some (.int .i64 a0_2) := (blk_cell BK101.out 2).trans rfl; have hfz41_0 := blk_frozen BK101.out 0; have hfz41_1 := blk_frozen BK101.out 1; have hfz41_2 := blk_frozen BK101.out 2) | (go_at_call 72; (with_reducible refine (impl_within.calls a0_0 0 5 true _ A2.out).mono ?_); rintro e w' ⟨rfl, ⟨nd, rfl⟩⟩; (try first | exact ⟨rfl, _, World.drewN_drewN _ _ _⟩ | exact ⟨rfl, _, Eq.trans (World.drewN_drewN _ _ _) (congrArg (World.drewN _) (Nat.add_assoc _ _ _))⟩); obtain ⟨Ao42, co42, eo42⟩ := Kd.R_slice HO104.out; subst eo42; have p109 : 0 ≤ (a0_0 : Int) := of_decide_eq_true (by assumption); have q109 : a0_0 < (y102.length : Int) := of_decide_eq_true (by assumption); obtain ⟨ad109, e109, hx109_0⟩ := Kd.at_int (Kd.R_reads' HO104.out).2.2 a0_0 p109 q109; cases e109; replace p109 := eq_true p109; replace q109 := eq_true q109; obtain ⟨Ao43, co43, eo43⟩ := Kd.R_slice HO107.out; subst eo43; have p110 : 0 ≤ (a0_0 : Int) := of_decide_eq_true (by assumption); have q110 : a0_0 < (y105.length : Int) := of_decide_eq_true (by assumption); obtain ⟨ad110, e110, hx110_0⟩ := Kd.at_int (Kd.R_reads' HO107.out).2.2 a0_0 p110 q110; cases e110; replace p110 := eq_true p110; replace q110 := eq_true q110) | (go_at_call 72; (with_reducible refine (impl_within.calls a0_1 (rd y102 a0_0) (rd y105 a0_0) false _ A7.out).mono ?_); rintro e w' ⟨rfl, ⟨nd, rfl⟩⟩; (try first | exact ⟨rfl, _, World.drewN_drewN _ _ _⟩ | exact ⟨rfl, _, Eq.trans (World.drewN_drewN _ _ _) (congrArg (World.drewN _) (Nat.add_assoc _ _ _))⟩))))
      go_ret
      exact ⟨by first | rfl | (simp [errW_none, errW_some] <;> rfl) | (simp [*, errW_none, errW_some] <;> rfl), hs_ GE101.out⟩
    ·rw [if_neg c6] at H
     exact absurd H (by simp)
   ·rw [if_neg c5] at H
    exact absurd H (by simp)
  ·rw [if_neg c4] at H
   exact absurd H (by simp)
 ·replace c3 := Bool.eq_false_iff.mpr c3
  subst c3
  have H1 : (some false) = some r := by rw [if_neg (show ¬ (false = true) by decide)] at H; exact H
  clear H
  have H := H1
  clear H1
  obtain rfl := oI H
  go_enter Try.func64, Try.ntmps64
  go_wp2_with (first | ((with_reducible refine gate_dst (N := 1) rfl ?_); refine box_event ?hg (N := 1) ?hd (cs := #[.int .i64 a0_0, .int .i64 a0_1, .int .i64 a0_2]) (t := 67) ?hr ?_; (case hd => rfl); (case hg => rfl); (case hr => first | (go_simp; done) | (go_simp; rfl)); intro gb101 hg w44 hbox hb; have n0_ := Aside0.mk (below_step hb_ hb); have n1_ := Aside0.mk (hbox); have n2_ := Aside0.mk ((by rw [hg]; exact (below_size hb_) : w.heap.size ≤ gb101)); have n3_ := Aside0.mk ((by rw [hg]; exact (below_size hb_) : w.heap.size ≤ gb101)); clear HB; have HB := n0_; have BK101 := n1_; have GW101 := n2_; have GE101 := n3_; clear n0_ n1_ n2_ n3_; clear hb hbox hg) | ((with_reducible refine gate_dst (N := 5) rfl ?_); refine Kd.R_lit (Kd.int .i64) _ 3 ?hg (N := 5) ?hd (xs := ([3, 1, 1, 0, 0, 1] : List Int)) (inner := [.int .i64 3, .int .i64 1, .int .i64 1, .int .i64 0, .int .i64 0, .int .i64 1]) (ok := fun _ => True) (okp := fun _ => True) ?hr ?hp (fun _ hk => hk) trivial (Below.refl _ _) (Nat.le_refl _) (by simp) ?_; (case hd => rfl); (case hg => rfl); (case hr => first | (go_simp; done) | (go_simp; rfl)); (case hp => exact (Reps.one (show Kd.M (Kd.int .i64) _ _ _ 3 [.int .i64 3] from rfl) (Reps.one (show Kd.M (Kd.int .i64) _ _ _ 1 [.int .i64 1] from rfl) (Reps.one (show Kd.M (Kd.int .i64) _ _ _ 1 [.int .i64 1] from rfl) (Reps.one (show Kd.M (Kd.int .i64) _ _ _ 0 [.int .i64 0] from rfl) (Reps.one (show Kd.M (Kd.int .i64) _ _ _ 0 [.int .i64 0] from rfl) (Reps.one (show Kd.M (Kd.int .i64) _ _ _ 1 [.int .i64 1] from rfl) (Reps.none _ _)))))))); intro v103 w45 ho46 hb hg_ hnew_; clear hg_ hnew_; (first | rw [← Ny102.out] at ho46 | (simp only [Int.reduceToNat] at ho46; rw [← Ny102.out] at ho46)); have n0_ := Aside0.mk (Kd.R_lower ho46 (below_size (hs_ GE101.out))); have n1_ := Aside0.mk (blk_below (g := gb101) (o := .cells #[.int .i64 a0_0, .int .i64 a0_1, .int .i64 a0_2] 67 (0, 0)) (kx_ BK101.out) hb); have n2_ := Aside0.mk (below_step (hs_ GE101.out) hb); clear BK101; clear HB; have HO104 := n0_; have BK101 := n1_; have HB := n2_; clear n0_ n1_ n2_; clear hb ho46) | ((with_reducible refine gate_dst (N := 6) rfl ?_); refine Kd.R_lit (Kd.int .i64) _ 3 ?hg (N := 6) ?hd (xs := ([14, 7, 14, 100, 14, 14] : List Int)) (inner := [.int .i64 14, .int .i64 7, .int .i64 14, .int .i64 100, .int .i64 14, .int .i64 14]) (ok := fun _ => True) (okp := fun _ => True) ?hr ?hp (fun _ hk => hk) trivial (Below.refl _ _) (Nat.le_refl _) (by simp) ?_; (case hd => rfl); (case hg => rfl); (case hr => first | (go_simp; done) | (go_simp; rfl)); (case hp => exact (Reps.one (show Kd.M (Kd.int .i64) _ _ _ 14 [.int .i64 14] from rfl) (Reps.one (show Kd.M (Kd.int .i64) _ _ _ 7 [.int .i64 7] from rfl) (Reps.one (show Kd.M (Kd.int .i64) _ _ _ 14 [.int .i64 14] from rfl) (Reps.one (show Kd.M (Kd.int .i64) _ _ _ 100 [.int .i64 100] from rfl) (Reps.one (show Kd.M (Kd.int .i64) _ _ _ 14 [.int .i64 14] from rfl) (Reps.one (show Kd.M (Kd.int .i64) _ _ _ 14 [.int .i64 14] from rfl) (Reps.none _ _)))))))); intro v106 w47 ho48 hb hg_ hnew_; clear hg_ hnew_; (first | rw [← Ny105.out] at ho48 | (simp only [Int.reduceToNat] at ho48; rw [← Ny105.out] at ho48)); have n0_ := Aside0.mk (Kd.R_elder' (by (with_reducible repeat (first | apply rA | apply rN | apply rD)); exact HO104.out) (Kd.R_base ho48) hb); have n1_ := Aside0.mk (Kd.R_lower (Kd.R_new' ho48 (Kd.R_lt (by (with_reducible repeat (first | apply rA | apply rN | apply rD)); exact HO104.out))) (below_size (hs_ GE101.out))); have n2_ := Aside0.mk (blk_below (g := gb101) (o := .cells #[.int .i64 a0_0, .int .i64 a0_1, .int .i64 a0_2] 67 (0, 0)) (kx_ BK101.out) hb); have n3_ := Aside0.mk (below_step (hs_ GE101.out) hb); clear HO104; clear BK101; clear HB; have HO104 := n0_; have HO107 := n1_; have BK101 := n2_; have HB := n3_; clear n0_ n1_ n2_ n3_; clear hb ho48; have hcz49_0 : w47.cell? ⟨gb101, 0, none⟩ = some (.int .i64 a0_0) := (blk_cell BK101.out 0).trans rfl; have hcz49_1 : w47.cell? ⟨gb101, 1, none⟩ = some (.int .i64 a0_1) := (blk_cell BK101.out 1).trans rfl; have hcz49_2 : w47.cell? ⟨gb101, 2, none⟩ = some (.int .i64 a0_2) := (blk_cell BK101.out 2).trans rfl; have hfz49_0 := blk_frozen BK101.out 0; have hfz49_1 := blk_frozen BK101.out 1; have hfz49_2 := blk_frozen BK101.out 2) | (go_at_call 72; (with_reducible refine (impl_within.calls a0_0 0 5 false _ A2.out).mono ?_); rintro e w' ⟨rfl, ⟨nd, rfl⟩⟩; (try first | exact ⟨rfl, _, World.drewN_drewN _ _ _⟩ | exact ⟨rfl, _, Eq.trans (World.drewN_drewN _ _ _) (congrArg (World.drewN _) (Nat.add_assoc _ _ _))⟩)))
  repeat (go_quiet (first | ((with_reducible refine gate_dst (N := 1) rfl ?_); refine box_event ?hg (N := 1) ?hd (cs := #[.int .i64 a0_0, .int .i64 a0_1, .int .i64 a0_2]) (t := 67) ?hr ?_; (case hd => rfl); (case hg => rfl); (case hr => first | (go_simp; done) | (go_simp; rfl)); intro gb101 hg w44 hbox hb; have n0_ := Aside0.mk (below_step hb_ hb); have n1_ := Aside0.mk (hbox); have n2_ := Aside0.mk ((by rw [hg]; exact (below_size hb_) : w.heap.size ≤ gb101)); have n3_ := Aside0.mk ((by rw [hg]; exact (below_size hb_) : w.heap.size ≤ gb101)); clear HB; have HB := n0_; have BK101 := n1_; have GW101 := n2_; have GE101 := n3_; clear n0_ n1_ n2_ n3_; clear hb hbox hg) | ((with_reducible refine gate_dst (N := 5) rfl ?_); refine Kd.R_lit (Kd.int .i64) _ 3 ?hg (N := 5) ?hd (xs := ([3, 1, 1, 0, 0, 1] : List Int)) (inner := [.int .i64 3, .int .i64 1, .int .i64 1, .int .i64 0, .int .i64 0, .int .i64 1]) (ok := fun _ => True) (okp := fun _ => True) ?hr ?hp (fun _ hk => hk) trivial (Below.refl _ _) (Nat.le_refl _) (by simp) ?_; (case hd => rfl); (case hg => rfl); (case hr => first | (go_simp; done) | (go_simp; rfl)); (case hp => exact (Reps.one (show Kd.M (Kd.int .i64) _ _ _ 3 [.int .i64 3] from rfl) (Reps.one (show Kd.M (Kd.int .i64) _ _ _ 1 [.int .i64 1] from rfl) (Reps.one (show Kd.M (Kd.int .i64) _ _ _ 1 [.int .i64 1] from rfl) (Reps.one (show Kd.M (Kd.int .i64) _ _ _ 0 [.int .i64 0] from rfl) (Reps.one (show Kd.M (Kd.int .i64) _ _ _ 0 [.int .i64 0] from rfl) (Reps.one (show Kd.M (Kd.int .i64) _ _ _ 1 [.int .i64 1] from rfl) (Reps.none _ _)))))))); intro v103 w45 ho46 hb hg_ hnew_; clear hg_ hnew_; (first | rw [← Ny102.out] at ho46 | (simp only [Int.reduceToNat] at ho46; rw [← Ny102.out] at ho46)); have n0_ := Aside0.mk (Kd.R_lower ho46 (below_size (hs_ GE101.out))); have n1_ := Aside0.mk (blk_below (g := gb101) (o := .cells #[.int .i64 a0_0, .int .i64 a0_1, .int .i64 a0_2] 67 (0, 0)) (kx_ BK101.out) hb); have n2_ := Aside0.mk (below_step (hs_ GE101.out) hb); clear BK101; clear HB; have HO104 := n0_; have BK101 := n1_; have HB := n2_; clear n0_ n1_ n2_; clear hb ho46) | ((with_reducible refine gate_dst (N := 6) rfl ?_); refine Kd.R_lit (Kd.int .i64) _ 3 ?hg (N := 6) ?hd (xs := ([14, 7, 14, 100, 14, 14] : List Int)) (inner := [.int .i64 14, .int .i64 7, .int .i64 14, .int .i64 100, .int .i64 14, .int .i64 14]) (ok := fun _ => True) (okp := fun _ => True) ?hr ?hp (fun _ hk => hk) trivial (Below.refl _ _) (Nat.le_refl _) (by simp) ?_; (case hd => rfl); (case hg => rfl); (case hr => first | (go_simp; done) | (go_simp; rfl)); (case hp => exact (Reps.one (show Kd.M (Kd.int .i64) _ _ _ 14 [.int .i64 14] from rfl) (Reps.one (show Kd.M (Kd.int .i64) _ _ _ 7 [.int .i64 7] from rfl) (Reps.one (show Kd.M (Kd.int .i64) _ _ _ 14 [.int .i64 14] from rfl) (Reps.one (show Kd.M (Kd.int .i64) _ _ _ 100 [.int .i64 100] from rfl) (Reps.one (show Kd.M (Kd.int .i64) _ _ _ 14 [.int .i64 14] from rfl) (Reps.one (show Kd.M (Kd.int .i64) _ _ _ 14 [.int .i64 14] from rfl) (Reps.none _ _)))))))); intro v106 w47 ho48 hb hg_ hnew_; clear hg_ hnew_; (first | rw [← Ny105.out] at ho48 | (simp only [Int.reduceToNat] at ho48; rw [← Ny105.out] at ho48)); have n0_ := Aside0.mk (Kd.R_elder' (by (with_reducible repeat (first | apply rA | apply rN | apply rD)); exact HO104.out) (Kd.R_base ho48) hb); have n1_ := Aside0.mk (Kd.R_lower (Kd.R_new' ho48 (Kd.R_lt (by (with_reducible repeat (first | apply rA | apply rN | apply rD)); exact HO104.out))) (below_size (hs_ GE101.out))); have n2_ := Aside0.mk (blk_below (g := gb101) (o := .cells #[.int .i64 a0_0, .int .i64 a0_1, .int .i64 a0_2] 67 (0, 0)) (kx_ BK101.out) hb); have n3_ := Aside0.mk (below_step (hs_ GE101.out) hb); clear HO104; clear BK101; clear HB; have HO104 := n0_; have HO107 := n1_; have BK101 := n2_; have HB := n3_; clear n0_ n1_ n2_ n3_; clear hb ho48; have hcz49_0 : w47.cell? ⟨gb101, 0, none⟩ = some (.int .i64 a0_0) := (blk_cell BK101.out 0).trans rfl; have hcz49_1 : w47.cell? ⟨gb101, 1, none⟩ = some (.int .i64 a0_1) := (blk_cell BK101.out 1).trans rfl; have hcz49_2 : w47.cell? ⟨gb101, 2, none⟩ = some (.int .i64 a0_2) := (blk_cell BK101.out 2).trans rfl; have hfz49_0 := blk_frozen BK101.out 0; have hfz49_1 := blk_frozen BK101.out 1; have hfz49_2 := blk_frozen BK101.out 2) | (go_at_call 72; (with_reducible refine (impl_within.calls a0_0 0 5 false _ A2.out).mono ?_); rintro e w' ⟨rfl, ⟨nd, rfl⟩⟩; (try first | exact ⟨rfl, _, World.drewN_drewN _ _ _⟩ | exact ⟨rfl, _, Eq.trans (World.drewN_drewN _ _ _) (congrArg (World.drewN _) (Nat.add_assoc _ _ _))⟩))); try go_wp2_with (first | ((with_reducible refine gate_dst (N := 1) rfl ?_); refine box_event ?hg (N := 1) ?hd (cs := #[.int .i64 a0_0, .int .i64 a0_1, .int .i64 a0_2]) (t := 67) ?hr ?_; (case hd => rfl); (case hg => rfl); (case hr => first | (go_simp; done) | (go_simp; rfl)); intro gb101 hg w44 hbox hb; have n0_ := Aside0.mk (below_step hb_ hb); have n1_ := Aside0.mk (hbox); have n2_ := Aside0.mk ((by rw [hg]; exact (below_size hb_) : w.heap.size ≤ gb101)); have n3_ := Aside0.mk ((by rw [hg]; exact (below_size hb_) : w.heap.size ≤ gb101)); clear HB; have HB := n0_; have BK101 := n1_; have GW101 := n2_; have GE101 := n3_; clear n0_ n1_ n2_ n3_; clear hb hbox hg) | ((with_reducible refine gate_dst (N := 5) rfl ?_); refine Kd.R_lit (Kd.int .i64) _ 3 ?hg (N := 5) ?hd (xs := ([3, 1, 1, 0, 0, 1] : List Int)) (inner := [.int .i64 3, .int .i64 1, .int .i64 1, .int .i64 0, .int .i64 0, .int .i64 1]) (ok := fun _ => True) (okp := fun _ => True) ?hr ?hp (fun _ hk => hk) trivial (Below.refl _ _) (Nat.le_refl _) (by simp) ?_; (case hd => rfl); (case hg => rfl); (case hr => first | (go_simp; done) | (go_simp; rfl)); (case hp => exact (Reps.one (show Kd.M (Kd.int .i64) _ _ _ 3 [.int .i64 3] from rfl) (Reps.one (show Kd.M (Kd.int .i64) _ _ _ 1 [.int .i64 1] from rfl) (Reps.one (show Kd.M (Kd.int .i64) _ _ _ 1 [.int .i64 1] from rfl) (Reps.one (show Kd.M (Kd.int .i64) _ _ _ 0 [.int .i64 0] from rfl) (Reps.one (show Kd.M (Kd.int .i64) _ _ _ 0 [.int .i64 0] from rfl) (Reps.one (show Kd.M (Kd.int .i64) _ _ _ 1 [.int .i64 1] from rfl) (Reps.none _ _)))))))); intro v103 w45 ho46 hb hg_ hnew_; clear hg_ hnew_; (first | rw [← Ny102.out] at ho46 | (simp only [Int.reduceToNat] at ho46; rw [← Ny102.out] at ho46)); have n0_ := Aside0.mk (Kd.R_lower ho46 (below_size (hs_ GE101.out))); have n1_ := Aside0.mk (blk_below (g := gb101) (o := .cells #[.int .i64 a0_0, .int .i64 a0_1, .int .i64 a0_2] 67 (0, 0)) (kx_ BK101.out) hb); have n2_ := Aside0.mk (below_step (hs_ GE101.out) hb); clear BK101; clear HB; have HO104 := n0_; have BK101 := n1_; have HB := n2_; clear n0_ n1_ n2_; clear hb ho46) | ((with_reducible refine gate_dst (N := 6) rfl ?_); refine Kd.R_lit (Kd.int .i64) _ 3 ?hg (N := 6) ?hd (xs := ([14, 7, 14, 100, 14, 14] : List Int)) (inner := [.int .i64 14, .int .i64 7, .int .i64 14, .int .i64 100, .int .i64 14, .int .i64 14]) (ok := fun _ => True) (okp := fun _ => True) ?hr ?hp (fun _ hk => hk) trivial (Below.refl _ _) (Nat.le_refl _) (by simp) ?_; (case hd => rfl); (case hg => rfl); (case hr => first | (go_simp; done) | (go_simp; rfl)); (case hp => exact (Reps.one (show Kd.M (Kd.int .i64) _ _ _ 14 [.int .i64 14] from rfl) (Reps.one (show Kd.M (Kd.int .i64) _ _ _ 7 [.int .i64 7] from rfl) (Reps.one (show Kd.M (Kd.int .i64) _ _ _ 14 [.int .i64 14] from rfl) (Reps.one (show Kd.M (Kd.int .i64) _ _ _ 100 [.int .i64 100] from rfl) (Reps.one (show Kd.M (Kd.int .i64) _ _ _ 14 [.int .i64 14] from rfl) (Reps.one (show Kd.M (Kd.int .i64) _ _ _ 14 [.int .i64 14] from rfl) (Reps.none _ _)))))))); intro v106 w47 ho48 hb hg_ hnew_; clear hg_ hnew_; (first | rw [← Ny105.out] at ho48 | (simp only [Int.reduceToNat] at ho48; rw [← Ny105.out] at ho48)); have n0_ := Aside0.mk (Kd.R_elder' (by (with_reducible repeat (first | apply rA | apply rN | apply rD)); exact HO104.out) (Kd.R_base ho48) hb); have n1_ := Aside0.mk (Kd.R_lower (Kd.R_new' ho48 (Kd.R_lt (by (with_reducible repeat (first | apply rA | apply rN | apply rD)); exact HO104.out))) (below_size (hs_ GE101.out))); have n2_ := Aside0.mk (blk_below (g := gb101) (o := .cells #[.int .i64 a0_0, .int .i64 a0_1, .int .i64 a0_2] 67 (0, 0)) (kx_ BK101.out) hb); have n3_ := Aside0.mk (below_step (hs_ GE101.out) hb); clear HO104; clear BK101; clear HB; have HO104 := n0_; have HO107 := n1_; have BK101 := n2_; have HB := n3_; clear n0_ n1_ n2_ n3_; clear hb ho48; have hcz49_0 : w47.cell? ⟨gb101, 0, none⟩ = some (.int .i64 a0_0) := (blk_cell BK101.out 0).trans rfl; have hcz49_1 : w47.cell? ⟨gb101, 1, none⟩ = some (.int .i64 a0_1) := (blk_cell BK101.out 1).trans rfl; have hcz49_2 : w47.cell? ⟨gb101, 2, none⟩ = some (.int .i64 a0_2) := (blk_cell BK101.out 2).trans rfl; have hfz49_0 := blk_frozen BK101.out 0; have hfz49_1 := blk_frozen BK101.out 1; have hfz49_2 := blk_frozen BK101.out 2) | (go_at_call 72; (with_reducible refine (impl_within.calls a0_0 0 5 false _ A2.out).mono ?_); rintro e w' ⟨rfl, ⟨nd, rfl⟩⟩; (try first | exact ⟨rfl, _, World.drewN_drewN _ _ _⟩ | exact ⟨rfl, _, Eq.trans (World.drewN_drewN _ _ _) (congrArg (World.drewN _) (Nat.add_assoc _ _ _))⟩))))
  go_ret
  exact ⟨by first | rfl | (simp [errW_none, errW_some] <;> rfl) | (simp [*, errW_none, errW_some] <;> rfl), hs_ GE101.out⟩
end Go.Proofs.Ytkgaljocaapobaa.Pr
/- What the program's and the reference's functions on clues compute, in plain words. -/
namespace Go.Proofs.Ytkgaljocaapobaa.M
open Go.RowKit Go.Proofs.YtkgaljocaapobaaW.PrintWords Go.Proofs.Ytkgaljocaapobaa.Pr
/-- Whether there is a clue of this kind with these numbers. -/
def clN (a b c : Int) : Bool :=
  if a = 0 then inB b 3 14 && (c == 0) else if a = 1 then inB b 1 7 && (c == 0) else if a = 2 then inB b 1 14 && (c == 0) else if a = 3 then inB b 0 100 && (c == 0)
  else if a = 4 then inB b 0 14 && inB c 0 14 else if a = 5 then inB b 1 14 && (c == 0) else false
theorem isClue_eq (a b c : Int) : impl_IsClue.f a b c = some (clN a b c) := by
  unfold impl_IsClue.f
  simp only [within_eq, Option.bind_some]
  by_cases h : 0 ≤ a ∧ a ≤ 5
  · have e : inB a 0 5 = true := by unfold inB; simpa using h
    rw [if_pos e, if_pos h.1, if_pos (by simp; omega), if_pos (by simp; omega)]
    obtain rfl | rfl | rfl | rfl | rfl | rfl : a = 0 ∨ a = 1 ∨ a = 2 ∨ a = 3 ∨ a = 4 ∨ a = 5 := by omega
    all_goals
      unfold clN
      simp only [show rd [3, 1, 1, 0, 0, 1] 0 = 3 from rfl, show rd [3, 1, 1, 0, 0, 1] 1 = 1 from rfl, show rd [3, 1, 1, 0, 0, 1] 2 = 1 from rfl, show rd [3, 1, 1, 0, 0, 1] 3 = 0 from rfl, show rd [3, 1, 1, 0, 0, 1] 4 = 0 from rfl, show rd [3, 1, 1, 0, 0, 1] 5 = 1 from rfl,
        show rd [14, 7, 14, 100, 14, 14] 0 = 14 from rfl, show rd [14, 7, 14, 100, 14, 14] 1 = 7 from rfl, show rd [14, 7, 14, 100, 14, 14] 2 = 14 from rfl, show rd [14, 7, 14, 100, 14, 14] 3 = 100 from rfl, show rd [14, 7, 14, 100, 14, 14] 4 = 14 from rfl, show rd [14, 7, 14, 100, 14, 14] 5 = 14 from rfl]
      by_cases hb : c = 0
      · subst hb
        simp
        first | done | (cases inB b 3 14 <;> rfl) | (cases inB b 1 7 <;> rfl) | (cases inB b 1 14 <;> rfl) | (cases inB b 0 100 <;> rfl) | (cases inB b 0 14 <;> rfl)
      · simp [hb]
        try (split <;> simp_all)
  · have e : ¬ inB a 0 5 = true := by unfold inB; simpa using h
    rw [if_neg e]
    unfold clN
    rw [if_neg (by omega), if_neg (by omega), if_neg (by omega), if_neg (by omega), if_neg (by omega), if_neg (by omega)]
theorem clue_ev (a b c : Int) : Ev (fun k => spec_pzClue.f k a b c) (clN a b c) := by
  unfold spec_pzClue.f
  simp only [l1In_eq, Option.bind_some]
  unfold clN
  by_cases h0 : a = 0
  · refine Ev.pos h0 ?_
    rw [if_pos h0]
    cases inB b 3 14 <;> exact Ev.val (by simp)
  rw [if_neg h0]
  refine Ev.neg h0 ?_
  by_cases h1 : a = 1
  · refine Ev.pos h1 ?_
    rw [if_pos h1]
    cases inB b 1 7 <;> exact Ev.val (by simp)
  rw [if_neg h1]
  refine Ev.neg h1 ?_
  by_cases h2 : a = 2
  · subst h2
    refine Ev.pos rfl (Ev.step (fun k => by rw [spec_pzClue.j0]) ?_)
    simp only [l1In_eq, Option.bind_some]
    refine Ev.pos rfl ?_
    cases inB b 1 14 <;> exact Ev.val (by simp)
  rw [if_neg h2]
  refine Ev.neg h2 (Ev.step (fun k => by rw [spec_pzClue.j0]) ?_)
  simp only [l1In_eq, Option.bind_some]
  by_cases h5 : a = 5
  · subst h5
    refine Ev.pos rfl ?_
    cases inB b 1 14 <;> exact Ev.val (by simp)
  refine Ev.neg (by simp [h5]) ?_
  by_cases h3 : a = 3
  · subst h3
    refine Ev.pos rfl ?_
    cases inB b 0 100 <;> exact Ev.val (by simp)
  simp only [if_neg h3]
  by_cases h4 : a = 4
  · subst h4
    refine Ev.pos rfl ?_
    cases inB b 0 14 <;> exact Ev.val (by simp)
  simp only [if_neg h4, if_neg h5]
  exact Ev.val rfl
end Go.Proofs.Ytkgaljocaapobaa.M
namespace Go.Proofs.Ytkgaljocaapobaa.Pr
open Go.RowKit Go.Proofs.YtkgaljocaapobaaW.PrintWords Go.Proofs.YtkgaljocaapobaaW.PrintLast Go.Proofs.YtkgaljocaapobaaW.PrintMore
attribute [local go_sem] max2_int min2_int max_two min_two max_three min_three max_four min_four
def impl_divisor.l0 : Nat → Int → Int → Option (Int)
 | 0, _, _ => none
 | k + 1, x0, x1 => if x1 > 0 then (if x1 = 0 then (none) else (impl_divisor.l0 k x1 (Int.tmod x0 x1))) else (some x0)
def impl_divisor.f (k : Nat) (a0 : Int) (a1 : Int) : Option (Int) := impl_divisor.l0 k a0 a1
theorem impl_divisor.mono_l : ∀ k, (∀ y0 y1, LeO (impl_divisor.l0 k y0 y1) (impl_divisor.l0 (k + 1) y0 y1))
 | 0 => fun _ _ r h => by simp [impl_divisor.l0] at h
 | k + 1 => by
  have ih0 := impl_divisor.mono_l k
  ·intro y0 y1
   unfold impl_divisor.l0
   repeat' first
   | (with_reducible exact ih0 _ _)
   | (with_reducible exact LeO.refl _)
   | (with_reducible exact LeO.none _)
   | (with_reducible refine LeO.ite ?_ ?_)
   | (with_reducible refine LeO.bind ?_ (fun _ => ?_))
   | exact ih0 _ _
   | exact LeO.none _
   | refine LeO.ite ?_ ?_
   | refine LeO.bind ?_ (fun _ => ?_)
theorem impl_divisor.mono : ∀ a0 a1 k, LeO (impl_divisor.f k a0 a1) (impl_divisor.f (k + 1) a0 a1) := by
 intro a0 a1 k
 have ih0 := impl_divisor.mono_l k
 unfold impl_divisor.f
 repeat' first
   | (with_reducible exact ih0 _ _)
   | (with_reducible exact LeO.refl _)
   | (with_reducible exact LeO.none _)
   | (with_reducible refine LeO.ite ?_ ?_)
   | (with_reducible refine LeO.bind ?_ (fun _ => ?_))
   | exact ih0 _ _
   | exact LeO.none _
   | refine LeO.ite ?_ ?_
   | refine LeO.bind ?_ (fun _ => ?_)
set_option maxHeartbeats 8000000 in
set_option maxRecDepth 100000 in
theorem impl_divisor.calls (k : Nat) (a0 : Int) (a1 : Int) (r : Int) (w : World) (h : impl_divisor.f k a0 a1 = some r) :
  Calls Try.prog 84 #[.int .i64 a0, .int .i64 a1] w fun e w' => e = .returned (.int .i64 r) ∧ Drawn0 w w' := by
 have H : (impl_divisor.l0 k a0 a1) = some r := h
 clear h
 have H' := Aside0.mk H
 clear H
 go_enter Try.func84, Try.ntmps84
 go_wp2
 repeat (go_quiet (fail); try go_wp2)
 go_loopg [0, 1] k (fun kq v0 v1 w' => ∃ (x0_1 : Int) (x1_1 : Int), v0 = .int .i64 x0_1 ∧ v1 = .int .i64 x1_1 ∧ Aside0 (impl_divisor.l0 kq x0_1 x1_1 = some r) ∧ Aside0 (kq ≤ k) ∧ Drawn0 w w')
 case atStart => exact ⟨(a0), (a1), (by first | rfl | (simp; done) | (simp [*]; done)), (by first | rfl | (simp; done) | (simp [*]; done)), H', ⟨Nat.le_refl _⟩, by repeat (first | exact Drawn0.refl _ | apply Drawn0.step)⟩
 case round =>
  clear H'
  try clear p2
  obtain ⟨x0_1, x1_1, rfl, rfl, HA, HK1, ⟨m1, rfl⟩⟩ := hrel
  cases gk with
  | zero => exact absurd HA.out (by simp [impl_divisor.l0])
  | succ k1 =>
   have H := HA.out
   clear HA
   simp only [impl_divisor.l0] at H
   by_cases c3 : x1_1 > 0
   ·rw [if_pos c3] at H
    have c3b0 : decide (0 < x1_1) = true := decide_eq_true c3
    clear c3
    by_cases c4 : x1_1 = 0
    ·rw [if_pos c4] at H
     exact absurd H (by simp)
    ·rw [if_neg c4] at H
     have c4b0 : (x1_1 == 0) = false := beq_eq_false_iff_ne.mpr c4
     have c4b1 : (x1_1 != 0) = true := bne_iff_ne.mpr c4
     have H' := Aside0.mk H
     clear H
     go_wp2
     repeat (go_quiet (fail); try go_wp2)
     go_roundg k1
     case measure => have := HK1.out; omega
     case rel => exact ⟨(x1_1), (Int.tmod x0_1 x1_1), (by first | rfl | (simp; done) | (simp [*]; done)), (by first | rfl | (simp; done) | (simp [*]; done)), H', ⟨by have := HK1.out; omega⟩, by repeat (first | exact Drawn0.refl _ | apply Drawn0.step)⟩
   ·rw [if_neg c3] at H
    have c3b0 : decide (0 < x1_1) = false := decide_eq_false c3
    clear c3
    obtain rfl := oI H
    go_wp2
    repeat (go_quiet (fail); try go_wp2)
    go_ret
    exact ⟨by first | rfl | (simp; done) | (simp [*]; done), by repeat (first | exact Drawn0.refl _ | apply Drawn0.step)⟩
def impl_Star_strings.f (k : Nat) (a0_0 : Int) (a0_1 : Int) : Option (Int) := (impl_divisor.f k a0_0 a0_1).bind fun t114 => (some t114)
theorem impl_Star_strings.mono : ∀ a0 a1 k, LeO (impl_Star_strings.f k a0 a1) (impl_Star_strings.f (k + 1) a0 a1) := by
 intro a0 a1 k
 unfold impl_Star_strings.f
 repeat' first
   | (with_reducible exact impl_divisor.mono _ _ _)
   | (with_reducible exact LeO.refl _)
   | (with_reducible exact LeO.none _)
   | (with_reducible refine LeO.ite ?_ ?_)
   | (with_reducible refine LeO.bind ?_ (fun _ => ?_))
   | exact impl_divisor.mono _ _ _
   | exact LeO.none _
   | refine LeO.ite ?_ ?_
   | refine LeO.bind ?_ (fun _ => ?_)
set_option maxHeartbeats 8000000 in
set_option maxRecDepth 100000 in
theorem impl_Star_strings.calls (k : Nat) (a0_0 : Int) (a0_1 : Int) (r : Int) (w : World) (h : impl_Star_strings.f k a0_0 a0_1 = some r) :
  Calls Try.prog 78 #[.agg #[.int .i64 a0_0, .int .i64 a0_1]] w fun e w' => e = .returned (.int .i64 r) ∧ Below w.heap.size w w' := by
 have hu37 := Try.underlying37
 have HB := Aside0.mk (Below.refl w.heap.size w)
 have H : ((impl_divisor.f k a0_0 a0_1).bind fun t114 => (some t114)) = some r := h
 clear h
 replace H := bI H
 obtain ⟨t114, A20, H⟩ := H
 replace H : (some t114) = some r := H
 have A2 := Aside0.mk A20
 clear A20
 obtain rfl := oI H
 go_enter Try.func78, Try.ntmps78
 go_wp2_with (first | ((with_reducible refine gate_dst (N := 1) rfl ?_); refine box_event ?hg (N := 1) ?hd (cs := #[.int .i64 a0_0, .int .i64 a0_1]) (t := 37) ?hr ?_; (case hd => rfl); (case hg => rfl); (case hr => first | (go_simp; done) | (go_simp; rfl)); intro gb113 hg w3 hbox hb; have n0_ := Aside0.mk (below_step hb_ hb); have n1_ := Aside0.mk (hbox); have n2_ := Aside0.mk ((by rw [hg]; exact (below_size hb_) : w.heap.size ≤ gb113)); have n3_ := Aside0.mk ((by rw [hg]; exact (below_size hb_) : w.heap.size ≤ gb113)); clear HB; have HB := n0_; have BK113 := n1_; have GW113 := n2_; have GE113 := n3_; clear n0_ n1_ n2_ n3_; clear hb hbox hg; have hcz4_0 : w3.cell? ⟨gb113, 0, none⟩ = some (.int .i64 a0_0) := (blk_cell BK113.out 0).trans rfl; have hcz4_1 : w3.cell? ⟨gb113, 1, none⟩ = some (.int .i64 a0_1) := (blk_cell BK113.out 1).trans rfl; have hfz4_0 := blk_frozen BK113.out 0; have hfz4_1 := blk_frozen BK113.out 1) | ((with_reducible refine gate_callee (f := 84) rfl ?_); refine goesL_ (some 7) rfl rfl Try.func84 (by kernel_rfl) rfl #[.int .i64 a0_0, .int .i64 a0_1] rfl ar_ ?_; (with_reducible refine (impl_divisor.calls k a0_0 a0_1 t114 _ A2.out).mono ?_); rintro e w' ⟨rfl, ⟨nd, rfl⟩⟩; refine ⟨_, rfl, ?_⟩))
 go_ret
 exact ⟨by first | rfl | (simp [errW_none, errW_some] <;> rfl) | (simp [*, errW_none, errW_some] <;> rfl), hs_ GE113.out⟩
def impl_told.f (k : Nat) (a0 : Int) (a1_0 : Int) (a1_1 : Int) : Option (Int) := if a0 = 0 then (some a1_0) else (if a0 = 1 then ((impl_Star_strings.f k a1_0 a1_1).bind fun t169 => (some t169)) else (if a0 = 2 then ((impl_Star_strings.f k a1_0 a1_1).bind fun t170 => (if t170 = 0 then (none) else (some (wrap64 (Int.tdiv a1_1 t170))))) else (if a0 = 3 then ((impl_Star_chords.f k a1_0 a1_1).bind fun t171 => ((impl_crossings.f k t171).bind fun t174 => (some t174))) else ((impl_Star_chords.f k a1_0 a1_1).bind fun t175 => (some (t175.length : Int))))))
theorem impl_told.mono : ∀ a0 a1 a2 k, LeO (impl_told.f k a0 a1 a2) (impl_told.f (k + 1) a0 a1 a2) := by
 intro a0 a1 a2 k
 unfold impl_told.f
 repeat' first
   | (with_reducible exact impl_Star_chords.mono _ _ _)
   | (with_reducible exact impl_Star_strings.mono _ _ _)
   | (with_reducible exact impl_crossings.mono _ _)
   | (with_reducible exact LeO.refl _)
   | (with_reducible exact LeO.none _)
   | (with_reducible refine LeO.ite ?_ ?_)
   | (with_reducible refine LeO.bind ?_ (fun _ => ?_))
   | exact impl_Star_chords.mono _ _ _
   | exact impl_Star_strings.mono _ _ _
   | exact impl_crossings.mono _ _
   | exact LeO.none _
   | refine LeO.ite ?_ ?_
   | refine LeO.bind ?_ (fun _ => ?_)
set_option maxHeartbeats 8000000 in
set_option maxRecDepth 100000 in
theorem impl_told.calls (k : Nat) (a0 : Int) (a1_0 : Int) (a1_1 : Int) (r : Int) (w : World) (h : impl_told.f k a0 a1_0 a1_1 = some r) :
  Calls Try.prog 74 #[.int .i64 a0, .agg #[.int .i64 a1_0, .int .i64 a1_1]] w fun e w' => e = .returned (.int .i64 r) ∧ Below w.heap.size w w' := by
 have hu37 := Try.underlying37
 have HB := Aside0.mk (Below.refl w.heap.size w)
 have H : (if a0 = 0 then (some a1_0) else (if a0 = 1 then ((impl_Star_strings.f k a1_0 a1_1).bind fun t169 => (some t169)) else (if a0 = 2 then ((impl_Star_strings.f k a1_0 a1_1).bind fun t170 => (if t170 = 0 then (none) else (some (wrap64 (Int.tdiv a1_1 t170))))) else (if a0 = 3 then ((impl_Star_chords.f k a1_0 a1_1).bind fun t171 => ((impl_crossings.f k t171).bind fun t174 => (some t174))) else ((impl_Star_chords.f k a1_0 a1_1).bind fun t175 => (some (t175.length : Int))))))) = some r := h
 clear h
 by_cases c3 : a0 = 0
 ·rw [if_pos c3] at H
  have c3b0 : (a0 == 0) = true := beq_iff_eq.mpr c3
  have c3b1 : (a0 != 0) = false := bne_eq_false_iff_eq.mpr c3
  clear c3
  obtain rfl := oI H
  go_enter Try.func74, Try.ntmps74
  go_wp2_with (first | ((with_reducible refine gate_dst (N := 3) rfl ?_); refine box_event ?hg (N := 3) ?hd (cs := #[.int .i64 a1_0, .int .i64 a1_1]) (t := 37) ?hr ?_; (case hd => rfl); (case hg => rfl); (case hr => first | (go_simp; done) | (go_simp; rfl)); intro gb168 hg w4 hbox hb; have n0_ := Aside0.mk (below_step hb_ hb); have n1_ := Aside0.mk (hbox); have n2_ := Aside0.mk ((by rw [hg]; exact (below_size hb_) : w.heap.size ≤ gb168)); have n3_ := Aside0.mk ((by rw [hg]; exact (below_size hb_) : w.heap.size ≤ gb168)); clear HB; have HB := n0_; have BK168 := n1_; have GW168 := n2_; have GE168 := n3_; clear n0_ n1_ n2_ n3_; clear hb hbox hg; have hcz5_0 : w4.cell? ⟨gb168, 0, none⟩ = some (.int .i64 a1_0) := (blk_cell BK168.out 0).trans rfl; have hcz5_1 : w4.cell? ⟨gb168, 1, none⟩ = some (.int .i64 a1_1) := (blk_cell BK168.out 1).trans rfl; have hfz5_0 := blk_frozen BK168.out 0; have hfz5_1 := blk_frozen BK168.out 1))
  go_ret
  exact ⟨by first | rfl | (simp [errW_none, errW_some] <;> rfl) | (simp [*, errW_none, errW_some] <;> rfl), hs_ GE168.out⟩
 ·rw [if_neg c3] at H
  have c3b0 : (a0 == 0) = false := beq_eq_false_iff_ne.mpr c3
  have c3b1 : (a0 != 0) = true := bne_iff_ne.mpr c3
  by_cases c6 : a0 = 1
  ·rw [if_pos c6] at H
   have c6b0 : (a0 == 1) = true := beq_iff_eq.mpr c6
   have c6b1 : (a0 != 1) = false := bne_eq_false_iff_eq.mpr c6
   clear c6
   replace H := bI H
   obtain ⟨t169, A70, H⟩ := H
   replace H : (some t169) = some r := H
   have A7 := Aside0.mk A70
   clear A70
   obtain rfl := oI H
   go_enter Try.func74, Try.ntmps74
   go_wp2_with (first | ((with_reducible refine gate_dst (N := 3) rfl ?_); refine box_event ?hg (N := 3) ?hd (cs := #[.int .i64 a1_0, .int .i64 a1_1]) (t := 37) ?hr ?_; (case hd => rfl); (case hg => rfl); (case hr => first | (go_simp; done) | (go_simp; rfl)); intro gb168 hg w8 hbox hb; have n0_ := Aside0.mk (below_step hb_ hb); have n1_ := Aside0.mk (hbox); have n2_ := Aside0.mk ((by rw [hg]; exact (below_size hb_) : w.heap.size ≤ gb168)); have n3_ := Aside0.mk ((by rw [hg]; exact (below_size hb_) : w.heap.size ≤ gb168)); clear HB; have HB := n0_; have BK168 := n1_; have GW168 := n2_; have GE168 := n3_; clear n0_ n1_ n2_ n3_; clear hb hbox hg; have hcz9_0 : w8.cell? ⟨gb168, 0, none⟩ = some (.int .i64 a1_0) := (blk_cell BK168.out 0).trans rfl; have hcz9_1 : w8.cell? ⟨gb168, 1, none⟩ = some (.int .i64 a1_1) := (blk_cell BK168.out 1).trans rfl; have hfz9_0 := blk_frozen BK168.out 0; have hfz9_1 := blk_frozen BK168.out 1) | ((with_reducible refine gate_callee (f := 78) rfl ?_); refine goesL_ (some 13) rfl rfl Try.func78 (by kernel_rfl) rfl #[.agg #[.int .i64 a1_0, .int .i64 a1_1]] rfl ar_ ?_; (with_reducible refine (impl_Star_strings.calls k a1_0 a1_1 t169 _ A7.out).mono ?_); rintro e w10 ⟨rfl, hb⟩; refine ⟨_, rfl, ?_⟩; have n0_ := Aside0.mk (blk_below (g := gb168) (o := .cells #[.int .i64 a1_0, .int .i64 a1_1] 37 (0, 0)) (kx_ BK168.out) hb); have n1_ := Aside0.mk (below_step (hs_ GE168.out) hb); clear BK168; clear HB; have BK168 := n0_; have HB := n1_; clear n0_ n1_; (try clear hb); (try clear hb2); (try clear hk); (try clear hi)))
   go_ret
   exact ⟨by first | rfl | (simp [errW_none, errW_some] <;> rfl) | (simp [*, errW_none, errW_some] <;> rfl), hs_ GE168.out⟩
  ·rw [if_neg c6] at H
   have c6b0 : (a0 == 1) = false := beq_eq_false_iff_ne.mpr c6
   have c6b1 : (a0 != 1) = true := bne_iff_ne.mpr c6
   by_cases c11 : a0 = 2
   ·rw [if_pos c11] at H
    have c11b0 : (a0 == 2) = true := beq_iff_eq.mpr c11
    have c11b1 : (a0 != 2) = false := bne_eq_false_iff_eq.mpr c11
    clear c11
    replace H := bI H
    obtain ⟨t170, A120, H⟩ := H
    replace H : (if t170 = 0 then (none) else (some (wrap64 (Int.tdiv a1_1 t170)))) = some r := H
    have A12 := Aside0.mk A120
    clear A120
    by_cases c13 : t170 = 0
    ·rw [if_pos c13] at H
     exact absurd H (by simp)
    ·rw [if_neg c13] at H
     have c13b0 : (t170 == 0) = false := beq_eq_false_iff_ne.mpr c13
     have c13b1 : (t170 != 0) = true := bne_iff_ne.mpr c13
     obtain rfl := oI H
     go_enter Try.func74, Try.ntmps74
     try go_wp2_with (first | ((with_reducible refine gate_dst (N := 3) rfl ?_); refine box_event ?hg (N := 3) ?hd (cs := #[.int .i64 a1_0, .int .i64 a1_1]) (t := 37) ?hr ?_; (case hd => rfl); (case hg => rfl); (case hr => first | (go_simp; done) | (go_simp; rfl)); intro gb168 hg w14 hbox hb; have n0_ := Aside0.mk (below_step hb_ hb); have n1_ := Aside0.mk (hbox); have n2_ := Aside0.mk ((by rw [hg]; exact (below_size hb_) : w.heap.size ≤ gb168)); have n3_ := Aside0.mk ((by rw [hg]; exact (below_size hb_) : w.heap.size ≤ gb168)); clear HB; have HB := n0_; have BK168 := n1_; have GW168 := n2_; have GE168 := n3_; clear n0_ n1_ n2_ n3_; clear hb hbox hg))
     have n0_ := Aside0.mk (blk_drew BK168.out)
     have n1_ := Aside0.mk (below_drew1 HB.out)
     clear BK168
     clear HB
     have BK168 := n0_
     have HB := n1_
     clear n0_ n1_
     refine start_ (n := 6) (S := fun w' => w'.cell? ⟨gb168, 0, none⟩ = some (.int .i64 a1_0) ∧ w'.cell? ⟨gb168, 1, none⟩ = some (.int .i64 a1_1)) (ds := []) #[false, false, false, false, false, false] (by kernel_rfl) rfl rfl ⟨(blk_cell BK168.out 0).trans rfl, (blk_cell BK168.out 1).trans rfl⟩ (fun hHeld => ?_)
     generalize w14.drew = w15 at BK168 HB hHeld ⊢
     refine pure_ (i := 0) (N := some 16) (v := ?_) (a' := ?_) #[true, false, false, false, false, false] rfl rfl (by kernel_rfl) (fun _ _ _ h => h) (Or.inl ⟨by rfl, ?_⟩) ?_ ?_
     rotate_left
     ·intro w'
      go_simp
      with_reducible rfl
     rotate_left
     ·simp only [Act.put, sT, sZ, sS, i64_w, i32_w]
      rfl
     refine take_ (i := 1) (N := some 17) (v := ?_) (a' := ?_) #[true, true, false, false, false, false] rfl rfl (by kernel_rfl) (fun _ _ _ h => h) (Or.inl ⟨by rfl, ?_⟩) hHeld ?_ ?_
     rotate_left
     ·rintro w' ⟨s0, s1⟩
      go_simp
      with_reducible rfl
     rotate_left
     ·simp only [Act.put, sT, sZ, sS, i64_w, i32_w]
      rfl
     refine take_ (i := 2) (N := some 18) (v := ?_) (a' := ?_) #[true, true, true, false, false, false] rfl rfl (by kernel_rfl) (fun _ _ _ h => h) (Or.inl ⟨by rfl, ?_⟩) hHeld ?_ ?_
     rotate_left
     ·rintro w' ⟨s0, s1⟩
      go_simp
      with_reducible rfl
     rotate_left
     ·simp only [Act.put, sT, sZ, sS, i64_w, i32_w]
      rfl
     refine one_ (i := 3) (N := some 19) #[true, true, true, true, false, false] rfl rfl (by kernel_rfl) (by decide) (fun K hK => ?_)
     refine goes_ Try.func78 (by kernel_rfl) rfl #[.agg #[.int .i64 a1_0, .int .i64 a1_1]] (by rfl) rfl rfl ar_ ?_
     with_reducible refine (impl_Star_strings.calls k a1_0 a1_1 t170 _ A12.out).mono ?_
     rintro e w16 ⟨rfl, hb⟩
     refine ⟨_, rfl, ?_⟩
     have n0_ := Aside0.mk (blk_below (g := gb168) (o := .cells #[.int .i64 a1_0, .int .i64 a1_1] 37 (0, 0)) (kx_ BK168.out) hb)
     have n1_ := Aside0.mk (below_step (hs_ GE168.out) hb)
     clear BK168
     clear HB
     have BK168 := n0_
     have HB := n1_
     clear n0_ n1_
     (try clear hb)
     (try clear hb2)
     (try clear hk)
     (try clear hi)
     refine hK.out _ _ ⟨(blk_cell BK168.out 0).trans rfl, (blk_cell BK168.out 1).trans rfl⟩ (fun hHeld => ?_)
     clear hK K
     refine norm_ (a' := ?_) ?_ ?_
     rotate_left
     ·show Act.put _ (some 19) _ = _
      simp only [Act.put, sT, sZ, sS, i64_w, i32_w]
      rfl
     refine pure_ (i := 4) (N := some 20) (v := ?_) (a' := ?_) #[true, true, true, true, true, false] rfl rfl (by kernel_rfl) (fun _ _ _ h => h) (Or.inl ⟨by rfl, ?_⟩) ?_ ?_
     rotate_left
     ·intro w'
      go_simp
      with_reducible rfl
     rotate_left
     ·simp only [Act.put, sT, sZ, sS, i64_w, i32_w]
      rfl
     refine pure_ (i := 5) (N := some 4) (v := ?_) (a' := ?_) #[true, true, true, true, true, true] rfl rfl (by kernel_rfl) (fun _ _ _ h => h) (Or.inl ⟨by rfl, ?_⟩) ?_ ?_
     rotate_left
     ·intro w'
      go_simp
      with_reducible rfl
     rotate_left
     ·simp only [Act.put, sT, sZ, sS, i64_w, i32_w]
      rfl
     refine done_ (by kernel_rfl) ?_
     try go_wp2
     go_ret
     exact ⟨by first | rfl | (simp [errW_none, errW_some] <;> rfl) | (simp [*, errW_none, errW_some] <;> rfl), hs_ GE168.out⟩
   ·rw [if_neg c11] at H
    have c11b0 : (a0 == 2) = false := beq_eq_false_iff_ne.mpr c11
    have c11b1 : (a0 != 2) = true := bne_iff_ne.mpr c11
    by_cases c17 : a0 = 3
    ·rw [if_pos c17] at H
     have c17b0 : (a0 == 3) = true := beq_iff_eq.mpr c17
     have c17b1 : (a0 != 3) = false := bne_eq_false_iff_eq.mpr c17
     clear c17
     replace H := bI H
     obtain ⟨t171, A180, H⟩ := H
     replace H : ((impl_crossings.f k t171).bind fun t174 => (some t174)) = some r := H
     have A18 := Aside0.mk A180
     clear A180
     replace H := bI H
     obtain ⟨t174, A190, H⟩ := H
     replace H : (some t174) = some r := H
     have A19 := Aside0.mk A190
     clear A190
     obtain rfl := oI H
     go_enter Try.func74, Try.ntmps74
     go_wp2_with (first | ((with_reducible refine gate_dst (N := 3) rfl ?_); refine box_event ?hg (N := 3) ?hd (cs := #[.int .i64 a1_0, .int .i64 a1_1]) (t := 37) ?hr ?_; (case hd => rfl); (case hg => rfl); (case hr => first | (go_simp; done) | (go_simp; rfl)); intro gb168 hg w20 hbox hb; have n0_ := Aside0.mk (below_step hb_ hb); have n1_ := Aside0.mk (hbox); have n2_ := Aside0.mk ((by rw [hg]; exact (below_size hb_) : w.heap.size ≤ gb168)); have n3_ := Aside0.mk ((by rw [hg]; exact (below_size hb_) : w.heap.size ≤ gb168)); clear HB; have HB := n0_; have BK168 := n1_; have GW168 := n2_; have GE168 := n3_; clear n0_ n1_ n2_ n3_; clear hb hbox hg; have hcz21_0 : w20.cell? ⟨gb168, 0, none⟩ = some (.int .i64 a1_0) := (blk_cell BK168.out 0).trans rfl; have hcz21_1 : w20.cell? ⟨gb168, 1, none⟩ = some (.int .i64 a1_1) := (blk_cell BK168.out 1).trans rfl; have hfz21_0 := blk_frozen BK168.out 0; have hfz21_1 := blk_frozen BK168.out 1) | ((with_reducible refine gate_callee (f := 80) rfl ?_); refine goesL_ (some 24) rfl rfl Try.func80 (by kernel_rfl) rfl #[.agg #[.int .i64 a1_0, .int .i64 a1_1]] rfl ar_ ?_; (with_reducible refine (impl_Star_chords.calls k a1_0 a1_1 t171 _ A18.out).mono ?_); rintro e w22 ⟨v172, rfl, ho0, hb⟩; refine ⟨_, rfl, ?_⟩; have n0_ := Aside0.mk (Kd.R_lower ho0 (below_size (hs_ GE168.out))); have n1_ := Aside0.mk (blk_below (g := gb168) (o := .cells #[.int .i64 a1_0, .int .i64 a1_1] 37 (0, 0)) (kx_ BK168.out) hb); have n2_ := Aside0.mk (below_step (hs_ GE168.out) hb); clear BK168; clear HB; have HO173 := n0_; have BK168 := n1_; have HB := n2_; clear n0_ n1_ n2_; (try clear hb); (try clear hb2); (try clear hk); (try clear hi); (try clear ho0); obtain ⟨Ao23, co23, eo23⟩ := Kd.R_slice HO173.out; subst eo23) | ((with_reducible refine gate_callee (f := 79) rfl ?_); refine goesL_ (some 25) rfl rfl Try.func79 (by kernel_rfl) rfl #[.slice Ao23 t171.length co23] rfl ar_ ?_; (with_reducible refine (impl_crossings.calls k _ _ t171 t174 _ ?side1 ?side2 A19.out).mono ?_); (case side1 => repeat (first | exact (Kd.R_reads' HO173.out).2.2 | (with_reducible refine Kd.C_alloc ?_ _) | (with_reducible refine Kd.C_drewN ?_ _) | (with_reducible refine Kd.C_drew ?_))); (case side2 => exact (Kd.R_reads' HO173.out).2.1); rintro e w24 ⟨rfl, hb⟩; refine ⟨_, rfl, ?_⟩; have n0_ := Aside0.mk (Kd.R_below (by (with_reducible repeat (first | apply rA | apply rN | apply rD)); exact HO173.out) hb); have n1_ := Aside0.mk (blk_below (g := gb168) (o := .cells #[.int .i64 a1_0, .int .i64 a1_1] 37 (0, 0)) (kx_ BK168.out) hb); have n2_ := Aside0.mk (below_step (hs_ GE168.out) hb); clear HO173; clear BK168; clear HB; have HO173 := n0_; have BK168 := n1_; have HB := n2_; clear n0_ n1_ n2_; (try clear hb); (try clear hb2); (try clear hk); (try clear hi)))
     go_ret
     exact ⟨by first | rfl | (simp [errW_none, errW_some] <;> rfl) | (simp [*, errW_none, errW_some] <;> rfl), hs_ GE168.out⟩
    ·rw [if_neg c17] at H
     have c17b0 : (a0 == 3) = false := beq_eq_false_iff_ne.mpr c17
     have c17b1 : (a0 != 3) = true := bne_iff_ne.mpr c17
     replace H := bI H
     obtain ⟨t175, A250, H⟩ := H
     replace H : (some (t175.length : Int)) = some r := H
     have A25 := Aside0.mk A250
     clear A250
     obtain rfl := oI H
     go_enter Try.func74, Try.ntmps74
     go_wp2_with (first | ((with_reducible refine gate_dst (N := 3) rfl ?_); refine box_event ?hg (N := 3) ?hd (cs := #[.int .i64 a1_0, .int .i64 a1_1]) (t := 37) ?hr ?_; (case hd => rfl); (case hg => rfl); (case hr => first | (go_simp; done) | (go_simp; rfl)); intro gb168 hg w26 hbox hb; have n0_ := Aside0.mk (below_step hb_ hb); have n1_ := Aside0.mk (hbox); have n2_ := Aside0.mk ((by rw [hg]; exact (below_size hb_) : w.heap.size ≤ gb168)); have n3_ := Aside0.mk ((by rw [hg]; exact (below_size hb_) : w.heap.size ≤ gb168)); clear HB; have HB := n0_; have BK168 := n1_; have GW168 := n2_; have GE168 := n3_; clear n0_ n1_ n2_ n3_; clear hb hbox hg; have hcz27_0 : w26.cell? ⟨gb168, 0, none⟩ = some (.int .i64 a1_0) := (blk_cell BK168.out 0).trans rfl; have hcz27_1 : w26.cell? ⟨gb168, 1, none⟩ = some (.int .i64 a1_1) := (blk_cell BK168.out 1).trans rfl; have hfz27_0 := blk_frozen BK168.out 0; have hfz27_1 := blk_frozen BK168.out 1) | ((with_reducible refine gate_callee (f := 80) rfl ?_); refine goesL_ (some 27) rfl rfl Try.func80 (by kernel_rfl) rfl #[.agg #[.int .i64 a1_0, .int .i64 a1_1]] rfl ar_ ?_; (with_reducible refine (impl_Star_chords.calls k a1_0 a1_1 t175 _ A25.out).mono ?_); rintro e w28 ⟨v176, rfl, ho0, hb⟩; refine ⟨_, rfl, ?_⟩; have n0_ := Aside0.mk (Kd.R_lower ho0 (below_size (hs_ GE168.out))); have n1_ := Aside0.mk (blk_below (g := gb168) (o := .cells #[.int .i64 a1_0, .int .i64 a1_1] 37 (0, 0)) (kx_ BK168.out) hb); have n2_ := Aside0.mk (below_step (hs_ GE168.out) hb); clear BK168; clear HB; have HO177 := n0_; have BK168 := n1_; have HB := n2_; clear n0_ n1_ n2_; (try clear hb); (try clear hb2); (try clear hk); (try clear hi); (try clear ho0); obtain ⟨Ao29, co29, eo29⟩ := Kd.R_slice HO177.out; subst eo29))
     go_ret
     exact ⟨by first | rfl | (simp [errW_none, errW_some] <;> rfl) | (simp [*, errW_none, errW_some] <;> rfl), hs_ GE168.out⟩
def impl_fits.f (k : Nat) (a0_0 : Int) (a0_1 : Int) (a0_2 : Int) (a1_0 : Int) (a1_1 : Int) : Option (Bool) := if a0_0 = 4 then (if a0_1 < a1_0 then (if a1_0 = 0 then (none) else (some ((Int.tmod (wrap64 (a0_1 + a1_1)) a1_0) == a0_2))) else (some false)) else ((impl_told.f k a0_0 a1_0 a1_1).bind fun t180 => (some (t180 == a0_1)))
theorem impl_fits.mono : ∀ a0 a1 a2 a3 a4 k, LeO (impl_fits.f k a0 a1 a2 a3 a4) (impl_fits.f (k + 1) a0 a1 a2 a3 a4) := by
 intro a0 a1 a2 a3 a4 k
 unfold impl_fits.f
 repeat' first
   | (with_reducible exact impl_told.mono _ _ _ _)
   | (with_reducible exact LeO.refl _)
   | (with_reducible exact LeO.none _)
   | (with_reducible refine LeO.ite ?_ ?_)
   | (with_reducible refine LeO.bind ?_ (fun _ => ?_))
   | exact impl_told.mono _ _ _ _
   | exact LeO.none _
   | refine LeO.ite ?_ ?_
   | refine LeO.bind ?_ (fun _ => ?_)
def impl_fits.T2 : Bool × List (List Nat × List Nat) := (true, [([], []), ([0], [0]), ([], []), ([2], [2]), ([1, 3], [1, 3]), ([4], [4]), ([5], [5]), ([6, 5], [5, 6]), ([5], [5]), ([8, 5], [5, 8]), ([7, 9, 5], [5, 7, 9]), ([5], [5]), ([11, 5], [5, 11]), ([10, 12, 5], [5, 10, 12]), ([5], [5]), ([14, 5], [5, 14]), ([13, 15, 5], [5, 13, 15]), ([5, 16], [5, 16]), ([17, 5, 0, 1, 2, 3, 4, 5, 6, 7, 8, 9, 10, 11, 12, 13, 14, 15, 16, 17], [17])])
def impl_fits.B2 : List Nat := [0, 1, 0, 4, 15, 31, 63, 127, 63, 319, 1023, 63, 2111, 8191, 63, 16447, 65535, 131071, 262143]
theorem impl_fits.tab2 : rtab .any (opsOf Try.f68 2) = impl_fits.T2 := by kernel_rfl
theorem impl_fits.bits2 : waitsOk impl_fits.T2.2 impl_fits.B2 = true := by kernel_rfl
def impl_fits.T3 : Bool × List (List Nat × List Nat) := (true, [([], []), ([0], [0]), ([], []), ([1, 2], [1, 2]), ([], []), ([4], [4]), ([3, 5], [3, 5]), ([6, 3, 0, 1, 2, 3, 4, 5, 6], [6])])
def impl_fits.B3 : List Nat := [0, 1, 0, 7, 0, 16, 63, 127]
theorem impl_fits.tab3 : rtab .any (opsOf Try.f68 3) = impl_fits.T3 := by kernel_rfl
theorem impl_fits.bits3 : waitsOk impl_fits.T3.2 impl_fits.B3 = true := by kernel_rfl
set_option maxHeartbeats 8000000 in
set_option maxRecDepth 100000 in
theorem impl_fits.calls (k : Nat) (a0_0 : Int) (a0_1 : Int) (a0_2 : Int) (a1_0 : Int) (a1_1 : Int) (r : Bool) (w : World) (h : impl_fits.f k a0_0 a0_1 a0_2 a1_0 a1_1 = some r) :
  Calls Try.prog 68 #[.agg #[.int .i64 a0_0, .int .i64 a0_1, .int .i64 a0_2], .agg #[.int .i64 a1_0, .int .i64 a1_1]] w fun e w' => e = .returned (.bool r) ∧ Below w.heap.size w w' := by
 have hu67 := Try.underlying67
 have hu37 := Try.underlying37
 have HB := Aside0.mk (Below.refl w.heap.size w)
 have H : (if a0_0 = 4 then (if a0_1 < a1_0 then (if a1_0 = 0 then (none) else (some ((Int.tmod (wrap64 (a0_1 + a1_1)) a1_0) == a0_2))) else (some false)) else ((impl_told.f k a0_0 a1_0 a1_1).bind fun t180 => (some (t180 == a0_1)))) = some r := h
 clear h
 by_cases c3 : a0_0 = 4
 ·rw [if_pos c3] at H
  have c3b0 : (a0_0 == 4) = true := beq_iff_eq.mpr c3
  have c3b1 : (a0_0 != 4) = false := bne_eq_false_iff_eq.mpr c3
  clear c3
  by_cases c4 : a0_1 < a1_0
  ·rw [if_pos c4] at H
   have c4b0 : decide (a0_1 < a1_0) = true := decide_eq_true c4
   clear c4
   by_cases c5 : a1_0 = 0
   ·rw [if_pos c5] at H
    exact absurd H (by simp)
   ·rw [if_neg c5] at H
    have c5b0 : (a1_0 == 0) = false := beq_eq_false_iff_ne.mpr c5
    have c5b1 : (a1_0 != 0) = true := bne_iff_ne.mpr c5
    obtain rfl := oI H
    go_enter Try.func68, Try.ntmps68
    try go_wp2_with (first | ((with_reducible refine gate_dst (N := 2) rfl ?_); refine box_event ?hg (N := 2) ?hd (cs := #[.int .i64 a0_0, .int .i64 a0_1, .int .i64 a0_2]) (t := 67) ?hr ?_; (case hd => rfl); (case hg => rfl); (case hr => first | (go_simp; done) | (go_simp; rfl)); intro gb178 hg w6 hbox hb; have n0_ := Aside0.mk (below_step hb_ hb); have n1_ := Aside0.mk (hbox); have n2_ := Aside0.mk ((by rw [hg]; exact (below_size hb_) : w.heap.size ≤ gb178)); have n3_ := Aside0.mk ((by rw [hg]; exact (below_size hb_) : w.heap.size ≤ gb178)); clear HB; have HB := n0_; have BK178 := n1_; have GW178 := n2_; have GE178 := n3_; clear n0_ n1_ n2_ n3_; clear hb hbox hg) | ((with_reducible refine gate_dst (N := 3) rfl ?_); refine box_event ?hg (N := 3) ?hd (cs := #[.int .i64 a1_0, .int .i64 a1_1]) (t := 37) ?hr ?_; (case hd => rfl); (case hg => rfl); (case hr => first | (go_simp; done) | (go_simp; rfl)); intro gb179 hg w7 hbox hb; have n0_ := Aside0.mk (blk_below (g := gb178) (o := .cells #[.int .i64 a0_0, .int .i64 a0_1, .int .i64 a0_2] 67 (0, 0)) (kx_ BK178.out) hb); have n1_ := Aside0.mk (below_step (hs_ GE178.out) hb); have n2_ := Aside0.mk (hbox); have n3_ := Aside0.mk ((by rw [hg]; exact (below_size (hs_ GE178.out)) : w.heap.size ≤ gb179)); have n4_ := Aside0.mk ((by rw [hg]; exact (below_size (hs_ GE178.out)) : w.heap.size ≤ gb179)); have n5_ := Aside0.mk ((by rw [hg]; exact Nat.ne_of_lt (blk_lt (g := gb178) (o := .cells #[.int .i64 a0_0, .int .i64 a0_1, .int .i64 a0_2] 67 (0, 0)) (kx_ BK178.out)) : gb178 ≠ gb179)); have n6_ := Aside0.mk ((by rw [hg]; exact Nat.ne_of_gt (blk_lt (g := gb178) (o := .cells #[.int .i64 a0_0, .int .i64 a0_1, .int .i64 a0_2] 67 (0, 0)) (kx_ BK178.out)) : gb179 ≠ gb178)); clear BK178; clear HB; have BK178 := n0_; have HB := n1_; have BK179 := n2_; have GW179 := n3_; have GE179 := n4_; have NB178_179 := n5_; have NB179_178 := n6_; clear n0_ n1_ n2_ n3_ n4_ n5_ n6_; clear hb hbox hg; have hnb8 := NB178_179.out; have hnc8 := NB179_178.out; have hcz9_0 : w7.cell? ⟨gb178, 0, none⟩ = some (.int .i64 a0_0) := (blk_cell BK178.out 0).trans rfl; have hcz9_1 : w7.cell? ⟨gb178, 1, none⟩ = some (.int .i64 a0_1) := (blk_cell BK178.out 1).trans rfl; have hcz9_2 : w7.cell? ⟨gb178, 2, none⟩ = some (.int .i64 a0_2) := (blk_cell BK178.out 2).trans rfl; have hfz9_0 := blk_frozen BK178.out 0; have hfz9_1 := blk_frozen BK178.out 1; have hfz9_2 := blk_frozen BK178.out 2))
    have n0_ := Aside0.mk (blk_drew BK178.out)
    have n1_ := Aside0.mk (blk_drew BK179.out)
    have n2_ := Aside0.mk (below_drew1 HB.out)
    clear BK178
    clear BK179
    clear HB
    have BK178 := n0_
    have BK179 := n1_
    have HB := n2_
    clear n0_ n1_ n2_
    refine start_ (n := 19) (S := fun w' => w'.cell? ⟨gb178, 0, none⟩ = some (.int .i64 a0_0) ∧ w'.cell? ⟨gb178, 1, none⟩ = some (.int .i64 a0_1) ∧ w'.cell? ⟨gb178, 2, none⟩ = some (.int .i64 a0_2) ∧ w'.cell? ⟨gb179, 0, none⟩ = some (.int .i64 a1_0) ∧ w'.cell? ⟨gb179, 1, none⟩ = some (.int .i64 a1_1)) (ds := []) #[false, false, false, false, false, false, false, false, false, false, false, false, false, false, false, false, false, false, false] (by kernel_rfl) rfl rfl ⟨(blk_cell BK178.out 0).trans rfl, (blk_cell BK178.out 1).trans rfl, (blk_cell BK178.out 2).trans rfl, (blk_cell BK179.out 0).trans rfl, (blk_cell BK179.out 1).trans rfl⟩ (fun hHeld => ?_); refine with_tabW impl_fits.tab2 impl_fits.bits2 (fun HT_ HW_ => ?_)
    generalize w7.drew = w10 at BK178 BK179 HB hHeld ⊢
    refine pure_ (i := 0) (N := some 8) (v := ?_) (a' := ?_) #[true, false, false, false, false, false, false, false, false, false, false, false, false, false, false, false, false, false, false] rfl rfl (any_of HT_.out (by kernel_rfl)) (fun _ _ _ h => h) (Or.inl ⟨by rfl, ?_⟩) ?_ ?_
    rotate_left
    ·intro w'
     go_simp
     with_reducible rfl
    rotate_left
    ·simp only [Act.put, sT, sZ, sS, i64_w, i32_w]
     rfl
    refine pure_ (i := 2) (N := some 10) (v := ?_) (a' := ?_) #[true, false, true, false, false, false, false, false, false, false, false, false, false, false, false, false, false, false, false] rfl rfl (any_of HT_.out (by kernel_rfl)) (fun _ _ _ h => h) (Or.inl ⟨by rfl, ?_⟩) ?_ ?_
    rotate_left
    ·intro w'
     go_simp
     with_reducible rfl
    rotate_left
    ·simp only [Act.put, sT, sZ, sS, i64_w, i32_w]
     rfl
    refine take_ (i := 1) (N := some 9) (v := ?_) (a' := ?_) #[true, true, true, false, false, false, false, false, false, false, false, false, false, false, false, false, false, false, false] rfl rfl (take_ofW HT_.out HW_.out (by kernel_rfl)) (fun _ _ _ h => h) (Or.inl ⟨by rfl, ?_⟩) hHeld ?_ ?_
    rotate_left
    ·rintro w' ⟨s0, s1, s2, s3, s4⟩
     go_simp
     with_reducible rfl
    rotate_left
    ·simp only [Act.put, sT, sZ, sS, i64_w, i32_w]
     rfl
    refine take_ (i := 3) (N := some 11) (v := ?_) (a' := ?_) #[true, true, true, true, false, false, false, false, false, false, false, false, false, false, false, false, false, false, false] rfl rfl (take_ofW HT_.out HW_.out (by kernel_rfl)) (fun _ _ _ h => h) (Or.inl ⟨by rfl, ?_⟩) hHeld ?_ ?_
    rotate_left
    ·rintro w' ⟨s0, s1, s2, s3, s4⟩
     go_simp
     with_reducible rfl
    rotate_left
    ·simp only [Act.put, sT, sZ, sS, i64_w, i32_w]
     rfl
    refine pure_ (i := 4) (N := some 12) (v := ?_) (a' := ?_) #[true, true, true, true, true, false, false, false, false, false, false, false, false, false, false, false, false, false, false] rfl rfl (any_of HT_.out (by kernel_rfl)) (fun _ _ _ h => h) (Or.inl ⟨by rfl, ?_⟩) ?_ ?_
    rotate_left
    ·intro w'
     go_simp
     with_reducible rfl
    rotate_left
    ·simp only [Act.put, sT, sZ, sS, i64_w, i32_w]
     rfl
    refine pure_ (i := 5) (N := some 13) (v := ?_) (a' := ?_) #[true, true, true, true, true, true, false, false, false, false, false, false, false, false, false, false, false, false, false] rfl rfl (any_of HT_.out (by kernel_rfl)) (fun _ _ _ h => h) (Or.inl ⟨by rfl, ?_⟩) ?_ ?_
    rotate_left
    ·intro w'
     go_simp
     with_reducible rfl
    rotate_left
    ·simp only [Act.put, sT, sZ, sS, i64_w, i32_w]
     rfl
    refine pure_ (i := 6) (N := some 14) (v := ?_) (a' := ?_) #[true, true, true, true, true, true, true, false, false, false, false, false, false, false, false, false, false, false, false] rfl rfl (any_of HT_.out (by kernel_rfl)) (fun _ _ _ h => h) (Or.inl ⟨by rfl, ?_⟩) ?_ ?_
    rotate_left
    ·intro w'
     go_simp
     with_reducible rfl
    rotate_left
    ·simp only [Act.put, sT, sZ, sS, i64_w, i32_w]
     rfl
    refine pure_ (i := 8) (N := some 16) (v := ?_) (a' := ?_) #[true, true, true, true, true, true, true, false, true, false, false, false, false, false, false, false, false, false, false] rfl rfl (any_of HT_.out (by kernel_rfl)) (fun _ _ _ h => h) (Or.inl ⟨by rfl, ?_⟩) ?_ ?_
    rotate_left
    ·intro w'
     go_simp
     with_reducible rfl
    rotate_left
    ·simp only [Act.put, sT, sZ, sS, i64_w, i32_w]
     rfl
    refine pure_ (i := 11) (N := some 19) (v := ?_) (a' := ?_) #[true, true, true, true, true, true, true, false, true, false, false, true, false, false, false, false, false, false, false] rfl rfl (any_of HT_.out (by kernel_rfl)) (fun _ _ _ h => h) (Or.inl ⟨by rfl, ?_⟩) ?_ ?_
    rotate_left
    ·intro w'
     go_simp
     with_reducible rfl
    rotate_left
    ·simp only [Act.put, sT, sZ, sS, i64_w, i32_w]
     rfl
    refine pure_ (i := 14) (N := some 22) (v := ?_) (a' := ?_) #[true, true, true, true, true, true, true, false, true, false, false, true, false, false, true, false, false, false, false] rfl rfl (any_of HT_.out (by kernel_rfl)) (fun _ _ _ h => h) (Or.inl ⟨by rfl, ?_⟩) ?_ ?_
    rotate_left
    ·intro w'
     go_simp
     with_reducible rfl
    rotate_left
    ·simp only [Act.put, sT, sZ, sS, i64_w, i32_w]
     rfl
    refine take_ (i := 7) (N := some 15) (v := ?_) (a' := ?_) #[true, true, true, true, true, true, true, true, true, false, false, true, false, false, true, false, false, false, false] rfl rfl (take_ofW HT_.out HW_.out (by kernel_rfl)) (fun _ _ _ h => h) (Or.inl ⟨by rfl, ?_⟩) hHeld ?_ ?_
    rotate_left
    ·rintro w' ⟨s0, s1, s2, s3, s4⟩
     go_simp
     with_reducible rfl
    rotate_left
    ·simp only [Act.put, sT, sZ, sS, i64_w, i32_w]
     rfl
    refine take_ (i := 9) (N := some 17) (v := ?_) (a' := ?_) #[true, true, true, true, true, true, true, true, true, true, false, true, false, false, true, false, false, false, false] rfl rfl (take_ofW HT_.out HW_.out (by kernel_rfl)) (fun _ _ _ h => h) (Or.inl ⟨by rfl, ?_⟩) hHeld ?_ ?_
    rotate_left
    ·rintro w' ⟨s0, s1, s2, s3, s4⟩
     go_simp
     with_reducible rfl
    rotate_left
    ·simp only [Act.put, sT, sZ, sS, i64_w, i32_w]
     rfl
    refine pure_ (i := 10) (N := some 18) (v := ?_) (a' := ?_) #[true, true, true, true, true, true, true, true, true, true, true, true, false, false, true, false, false, false, false] rfl rfl (any_of HT_.out (by kernel_rfl)) (fun _ _ _ h => h) (Or.inl ⟨by rfl, ?_⟩) ?_ ?_
    rotate_left
    ·intro w'
     go_simp
     with_reducible rfl
    rotate_left
    ·simp only [Act.put, sT, sZ, sS, i64_w, i32_w]
     rfl
    refine take_ (i := 12) (N := some 20) (v := ?_) (a' := ?_) #[true, true, true, true, true, true, true, true, true, true, true, true, true, false, true, false, false, false, false] rfl rfl (take_ofW HT_.out HW_.out (by kernel_rfl)) (fun _ _ _ h => h) (Or.inl ⟨by rfl, ?_⟩) hHeld ?_ ?_
    rotate_left
    ·rintro w' ⟨s0, s1, s2, s3, s4⟩
     go_simp
     with_reducible rfl
    rotate_left
    ·simp only [Act.put, sT, sZ, sS, i64_w, i32_w]
     rfl
    refine pure_ (i := 13) (N := some 21) (v := ?_) (a' := ?_) #[true, true, true, true, true, true, true, true, true, true, true, true, true, true, true, false, false, false, false] rfl rfl (any_of HT_.out (by kernel_rfl)) (fun _ _ _ h => h) (Or.inl ⟨by rfl, ?_⟩) ?_ ?_
    rotate_left
    ·intro w'
     go_simp
     with_reducible rfl
    rotate_left
    ·simp only [Act.put, sT, sZ, sS, i64_w, i32_w]
     rfl
    refine take_ (i := 15) (N := some 23) (v := ?_) (a' := ?_) #[true, true, true, true, true, true, true, true, true, true, true, true, true, true, true, true, false, false, false] rfl rfl (take_ofW HT_.out HW_.out (by kernel_rfl)) (fun _ _ _ h => h) (Or.inl ⟨by rfl, ?_⟩) hHeld ?_ ?_
    rotate_left
    ·rintro w' ⟨s0, s1, s2, s3, s4⟩
     go_simp
     with_reducible rfl
    rotate_left
    ·simp only [Act.put, sT, sZ, sS, i64_w, i32_w]
     rfl
    refine pure_ (i := 16) (N := some 24) (v := ?_) (a' := ?_) #[true, true, true, true, true, true, true, true, true, true, true, true, true, true, true, true, true, false, false] rfl rfl (any_of HT_.out (by kernel_rfl)) (fun _ _ _ h => h) (Or.inl ⟨by rfl, ?_⟩) ?_ ?_
    rotate_left
    ·intro w'
     go_simp
     with_reducible rfl
    rotate_left
    ·simp only [Act.put, sT, sZ, sS, i64_w, i32_w]
     rfl
    refine pure_ (i := 17) (N := some 25) (v := ?_) (a' := ?_) #[true, true, true, true, true, true, true, true, true, true, true, true, true, true, true, true, true, true, false] rfl rfl (any_of HT_.out (by kernel_rfl)) (fun _ _ _ h => h) (Or.inl ⟨by rfl, ?_⟩) ?_ ?_
    rotate_left
    ·intro w'
     go_simp
     with_reducible rfl
    rotate_left
    ·simp only [Act.put, sT, sZ, sS, i64_w, i32_w]
     rfl
    refine pure_ (i := 18) (N := some 4) (v := ?_) (a' := ?_) #[true, true, true, true, true, true, true, true, true, true, true, true, true, true, true, true, true, true, true] rfl rfl (any_of HT_.out (by kernel_rfl)) (fun _ _ _ h => h) (Or.inl ⟨by rfl, ?_⟩) ?_ ?_
    rotate_left
    ·intro w'
     go_simp
     with_reducible rfl
    rotate_left
    ·simp only [Act.put, sT, sZ, sS, i64_w, i32_w]
     rfl
    refine done_ (done_of HT_.out (by kernel_rfl)) ?_
    try go_wp2
    go_ret
    exact ⟨by first | rfl | (simp [errW_none, errW_some] <;> rfl) | (simp [*, errW_none, errW_some] <;> rfl), by repeat (first | (with_reducible first | exact HB.out | apply bA | apply bN | apply bD | refine below_set ?_ GE178.out | refine below_set ?_ GE179.out) | exact HB.out)⟩
  ·rw [if_neg c4] at H
   have c4b0 : decide (a0_1 < a1_0) = false := decide_eq_false c4
   clear c4
   obtain rfl := oI H
   go_enter Try.func68, Try.ntmps68
   try go_wp2_with (first | ((with_reducible refine gate_dst (N := 2) rfl ?_); refine box_event ?hg (N := 2) ?hd (cs := #[.int .i64 a0_0, .int .i64 a0_1, .int .i64 a0_2]) (t := 67) ?hr ?_; (case hd => rfl); (case hg => rfl); (case hr => first | (go_simp; done) | (go_simp; rfl)); intro gb178 hg w11 hbox hb; have n0_ := Aside0.mk (below_step hb_ hb); have n1_ := Aside0.mk (hbox); have n2_ := Aside0.mk ((by rw [hg]; exact (below_size hb_) : w.heap.size ≤ gb178)); have n3_ := Aside0.mk ((by rw [hg]; exact (below_size hb_) : w.heap.size ≤ gb178)); clear HB; have HB := n0_; have BK178 := n1_; have GW178 := n2_; have GE178 := n3_; clear n0_ n1_ n2_ n3_; clear hb hbox hg) | ((with_reducible refine gate_dst (N := 3) rfl ?_); refine box_event ?hg (N := 3) ?hd (cs := #[.int .i64 a1_0, .int .i64 a1_1]) (t := 37) ?hr ?_; (case hd => rfl); (case hg => rfl); (case hr => first | (go_simp; done) | (go_simp; rfl)); intro gb179 hg w12 hbox hb; have n0_ := Aside0.mk (blk_below (g := gb178) (o := .cells #[.int .i64 a0_0, .int .i64 a0_1, .int .i64 a0_2] 67 (0, 0)) (kx_ BK178.out) hb); have n1_ := Aside0.mk (below_step (hs_ GE178.out) hb); have n2_ := Aside0.mk (hbox); have n3_ := Aside0.mk ((by rw [hg]; exact (below_size (hs_ GE178.out)) : w.heap.size ≤ gb179)); have n4_ := Aside0.mk ((by rw [hg]; exact (below_size (hs_ GE178.out)) : w.heap.size ≤ gb179)); have n5_ := Aside0.mk ((by rw [hg]; exact Nat.ne_of_lt (blk_lt (g := gb178) (o := .cells #[.int .i64 a0_0, .int .i64 a0_1, .int .i64 a0_2] 67 (0, 0)) (kx_ BK178.out)) : gb178 ≠ gb179)); have n6_ := Aside0.mk ((by rw [hg]; exact Nat.ne_of_gt (blk_lt (g := gb178) (o := .cells #[.int .i64 a0_0, .int .i64 a0_1, .int .i64 a0_2] 67 (0, 0)) (kx_ BK178.out)) : gb179 ≠ gb178)); clear BK178; clear HB; have BK178 := n0_; have HB := n1_; have BK179 := n2_; have GW179 := n3_; have GE179 := n4_; have NB178_179 := n5_; have NB179_178 := n6_; clear n0_ n1_ n2_ n3_ n4_ n5_ n6_; clear hb hbox hg; have hnb13 := NB178_179.out; have hnc13 := NB179_178.out; have hcz14_0 : w12.cell? ⟨gb178, 0, none⟩ = some (.int .i64 a0_0) := (blk_cell BK178.out 0).trans rfl; have hcz14_1 : w12.cell? ⟨gb178, 1, none⟩ = some (.int .i64 a0_1) := (blk_cell BK178.out 1).trans rfl; have hcz14_2 : w12.cell? ⟨gb178, 2, none⟩ = some (.int .i64 a0_2) := (blk_cell BK178.out 2).trans rfl; have hfz14_0 := blk_frozen BK178.out 0; have hfz14_1 := blk_frozen BK178.out 1; have hfz14_2 := blk_frozen BK178.out 2))
   have n0_ := Aside0.mk (blk_drew BK178.out)
   have n1_ := Aside0.mk (blk_drew BK179.out)
   have n2_ := Aside0.mk (below_drew1 HB.out)
   clear BK178
   clear BK179
   clear HB
   have BK178 := n0_
   have BK179 := n1_
   have HB := n2_
   clear n0_ n1_ n2_
   refine start_ (n := 19) (S := fun w' => w'.cell? ⟨gb178, 0, none⟩ = some (.int .i64 a0_0) ∧ w'.cell? ⟨gb178, 1, none⟩ = some (.int .i64 a0_1) ∧ w'.cell? ⟨gb178, 2, none⟩ = some (.int .i64 a0_2) ∧ w'.cell? ⟨gb179, 0, none⟩ = some (.int .i64 a1_0) ∧ w'.cell? ⟨gb179, 1, none⟩ = some (.int .i64 a1_1)) (ds := []) #[false, false, false, false, false, false, false, false, false, false, false, false, false, false, false, false, false, false, false] (by kernel_rfl) rfl rfl ⟨(blk_cell BK178.out 0).trans rfl, (blk_cell BK178.out 1).trans rfl, (blk_cell BK178.out 2).trans rfl, (blk_cell BK179.out 0).trans rfl, (blk_cell BK179.out 1).trans rfl⟩ (fun hHeld => ?_); refine with_tabW impl_fits.tab2 impl_fits.bits2 (fun HT_ HW_ => ?_)
   generalize w12.drew = w15 at BK178 BK179 HB hHeld ⊢
   refine pure_ (i := 0) (N := some 8) (v := ?_) (a' := ?_) #[true, false, false, false, false, false, false, false, false, false, false, false, false, false, false, false, false, false, false] rfl rfl (any_of HT_.out (by kernel_rfl)) (fun _ _ _ h => h) (Or.inl ⟨by rfl, ?_⟩) ?_ ?_
   rotate_left
   ·intro w'
    go_simp
    with_reducible rfl
   rotate_left
   ·simp only [Act.put, sT, sZ, sS, i64_w, i32_w]
    rfl
   refine pure_ (i := 2) (N := some 10) (v := ?_) (a' := ?_) #[true, false, true, false, false, false, false, false, false, false, false, false, false, false, false, false, false, false, false] rfl rfl (any_of HT_.out (by kernel_rfl)) (fun _ _ _ h => h) (Or.inl ⟨by rfl, ?_⟩) ?_ ?_
   rotate_left
   ·intro w'
    go_simp
    with_reducible rfl
   rotate_left
   ·simp only [Act.put, sT, sZ, sS, i64_w, i32_w]
    rfl
   refine take_ (i := 1) (N := some 9) (v := ?_) (a' := ?_) #[true, true, true, false, false, false, false, false, false, false, false, false, false, false, false, false, false, false, false] rfl rfl (take_ofW HT_.out HW_.out (by kernel_rfl)) (fun _ _ _ h => h) (Or.inl ⟨by rfl, ?_⟩) hHeld ?_ ?_
   rotate_left
   ·rintro w' ⟨s0, s1, s2, s3, s4⟩
    go_simp
    with_reducible rfl
   rotate_left
   ·simp only [Act.put, sT, sZ, sS, i64_w, i32_w]
    rfl
   refine take_ (i := 3) (N := some 11) (v := ?_) (a' := ?_) #[true, true, true, true, false, false, false, false, false, false, false, false, false, false, false, false, false, false, false] rfl rfl (take_ofW HT_.out HW_.out (by kernel_rfl)) (fun _ _ _ h => h) (Or.inl ⟨by rfl, ?_⟩) hHeld ?_ ?_
   rotate_left
   ·rintro w' ⟨s0, s1, s2, s3, s4⟩
    go_simp
    with_reducible rfl
   rotate_left
   ·simp only [Act.put, sT, sZ, sS, i64_w, i32_w]
    rfl
   refine pure_ (i := 4) (N := some 12) (v := ?_) (a' := ?_) #[true, true, true, true, true, false, false, false, false, false, false, false, false, false, false, false, false, false, false] rfl rfl (any_of HT_.out (by kernel_rfl)) (fun _ _ _ h => h) (Or.inl ⟨by rfl, ?_⟩) ?_ ?_
   rotate_left
   ·intro w'
    go_simp
    with_reducible rfl
   rotate_left
   ·simp only [Act.put, sT, sZ, sS, i64_w, i32_w]
    rfl
   refine pure_ (i := 5) (N := some 13) (v := ?_) (a' := ?_) #[true, true, true, true, true, true, false, false, false, false, false, false, false, false, false, false, false, false, false] rfl rfl (any_of HT_.out (by kernel_rfl)) (fun _ _ _ h => h) (Or.inl ⟨by rfl, ?_⟩) ?_ ?_
   rotate_left
   ·intro w'
    go_simp
    with_reducible rfl
   rotate_left
   ·simp only [Act.put, sT, sZ, sS, i64_w, i32_w]
    rfl
   refine pure_ (i := 6) (N := some 14) (v := undef) (a' := ?_) #[true, true, true, true, true, true, true, false, false, false, false, false, false, false, false, false, false, false, false] rfl rfl (any_of HT_.out (by kernel_rfl)) (fun _ _ _ h => h) (Or.inr ⟨by rfl, rfl⟩) ?_ ?_
   rotate_left
   ·simp only [Act.put, sT, sZ, sS, i64_w, i32_w]
    rfl
   refine pure_ (i := 7) (N := some 15) (v := undef) (a' := ?_) #[true, true, true, true, true, true, true, true, false, false, false, false, false, false, false, false, false, false, false] rfl rfl (any_of HT_.out (by kernel_rfl)) (fun _ _ _ h => h) (Or.inr ⟨by rfl, rfl⟩) ?_ ?_
   rotate_left
   ·simp only [Act.put, sT, sZ, sS, i64_w, i32_w]
    rfl
   refine pure_ (i := 8) (N := some 16) (v := undef) (a' := ?_) #[true, true, true, true, true, true, true, true, true, false, false, false, false, false, false, false, false, false, false] rfl rfl (any_of HT_.out (by kernel_rfl)) (fun _ _ _ h => h) (Or.inr ⟨by rfl, rfl⟩) ?_ ?_
   rotate_left
   ·simp only [Act.put, sT, sZ, sS, i64_w, i32_w]
    rfl
   refine pure_ (i := 9) (N := some 17) (v := undef) (a' := ?_) #[true, true, true, true, true, true, true, true, true, true, false, false, false, false, false, false, false, false, false] rfl rfl (any_of HT_.out (by kernel_rfl)) (fun _ _ _ h => h) (Or.inr ⟨by rfl, rfl⟩) ?_ ?_
   rotate_left
   ·simp only [Act.put, sT, sZ, sS, i64_w, i32_w]
    rfl
   refine pure_ (i := 10) (N := some 18) (v := undef) (a' := ?_) #[true, true, true, true, true, true, true, true, true, true, true, false, false, false, false, false, false, false, false] rfl rfl (any_of HT_.out (by kernel_rfl)) (fun _ _ _ h => h) (Or.inr ⟨by rfl, rfl⟩) ?_ ?_
   rotate_left
   ·simp only [Act.put, sT, sZ, sS, i64_w, i32_w]
    rfl
   refine pure_ (i := 11) (N := some 19) (v := undef) (a' := ?_) #[true, true, true, true, true, true, true, true, true, true, true, true, false, false, false, false, false, false, false] rfl rfl (any_of HT_.out (by kernel_rfl)) (fun _ _ _ h => h) (Or.inr ⟨by rfl, rfl⟩) ?_ ?_
   rotate_left
   ·simp only [Act.put, sT, sZ, sS, i64_w, i32_w]
    rfl
   refine pure_ (i := 12) (N := some 20) (v := undef) (a' := ?_) #[true, true, true, true, true, true, true, true, true, true, true, true, true, false, false, false, false, false, false] rfl rfl (any_of HT_.out (by kernel_rfl)) (fun _ _ _ h => h) (Or.inr ⟨by rfl, rfl⟩) ?_ ?_
   rotate_left
   ·simp only [Act.put, sT, sZ, sS, i64_w, i32_w]
    rfl
   refine pure_ (i := 13) (N := some 21) (v := undef) (a' := ?_) #[true, true, true, true, true, true, true, true, true, true, true, true, true, true, false, false, false, false, false] rfl rfl (any_of HT_.out (by kernel_rfl)) (fun _ _ _ h => h) (Or.inr ⟨by rfl, rfl⟩) ?_ ?_
   rotate_left
   ·simp only [Act.put, sT, sZ, sS, i64_w, i32_w]
    rfl
   refine pure_ (i := 14) (N := some 22) (v := undef) (a' := ?_) #[true, true, true, true, true, true, true, true, true, true, true, true, true, true, true, false, false, false, false] rfl rfl (any_of HT_.out (by kernel_rfl)) (fun _ _ _ h => h) (Or.inr ⟨by rfl, rfl⟩) ?_ ?_
   rotate_left
   ·simp only [Act.put, sT, sZ, sS, i64_w, i32_w]
    rfl
   refine pure_ (i := 15) (N := some 23) (v := undef) (a' := ?_) #[true, true, true, true, true, true, true, true, true, true, true, true, true, true, true, true, false, false, false] rfl rfl (any_of HT_.out (by kernel_rfl)) (fun _ _ _ h => h) (Or.inr ⟨by rfl, rfl⟩) ?_ ?_
   rotate_left
   ·simp only [Act.put, sT, sZ, sS, i64_w, i32_w]
    rfl
   refine pure_ (i := 16) (N := some 24) (v := undef) (a' := ?_) #[true, true, true, true, true, true, true, true, true, true, true, true, true, true, true, true, true, false, false] rfl rfl (any_of HT_.out (by kernel_rfl)) (fun _ _ _ h => h) (Or.inr ⟨by rfl, rfl⟩) ?_ ?_
   rotate_left
   ·simp only [Act.put, sT, sZ, sS, i64_w, i32_w]
    rfl
   refine pure_ (i := 17) (N := some 25) (v := ?_) (a' := ?_) #[true, true, true, true, true, true, true, true, true, true, true, true, true, true, true, true, true, true, false] rfl rfl (any_of HT_.out (by kernel_rfl)) (fun _ _ _ h => h) (Or.inl ⟨by rfl, ?_⟩) ?_ ?_
   rotate_left
   ·intro w'
    go_simp
    with_reducible rfl
   rotate_left
   ·simp only [Act.put, sT, sZ, sS, i64_w, i32_w]
    rfl
   refine pure_ (i := 18) (N := some 4) (v := ?_) (a' := ?_) #[true, true, true, true, true, true, true, true, true, true, true, true, true, true, true, true, true, true, true] rfl rfl (any_of HT_.out (by kernel_rfl)) (fun _ _ _ h => h) (Or.inl ⟨by rfl, ?_⟩) ?_ ?_
   rotate_left
   ·intro w'
    go_simp
    with_reducible rfl
   rotate_left
   ·simp only [Act.put, sT, sZ, sS, i64_w, i32_w]
    rfl
   refine done_ (done_of HT_.out (by kernel_rfl)) ?_
   try go_wp2
   go_ret
   exact ⟨by first | rfl | (simp [errW_none, errW_some] <;> rfl) | (simp [*, errW_none, errW_some] <;> rfl), by repeat (first | (with_reducible first | exact HB.out | apply bA | apply bN | apply bD | refine below_set ?_ GE178.out | refine below_set ?_ GE179.out) | exact HB.out)⟩
 ·rw [if_neg c3] at H
  have c3b0 : (a0_0 == 4) = false := beq_eq_false_iff_ne.mpr c3
  have c3b1 : (a0_0 != 4) = true := bne_iff_ne.mpr c3
  replace H := bI H
  obtain ⟨t180, A160, H⟩ := H
  replace H : (some (t180 == a0_1)) = some r := H
  have A16 := Aside0.mk A160
  clear A160
  obtain rfl := oI H
  go_enter Try.func68, Try.ntmps68
  try go_wp2_with (first | ((with_reducible refine gate_dst (N := 2) rfl ?_); refine box_event ?hg (N := 2) ?hd (cs := #[.int .i64 a0_0, .int .i64 a0_1, .int .i64 a0_2]) (t := 67) ?hr ?_; (case hd => rfl); (case hg => rfl); (case hr => first | (go_simp; done) | (go_simp; rfl)); intro gb178 hg w17 hbox hb; have n0_ := Aside0.mk (below_step hb_ hb); have n1_ := Aside0.mk (hbox); have n2_ := Aside0.mk ((by rw [hg]; exact (below_size hb_) : w.heap.size ≤ gb178)); have n3_ := Aside0.mk ((by rw [hg]; exact (below_size hb_) : w.heap.size ≤ gb178)); clear HB; have HB := n0_; have BK178 := n1_; have GW178 := n2_; have GE178 := n3_; clear n0_ n1_ n2_ n3_; clear hb hbox hg) | ((with_reducible refine gate_dst (N := 3) rfl ?_); refine box_event ?hg (N := 3) ?hd (cs := #[.int .i64 a1_0, .int .i64 a1_1]) (t := 37) ?hr ?_; (case hd => rfl); (case hg => rfl); (case hr => first | (go_simp; done) | (go_simp; rfl)); intro gb179 hg w18 hbox hb; have n0_ := Aside0.mk (blk_below (g := gb178) (o := .cells #[.int .i64 a0_0, .int .i64 a0_1, .int .i64 a0_2] 67 (0, 0)) (kx_ BK178.out) hb); have n1_ := Aside0.mk (below_step (hs_ GE178.out) hb); have n2_ := Aside0.mk (hbox); have n3_ := Aside0.mk ((by rw [hg]; exact (below_size (hs_ GE178.out)) : w.heap.size ≤ gb179)); have n4_ := Aside0.mk ((by rw [hg]; exact (below_size (hs_ GE178.out)) : w.heap.size ≤ gb179)); have n5_ := Aside0.mk ((by rw [hg]; exact Nat.ne_of_lt (blk_lt (g := gb178) (o := .cells #[.int .i64 a0_0, .int .i64 a0_1, .int .i64 a0_2] 67 (0, 0)) (kx_ BK178.out)) : gb178 ≠ gb179)); have n6_ := Aside0.mk ((by rw [hg]; exact Nat.ne_of_gt (blk_lt (g := gb178) (o := .cells #[.int .i64 a0_0, .int .i64 a0_1, .int .i64 a0_2] 67 (0, 0)) (kx_ BK178.out)) : gb179 ≠ gb178)); clear BK178; clear HB; have BK178 := n0_; have HB := n1_; have BK179 := n2_; have GW179 := n3_; have GE179 := n4_; have NB178_179 := n5_; have NB179_178 := n6_; clear n0_ n1_ n2_ n3_ n4_ n5_ n6_; clear hb hbox hg; have hnb19 := NB178_179.out; have hnc19 := NB179_178.out; have hcz20_0 : w18.cell? ⟨gb178, 0, none⟩ = some (.int .i64 a0_0) := (blk_cell BK178.out 0).trans rfl; have hcz20_1 : w18.cell? ⟨gb178, 1, none⟩ = some (.int .i64 a0_1) := (blk_cell BK178.out 1).trans rfl; have hcz20_2 : w18.cell? ⟨gb178, 2, none⟩ = some (.int .i64 a0_2) := (blk_cell BK178.out 2).trans rfl; have hfz20_0 := blk_frozen BK178.out 0; have hfz20_1 := blk_frozen BK178.out 1; have hfz20_2 := blk_frozen BK178.out 2))
  have n0_ := Aside0.mk (blk_drew BK178.out)
  have n1_ := Aside0.mk (blk_drew BK179.out)
  have n2_ := Aside0.mk (below_drew1 HB.out)
  clear BK178
  clear BK179
  clear HB
  have BK178 := n0_
  have BK179 := n1_
  have HB := n2_
  clear n0_ n1_ n2_
  refine start_ (n := 8) (S := fun w' => w'.cell? ⟨gb178, 0, none⟩ = some (.int .i64 a0_0) ∧ w'.cell? ⟨gb178, 1, none⟩ = some (.int .i64 a0_1) ∧ w'.cell? ⟨gb178, 2, none⟩ = some (.int .i64 a0_2) ∧ w'.cell? ⟨gb179, 0, none⟩ = some (.int .i64 a1_0) ∧ w'.cell? ⟨gb179, 1, none⟩ = some (.int .i64 a1_1)) (ds := []) #[false, false, false, false, false, false, false, false] (by kernel_rfl) rfl rfl ⟨(blk_cell BK178.out 0).trans rfl, (blk_cell BK178.out 1).trans rfl, (blk_cell BK178.out 2).trans rfl, (blk_cell BK179.out 0).trans rfl, (blk_cell BK179.out 1).trans rfl⟩ (fun hHeld => ?_); refine with_tabW impl_fits.tab3 impl_fits.bits3 (fun HT_ HW_ => ?_)
  generalize w18.drew = w21 at BK178 BK179 HB hHeld ⊢
  refine pure_ (i := 0) (N := some 26) (v := ?_) (a' := ?_) #[true, false, false, false, false, false, false, false] rfl rfl (any_of HT_.out (by kernel_rfl)) (fun _ _ _ h => h) (Or.inl ⟨by rfl, ?_⟩) ?_ ?_
  rotate_left
  ·intro w'
   go_simp
   with_reducible rfl
  rotate_left
  ·simp only [Act.put, sT, sZ, sS, i64_w, i32_w]
   rfl
  refine pure_ (i := 4) (N := some 30) (v := ?_) (a' := ?_) #[true, false, false, false, true, false, false, false] rfl rfl (any_of HT_.out (by kernel_rfl)) (fun _ _ _ h => h) (Or.inl ⟨by rfl, ?_⟩) ?_ ?_
  rotate_left
  ·intro w'
   go_simp
   with_reducible rfl
  rotate_left
  ·simp only [Act.put, sT, sZ, sS, i64_w, i32_w]
   rfl
  refine take_ (i := 1) (N := some 27) (v := ?_) (a' := ?_) #[true, true, false, false, true, false, false, false] rfl rfl (take_ofW HT_.out HW_.out (by kernel_rfl)) (fun _ _ _ h => h) (Or.inl ⟨by rfl, ?_⟩) hHeld ?_ ?_
  rotate_left
  ·rintro w' ⟨s0, s1, s2, s3, s4⟩
   go_simp
   with_reducible rfl
  rotate_left
  ·simp only [Act.put, sT, sZ, sS, i64_w, i32_w]
   rfl
  refine take_ (i := 2) (N := some 28) (v := ?_) (a' := ?_) #[true, true, true, false, true, false, false, false] rfl rfl (take_ofW HT_.out HW_.out (by kernel_rfl)) (fun _ _ _ h => h) (Or.inl ⟨by rfl, ?_⟩) hHeld ?_ ?_
  rotate_left
  ·rintro w' ⟨s0, s1, s2, s3, s4⟩
   go_simp
   with_reducible rfl
  rotate_left
  ·simp only [Act.put, sT, sZ, sS, i64_w, i32_w]
   rfl
  refine take_ (i := 5) (N := some 31) (v := ?_) (a' := ?_) #[true, true, true, false, true, true, false, false] rfl rfl (take_ofW HT_.out HW_.out (by kernel_rfl)) (fun _ _ _ h => h) (Or.inl ⟨by rfl, ?_⟩) hHeld ?_ ?_
  rotate_left
  ·rintro w' ⟨s0, s1, s2, s3, s4⟩
   go_simp
   with_reducible rfl
  rotate_left
  ·simp only [Act.put, sT, sZ, sS, i64_w, i32_w]
   rfl
  refine one_ (i := 3) (N := some 29) #[true, true, true, true, true, true, false, false] rfl rfl (one_of HT_.out (by kernel_rfl)) (by decide) (fun K hK => ?_)
  refine goes_ Try.func74 (by kernel_rfl) rfl #[.int .i64 a0_0, .agg #[.int .i64 a1_0, .int .i64 a1_1]] (by rfl) rfl rfl ar_ ?_
  with_reducible refine (impl_told.calls k a0_0 a1_0 a1_1 t180 _ A16.out).mono ?_
  rintro e w22 ⟨rfl, hb⟩
  refine ⟨_, rfl, ?_⟩
  have n0_ := Aside0.mk (blk_below (g := gb178) (o := .cells #[.int .i64 a0_0, .int .i64 a0_1, .int .i64 a0_2] 67 (0, 0)) (kx_ BK178.out) hb)
  have n1_ := Aside0.mk (blk_below (g := gb179) (o := .cells #[.int .i64 a1_0, .int .i64 a1_1] 37 (0, 0)) (kx_ BK179.out) hb)
  have n2_ := Aside0.mk (below_step (by repeat (first | (with_reducible first | exact HB.out | apply bA | apply bN | apply bD | refine below_set ?_ GE178.out | refine below_set ?_ GE179.out) | exact HB.out)) hb)
  clear BK178
  clear BK179
  clear HB
  have BK178 := n0_
  have BK179 := n1_
  have HB := n2_
  clear n0_ n1_ n2_
  (try clear hb)
  (try clear hb2)
  (try clear hk)
  (try clear hi)
  refine hK.out _ _ ⟨(blk_cell BK178.out 0).trans rfl, (blk_cell BK178.out 1).trans rfl, (blk_cell BK178.out 2).trans rfl, (blk_cell BK179.out 0).trans rfl, (blk_cell BK179.out 1).trans rfl⟩ (fun hHeld => ?_)
  clear hK K
  refine norm_ (a' := ?_) ?_ ?_
  rotate_left
  ·show Act.put _ (some 29) _ = _
   simp only [Act.put, sT, sZ, sS, i64_w, i32_w]
   rfl
  refine pure_ (i := 6) (N := some 32) (v := ?_) (a' := ?_) #[true, true, true, true, true, true, true, false] rfl rfl (any_of HT_.out (by kernel_rfl)) (fun _ _ _ h => h) (Or.inl ⟨by rfl, ?_⟩) ?_ ?_
  rotate_left
  ·intro w'
   go_simp
   with_reducible rfl
  rotate_left
  ·simp only [Act.put, sT, sZ, sS, i64_w, i32_w]
   rfl
  refine pure_ (i := 7) (N := some 4) (v := ?_) (a' := ?_) #[true, true, true, true, true, true, true, true] rfl rfl (any_of HT_.out (by kernel_rfl)) (fun _ _ _ h => h) (Or.inl ⟨by rfl, ?_⟩) ?_ ?_
  rotate_left
  ·intro w'
   go_simp
   with_reducible rfl
  rotate_left
  ·simp only [Act.put, sT, sZ, sS, i64_w, i32_w]
   rfl
  refine done_ (done_of HT_.out (by kernel_rfl)) ?_
  try go_wp2
  go_ret
  exact ⟨by first | rfl | (simp [errW_none, errW_some] <;> rfl) | (simp [*, errW_none, errW_some] <;> rfl), by repeat (first | (with_reducible first | exact HB.out | apply bA | apply bN | apply bD | refine below_set ?_ GE178.out | refine below_set ?_ GE179.out) | exact HB.out)⟩
end Go.Proofs.Ytkgaljocaapobaa.Pr
/- What a clue tells of a hidden star: the program and the reference tell the same. -/
namespace Go.Proofs.Ytkgaljocaapobaa.M
open Go.RowKit Go.Proofs.YtkgaljocaapobaaW.PrintWords Go.Proofs.Ytkgaljocaapobaa.Pr
def gcdV (n s : Int) : Int := (Nat.gcd s.toNat n.toNat : Nat)
theorem divisor_ev : ∀ (b a : Nat), Ev (fun k => impl_divisor.l0 k (a : Int) (b : Int)) ((Nat.gcd b a : Nat) : Int) := by
  intro b
  induction b using Nat.strongRecOn with
  | ind b ih =>
    intro a
    refine Ev.step (fun k => by rw [impl_divisor.l0]) ?_
    by_cases hb : b = 0
    · subst hb
      refine Ev.neg (by omega) (Ev.val ?_)
      simp
    · refine Ev.pos (by omega) (Ev.neg (by omega) ?_)
      rw [Nat.gcd_rec]
      have e : Int.tmod (a : Int) (b : Int) = ((a % b : Nat) : Int) := (Int.ofNat_tmod a b).symm
      rw [e]
      exact ih (a % b) (Nat.mod_lt _ (by omega)) b
theorem common_ev : ∀ (b a : Nat), Ev (fun k => spec_srCommon.l0 k (a : Int) (b : Int)) ((Nat.gcd b a : Nat) : Int) := by
  intro b
  induction b using Nat.strongRecOn with
  | ind b ih =>
    intro a
    refine Ev.step (fun k => by rw [spec_srCommon.l0]) ?_
    by_cases hb : b = 0
    · subst hb
      refine Ev.neg (by omega) (Ev.val ?_)
      simp
    · refine Ev.pos (by omega) (Ev.neg (by omega) ?_)
      rw [Nat.gcd_rec]
      have e : Int.tmod (a : Int) (b : Int) = ((a % b : Nat) : Int) := (Int.ofNat_tmod a b).symm
      rw [e]
      exact ih (a % b) (Nat.mod_lt _ (by omega)) b
theorem strings_ev (n s : Int) (hn : 0 ≤ n) (hs : 0 ≤ s) : Ev (fun k => impl_Star_strings.f k n s) (gcdV n s) := by
  unfold impl_Star_strings.f impl_divisor.f gcdV
  have e := divisor_ev s.toNat n.toNat
  rw [Int.toNat_of_nonneg hn, Int.toNat_of_nonneg hs] at e
  exact Ev.bindk e (Ev.val rfl)
theorem srCommon_ev (n s : Int) (hn : 0 ≤ n) (hs : 0 ≤ s) : Ev (fun k => spec_srCommon.f k n s) (gcdV n s) := by
  unfold spec_srCommon.f gcdV
  have e := common_ev s.toNat n.toNat
  rw [Int.toNat_of_nonneg hn, Int.toNat_of_nonneg hs] at e
  exact e
theorem gcdV_pos (n s : Int) (hn : 1 ≤ n) : gcdV n s ≠ 0 := by
  unfold gcdV
  have := Nat.gcd_pos_of_pos_right s.toNat (show 0 < n.toNat by omega)
  omega
def hidB (n s : Int) : Bool := okStar n s && decide (n ≤ 14)
theorem hid_in {n s : Int} (h : hidB n s = true) : 3 ≤ n ∧ n ≤ 14 ∧ 1 ≤ s ∧ s < n := by
  simp only [hidB, okStar, inB, Bool.and_eq_true, decide_eq_true_eq] at h
  omega
/-- A star's chords, in order. -/
def chS (n s : Int) : List Ch := setC (chsFrom n s n.toNat 0)
theorem chS_len (n s : Int) : (chS n s).length ≤ n.toNat := by
  have := setC_length (chsFrom n s n.toNat 0)
  rw [chsFrom_length] at this
  exact this
/-- What a clue of a kind, other than 4, tells of a star. -/
def tellV (a n s : Int) : Int := if a = 0 then n else if a = 1 then gcdV n s else if a = 2 then wrap64 (Int.tdiv s (gcdV n s)) else if a = 3 then (pairsN (chS n s) : Int) else ((chS n s).length : Int)
theorem told_ev (a n s : Int) (h : hidB n s = true) : Ev (fun k => impl_told.f k a n s) (tellV a n s) := by
  have hh := hid_in h
  have hl := chS_len n s
  unfold impl_told.f tellV
  by_cases h0 : a = 0
  · rw [if_pos h0]
    exact Ev.pos h0 (Ev.val rfl)
  · rw [if_neg h0]
    refine Ev.neg h0 ?_
    by_cases h1 : a = 1
    · rw [if_pos h1]
      exact Ev.pos h1 (Ev.bindk (strings_ev n s (by omega) (by omega)) (Ev.val rfl))
    · rw [if_neg h1]
      refine Ev.neg h1 ?_
      by_cases h2 : a = 2
      · rw [if_pos h2]
        exact Ev.pos h2 (Ev.bindk (strings_ev n s (by omega) (by omega)) (Ev.neg (gcdV_pos n s (by omega)) (Ev.val rfl)))
      · rw [if_neg h2]
        refine Ev.neg h2 ?_
        by_cases h3 : a = 3
        · rw [if_pos h3]
          exact Ev.pos h3 (Ev.bindk (chords_ev n s ⟨by omega, by omega⟩ ⟨by omega, by omega⟩) (Ev.bindk (crossings_evB _ (show (chS n s).length ≤ 1000 by omega)) (Ev.val rfl)))
        · rw [if_neg h3]
          exact Ev.neg h3 (Ev.bindk (chords_ev n s ⟨by omega, by omega⟩ ⟨by omega, by omega⟩) (Ev.val rfl))
theorem value_ev (a p n s : Int) (ha : a ≠ 4) (h : hidB n s = true) : Ev (fun k => spec_pzValue.f k a p n s) (tellV a n s) := by
  have hh := hid_in h
  have hl := chS_len n s
  have hv := chords_ok n s ⟨by omega, by omega⟩ ⟨by omega, by omega⟩
  unfold spec_pzValue.f tellV
  by_cases h0 : a = 0
  · rw [if_pos h0]
    exact Ev.pos h0 (Ev.val rfl)
  · rw [if_neg h0]
    refine Ev.neg h0 ?_
    by_cases h1 : a = 1
    · rw [if_pos h1]
      exact Ev.pos h1 (Ev.bindk (srCommon_ev n s (by omega) (by omega)) (Ev.val rfl))
    · rw [if_neg h1]
      refine Ev.neg h1 ?_
      by_cases h2 : a = 2
      · rw [if_pos h2]
        exact Ev.pos h2 (Ev.bindk (srCommon_ev n s (by omega) (by omega)) (Ev.neg (gcdV_pos n s (by omega)) (Ev.val rfl)))
      · rw [if_neg h2]
        refine Ev.neg h2 ?_
        by_cases h3 : a = 3
        · rw [if_pos h3]
          exact Ev.pos h3 (Ev.bindk (srChords_ev n s ⟨by omega, by omega⟩ ⟨by omega, by omega⟩) (Ev.bindk (srCount_ev _ (show (chS n s).length ≤ 1000 by omega) (fun c hc => (hv c hc).2.1)) (Ev.val rfl)))
        · rw [if_neg h3]
          exact Ev.neg h3 (Ev.neg ha (Ev.bindk (srChords_ev n s ⟨by omega, by omega⟩ ⟨by omega, by omega⟩) (Ev.val rfl)))
/-- Whether a star fits a clue. -/
def fitB (a b c n s : Int) : Bool := if a = 4 then (decide (b < n) && (Int.tmod (wrap64 (b + s)) n == c)) else tellV a n s == b
theorem fits_ev (a b c n s : Int) (h : hidB n s = true) : Ev (fun k => impl_fits.f k a b c n s) (fitB a b c n s) := by
  have hh := hid_in h
  unfold impl_fits.f fitB
  by_cases h4 : a = 4
  · rw [if_pos h4]
    refine Ev.pos h4 ?_
    by_cases hb : b < n
    · rw [decide_eq_true hb]
      exact Ev.pos hb (Ev.neg (by omega) (Ev.val rfl))
    · rw [decide_eq_false hb]
      exact Ev.neg hb (Ev.val rfl)
  · rw [if_neg h4]
    exact Ev.neg h4 (Ev.bindk (told_ev a n s h) (Ev.val rfl))
theorem pzFits_ev (a b c n s : Int) (h : hidB n s = true) : Ev (fun k => spec_pzFits.f k a b c n s) (fitB a b c n s) := by
  have hh := hid_in h
  unfold spec_pzFits.f fitB
  by_cases h4 : a = 4
  · rw [if_pos h4]
    refine Ev.pos h4 ?_
    by_cases hb : b < n
    · rw [decide_eq_true hb]
      refine Ev.pos hb (Ev.bindk (a := Int.tmod (wrap64 (b + s)) n) ?_ (Ev.val rfl))
      unfold spec_pzValue.f
      exact Ev.neg (by omega) (Ev.neg (by omega) (Ev.neg (by omega) (Ev.neg (by omega) (Ev.pos rfl (Ev.neg (by omega) (Ev.val rfl))))))
    · rw [decide_eq_false hb]
      exact Ev.neg hb (Ev.val rfl)
  · rw [if_neg h4]
    exact Ev.neg h4 (Ev.bindk (value_ev a 0 n s h4 h) (Ev.val rfl))
end Go.Proofs.Ytkgaljocaapobaa.M
/- What the program's solutions computes: the hidden stars that fit all clues, in order. -/
namespace Go.Proofs.Ytkgaljocaapobaa.Pr
open Go.RowKit Go.Proofs.YtkgaljocaapobaaW.PrintWords Go.Proofs.YtkgaljocaapobaaW.PrintLast Go.Proofs.YtkgaljocaapobaaW.PrintMore
/-- A clue that a star doesn't fit. -/
def misF (n s : Int) (c : S67) : Bool := !(M.fitB c.f0 c.f1 c.f2 n s)
def solsStep (l : List S67) (n : Int) : Nat → Int → List S37
  | 0, _ => []
  | d + 1, s => if l.any (misF n s) = true then solsStep l n d (s + 1) else ⟨n, s⟩ :: solsStep l n d (s + 1)
def solsFrom (l : List S67) : Nat → Int → List S37
  | 0, _ => []
  | d + 1, n => solsStep l n (n - 1).toNat 1 ++ solsFrom l d (n + 1)
def sols (l : List S67) : List S37 := solsFrom l 12 3
def impl_solutions.f (l0 : List (S67)) : Option ((List (S37))) := some (sols l0)
theorem hid_of {n s : Int} (h1 : 3 ≤ n) (h2 : n ≤ 14) (h3 : 1 ≤ s) (h4 : s < n) : M.hidB n s = true := by
  simp [M.hidB, M.okStar, M.inB]
  omega
set_option maxHeartbeats 4000000 in
set_option maxRecDepth 100000 in
theorem mis_pred (n s : Int) (hh : M.hidB n s = true) (B : Nat) (zs : List S67) (w : World) (hB : B < w.heap.size) (h0 : w.cell? ⟨B, 0, none⟩ = some (.int .i64 n)) (h1 : w.cell? ⟨B, 1, none⟩ = some (.int .i64 s)) :
    PredB 67 #[.pointer (some ⟨B, 0, none⟩)] encCl (misF n s) zs w := fun W c _ hb => by
  have c0 : W.cell? ⟨B, 0, none⟩ = some (.int .i64 n) := (hb.cell (p := ⟨B, 0, none⟩) hB).trans h0
  have c1 : W.cell? ⟨B, 1, none⟩ = some (.int .i64 s) := (hb.cell (p := ⟨B, 1, none⟩) hB).trans h1
  have hBW : B < W.heap.size := Nat.lt_of_lt_of_le hB hb.size
  have hne : B ≠ W.heap.size := by omega
  obtain ⟨k, hk⟩ := M.fits_ev c.f0 c.f1 c.f2 n s hh
  have hf := hk k (Nat.le_refl k)
  show Calls Try.prog 67 #[.agg #[.int .i64 c.f0, .int .i64 c.f1, .int .i64 c.f2], .pointer (some ⟨B, 0, none⟩)] W fun e w' => e = .returned (.bool (!(M.fitB c.f0 c.f1 c.f2 n s))) ∧ Below W.heap.size W w'
  generalize M.fitB c.f0 c.f1 c.f2 n s = r at hf ⊢
  have HC := Aside0.mk (fun (W1 : World) => impl_fits.calls k c.f0 c.f1 c.f2 n s r W1 hf)
  have hu := Try.underlying67
  have hu2 := Try.underlying37
  clear hf hk h0 h1 hb hh
  go_enter Try.func67, Try.ntmps67
  go_wp2_with (go_at_call 68; refine (HC.out _).mono ?_; rintro e w' ⟨rfl, hb1⟩)
  go_ret
  exact ⟨by simp, (below_alloc (Below.refl _ _) _).trans (hb1.mono (by simp))⟩
set_option maxHeartbeats 8000000 in
set_option maxRecDepth 100000 in
theorem impl_solutions.calls (A0 : Option Addr) (c0 : Nat) (l0 : List (S67)) (r : List (S37)) (w : World) (hr0 : Kd.C k67 w A0 l0.length l0) (hc0 : l0.length ≤ c0) (h : impl_solutions.f l0 = some r) :
    Calls Try.prog 50 #[.slice A0 l0.length c0] w fun e w' => ∃ v0_ : Value, e = .returned (v0_) ∧ Kd.R k37 37 w' w.heap.size (fun _ => True) v0_ r ∧ Below w.heap.size w w' := by
  obtain rfl := oI h
  have eg : ∀ args w, (callFunc 67 args).run Try.prog w = .ok (.enter 67 args) w := enters_of Try.func67 (by kernel_rfl) rfl
  have hu := Try.underlying67
  have hu2 := Try.underlying37
  have HB := Aside0.mk (Below.refl w.heap.size w)
  have HR := Aside0.mk hr0
  have HC := Aside0.mk (fun (n s : Int) (hh : M.hidB n s = true) (W : World) (hb : Below w.heap.size w W) (B : Nat) (hB : B < W.heap.size) (h0 : W.cell? ⟨B, 0, none⟩ = some (.int .i64 n)) (h1 : W.cell? ⟨B, 1, none⟩ = some (.int .i64 s)) =>
    containsFunc_clue A0 c0 l0 (misF n s) 67 #[.pointer (some ⟨B, 0, none⟩)] eg W (Kd.C_below hr0 hb) hc0 (mis_pred n s hh B l0 W hB h0 h1))
  clear h hr0 eg hc0
  go_enter Try.func50, Try.ntmps50
  go_wp2_with (first | ((with_reducible refine gate_dst (N := 7) rfl ?_); refine Kd.R_lit k37 _ 37 ?hg (N := 7) ?hd (xs := ([] : List S37)) (inner := []) (ok := fun _ => True) (okp := fun _ => True) ?hr ?hp (fun _ hk => hk) trivial (Below.refl _ _) (Nat.le_refl _) (by simp) ?_; (case hd => rfl); (case hg => rfl); (case hr => first | (go_simp; done) | (go_simp; rfl)); (case hp => exact (Reps.none _ _)); intro v244 w6 ho7 hb hg_ hnew_; clear hg_ hnew_; have n0_ := Aside0.mk (Kd.R_lower ho7 (below_size hb_)); have n1_ := Aside0.mk (below_step hb_ hb); clear HB; have HO0 := n0_; have HB := n1_; clear n0_ n1_; clear hb ho7))
  go_loopg [3, 4, 5, 6] 12 (fun g s3 s4 s5 s6 wr => ∃ (n : Int) (xs : List S37), s4 = .int .i64 n ∧ Aside0 (3 ≤ n) ∧ Aside0 (n + g = 15) ∧ Aside0 (sols l0 = xs ++ solsFrom l0 g n) ∧ Aside0 ((xs.length : Int) ≤ 14 * n) ∧ Aside0 (Kd.R k37 37 wr w.heap.size (fun _ => True) s3 xs) ∧ Aside0 (Below w.heap.size w wr))
  case atStart => exact ⟨3, [], by first | rfl | (simp; done) | (simp [*]; done), ⟨by omega⟩, ⟨by omega⟩, ⟨rfl⟩, ⟨by simp⟩, HO0, HB⟩
  case round =>
    obtain ⟨n, xs, rfl, HN3, HNG, HX, HLen, HO, HB2⟩ := hrel
    clear HB
    have HB := HB2
    clear HB2
    have hn3 := HN3.out
    have hng := HNG.out
    by_cases hle : n ≤ 14
    · have c4b0 : decide (n ≤ 14) = true := decide_eq_true hle
      obtain ⟨gm, rfl⟩ : ∃ gm, gk = gm + 1 := ⟨gk - 1, by omega⟩
      have HX2 := Aside0.mk (show sols l0 = xs ++ (solsStep l0 n (n - 1).toNat 1 ++ solsFrom l0 gm (n + 1)) from HX.out)
      clear HX
      go_wp2
      go_loopg [3, 5, 6] (n - 1).toNat (fun g s3 s5 s6 wr => ∃ (s : Int) (ys : List S37), s5 = .int .i64 s ∧ Aside0 (1 ≤ s) ∧ Aside0 (s + g = n) ∧ Aside0 (sols l0 = ys ++ (solsStep l0 n g s ++ solsFrom l0 gm (n + 1))) ∧ Aside0 ((ys.length : Int) ≤ 14 * n + s) ∧ Aside0 (Kd.R k37 37 wr w.heap.size (fun _ => True) s3 ys) ∧ Aside0 (Below w.heap.size w wr))
      case atStart => exact ⟨1, xs, by first | rfl | (simp; done) | (simp [*]; done), ⟨by omega⟩, ⟨by omega⟩, HX2, ⟨by have := HLen.out; omega⟩, HO, HB⟩
      case round =>
        obtain ⟨s, ys, rfl, HS1, HSG, HY, HLen2, HO2, HB2⟩ := hrel
        have hs1 := HS1.out
        have hsg := HSG.out
        by_cases hlt : s < n
        · have c5b0 : decide (s < n) = true := decide_eq_true hlt
          obtain ⟨gs, rfl⟩ : ∃ gs, gk = gs + 1 := ⟨gk - 1, by omega⟩
          have hh := hid_of hn3 hle hs1 hlt
          have HCall := Aside0.mk (HC.out n s hh (wr.alloc (.cells #[.int .i64 n, .int .i64 s] 37)) (below_alloc HB2.out _) wr.heap.size (by simp) (by simp) (by simp))
          have HBa := Aside0.mk (below_alloc HB2.out (.cells #[.int .i64 n, .int .i64 s] 37))
          have HOa := Aside0.mk (Kd.R_alloc HO2.out (.cells #[.int .i64 n, .int .i64 s] 37))
          have HST := Aside0.mk (show solsStep l0 n (gs + 1) s = if l0.any (misF n s) = true then solsStep l0 n gs (s + 1) else ⟨n, s⟩ :: solsStep l0 n gs (s + 1) from rfl)
          have HCe := Aside0.mk (show (wr.alloc (.cells #[.int .i64 n, .int .i64 s] 37)).cell? ⟨wr.heap.size, 0, none⟩ = some (.int .i64 n) ∧ (wr.alloc (.cells #[.int .i64 n, .int .i64 s] 37)).cell? ⟨wr.heap.size, 1, none⟩ = some (.int .i64 s) from ⟨by simp, by simp⟩)
          have HSz := Aside0.mk (show wr.heap.size < (wr.alloc (.cells #[.int .i64 n, .int .i64 s] 37)).heap.size from by simp)
          clear hh HO HO2 HB HB2
          cases hq : l0.any (misF n s) with
          | true =>
            rw [hq] at HCall
            have HQ := Aside0.mk hq
            clear hq HCe HSz
            go_wp2_with (go_at_call 62; refine HCall.out.mono ?_; rintro e w1 ⟨rfl, hb1⟩; have HO1 := Aside0.mk (Kd.R_below HOa.out hb1); have HB1 := Aside0.mk (HBa.out.trans (hb1.mono HBa.out.size)); clear HOa HBa hb1)
            go_roundg gs
            case measure => omega
            case rel => exact ⟨s + 1, ys, by first | rfl | (simp; done) | (simp [*]; done), ⟨by omega⟩, ⟨by omega⟩, ⟨by rw [HY.out, HST.out, if_pos HQ.out]⟩, ⟨by have := HLen2.out; omega⟩, HO1, HB1⟩
          | false =>
            rw [hq] at HCall
            have HQ := Aside0.mk hq
            clear hq
            go_wp2_with (first | (go_at_call 62; refine HCall.out.mono ?_; rintro e w1 ⟨rfl, hb1⟩; have HO1 := Aside0.mk (Kd.R_below HOa.out hb1); have HB := Aside0.mk (HBa.out.trans (hb1.mono HBa.out.size)); have d0 := (hb1.cell (p := ⟨wr.heap.size, 0, none⟩) HSz.out).trans HCe.out.1; have d1 := (hb1.cell (p := ⟨wr.heap.size, 1, none⟩) HSz.out).trans HCe.out.2; clear HOa HBa hb1 HCe HSz) | ((with_reducible refine gate_builtin (b := .append) (xs := #[.tmp 24, .tmp 26]) rfl ?_); at_builtin; refine Kd.R_append k37 (w0 := w) w.heap.size rfl (.tmp 24) (.tmp 26) 49 37 (.agg #[(.int .i64 0), (.int .i64 0)]) 16 rfl Try.underlying49 info37 rfl (by decide) (by omega) u3 ys (⟨n, s⟩ : S37) [.int .i64 n, .int .i64 s] (fun _ => True) (fun _ => False) rfl rfl ?aP (fun _ hk => hk.elim) ?aF ?aO ?aB ?aS ?aL ?_; (case aP => exact k37_mkM _ _ _ (⟨n, s⟩ : S37)); (case aB => exact hb_); (case aF => exact (fun _ _ => trivial)); (case aO => exact (by (with_reducible repeat (first | apply rA | apply rN | apply rD)); exact HO1.out)); (case aS => exact (below_size hb_)); (case aL => have := HLen2.out; omega); intro v557 w12 ho hb hg hat; have n1_ := Aside0.mk (hb); have n2_ := Aside0.mk (ho); clear HB; clear HO1; have HB := n1_; have HO1 := n2_; clear n1_ n2_; clear ho hb hg hat))
            go_roundg gs
            case measure => omega
            case rel => exact ⟨s + 1, ys ++ [⟨n, s⟩], by first | rfl | (simp; done) | (simp [*]; done), ⟨by omega⟩, ⟨by omega⟩, ⟨by rw [HY.out, HST.out, if_neg (by rw [HQ.out]; simp), List.append_assoc]; rfl⟩, ⟨by have := HLen2.out; simp; omega⟩, HO1, HB⟩
        · have c5b0 : decide (s < n) = false := decide_eq_false hlt
          have hs0 : gk = 0 := by omega
          have HE := Aside0.mk (show sols l0 = ys ++ solsFrom l0 gm (n + 1) from by rw [HY.out, hs0]; rfl)
          clear HY hs0
          go_wp2
          go_roundg gm
          case measure => omega
          case rel => exact ⟨n + 1, ys, by first | rfl | (simp; done) | (simp [*]; done), ⟨by omega⟩, ⟨by omega⟩, HE, ⟨by have := HLen2.out; omega⟩, HO2, HB2⟩
    · have c4b0 : decide (n ≤ 14) = false := decide_eq_false hle
      have hg0 : gk = 0 := by omega
      have HE := Aside0.mk (show sols l0 = xs from by rw [HX.out, hg0]; simp [solsFrom])
      clear HX hg0
      go_wp2
      go_ret
      exact ⟨u3, rfl, by rw [HE.out]; exact HO.out, HB.out⟩
end Go.Proofs.Ytkgaljocaapobaa.Pr
/- What the program's IsPuzzle computes: six clues at most, and each of them is one. -/
namespace Go.Proofs.Ytkgaljocaapobaa.Pr
open Go.RowKit Go.Proofs.YtkgaljocaapobaaW.PrintWords Go.Proofs.YtkgaljocaapobaaW.PrintLast Go.Proofs.YtkgaljocaapobaaW.PrintMore
def noCl (c : S67) : Bool := !(M.clN c.f0 c.f1 c.f2)
def impl_IsPuzzle.f (l0_0 : List (S67)) : Option (Bool) := some (decide (l0_0.length ≤ 6) && !(l0_0.any noCl))
set_option maxHeartbeats 2000000 in
theorem noCl_pred (zs : List S67) (w : World) : PredB 63 #[] encCl noCl zs w := fun W x _ hb => by
  have hw := M.isClue_eq x.f0 x.f1 x.f2
  show Calls Try.prog 63 #[.agg #[.int .i64 x.f0, .int .i64 x.f1, .int .i64 x.f2]] W fun e w' => e = .returned (.bool (!(M.clN x.f0 x.f1 x.f2))) ∧ Below W.heap.size W w'
  generalize M.clN x.f0 x.f1 x.f2 = r at hw ⊢
  have hu := Try.underlying67
  have HC := Aside0.mk (fun (W1 : World) => impl_IsClue.calls x.f0 x.f1 x.f2 r W1 hw)
  clear hw
  go_enter Try.func63, Try.ntmps63
  go_wp2_with (go_at_call 64; refine (HC.out _).mono ?_; rintro e w' ⟨rfl, hb1⟩)
  go_ret
  exact ⟨by simp, (below_alloc (Below.refl _ _) _).trans (hb1.mono (by simp))⟩
set_option maxHeartbeats 4000000 in
theorem impl_IsPuzzle.calls (A0_0 : Option Addr) (c0_0 : Nat) (l0_0 : List (S67)) (r : Bool) (w : World) (hr0_0 : Kd.C k67 w A0_0 l0_0.length l0_0) (hc0_0 : l0_0.length ≤ c0_0) (h : impl_IsPuzzle.f l0_0 = some r) :
    Calls Try.prog 46 #[.agg #[.slice A0_0 l0_0.length c0_0]] w fun e w' => e = .returned (.bool r) ∧ Below w.heap.size w w' := by
  obtain rfl := oI h
  have hbig : l0_0.length ≤ 9223372036854775807 := hr0_0.2.1
  have hb0 : ∀ o, Below w.heap.size w (w.alloc o) := fun o => below_alloc (Below.refl _ _) _
  have eg : ∀ args w, (callFunc 63 args).run Try.prog w = .ok (.enter 63 args) w := enters_of Try.func63 (by kernel_rfl) rfl
  have hC := Aside0.mk (fun (W : World) (hb : Below w.heap.size w W) => containsFunc_clue A0_0 c0_0 l0_0 noCl 63 #[] eg W (Kd.C_below hr0_0 hb) hc0_0 (noCl_pred l0_0 W))
  have hu := Try.underlying30
  generalize l0_0.any noCl = b at hC ⊢
  have HB0 := Aside0.mk hb0
  clear h hr0_0 hb0 eg
  by_cases hl : l0_0.length ≤ 6
  · have e1 : decide (l0_0.length ≤ 6) = true := decide_eq_true hl
    have e2 : decide ((l0_0.length : Int) ≤ 6) = true := decide_eq_true (by omega)
    go_enter Try.func46, Try.ntmps46
    go_wp2_with (go_at_call 62; refine (hC.out _ (by first | exact HB0.out _ | exact Below.refl _ _)).mono ?_; rintro e w' ⟨rfl, hb1⟩)
    go_ret
    exact ⟨by simp [hl], (HB0.out _).trans (hb1.mono (by simp))⟩
  · have e1 : decide (l0_0.length ≤ 6) = false := decide_eq_false hl
    have e2 : decide ((l0_0.length : Int) ≤ 6) = false := decide_eq_false (by omega)
    go_enter Try.func46, Try.ntmps46
    go_wp2
    go_ret
    exact ⟨by simp [hl], HB0.out _⟩
end Go.Proofs.Ytkgaljocaapobaa.Pr
namespace Go.Proofs.Ytkgaljocaapobaa.Pr
open Go.RowKit Go.Proofs.YtkgaljocaapobaaW.PrintWords Go.Proofs.YtkgaljocaapobaaW.PrintLast Go.Proofs.YtkgaljocaapobaaW.PrintMore
attribute [local go_sem] max2_int min2_int max_two min_two max_three min_three max_four min_four
def impl_Solutions.f (l0_0 : List (S67)) : Option ((List (S37)) × Bool) := (impl_IsPuzzle.f l0_0).bind fun t353 => (if t353 = true then ((impl_solutions.f l0_0).bind fun t354 => (some (t354, true))) else (some (([] : List (S37)), false)))
set_option maxHeartbeats 8000000 in
set_option maxRecDepth 100000 in
theorem impl_Solutions.calls (A0_0 : Option Addr) (c0_0 : Nat) (l0_0 : List (S67)) (r1 : List (S37)) (r2 : Bool) (w : World) (hr0_0 : Kd.C k67 w A0_0 l0_0.length l0_0) (hc0_0 : l0_0.length ≤ c0_0) (h : impl_Solutions.f l0_0 = some (r1, r2)) :
  Calls Try.prog 33 #[.agg #[.slice A0_0 l0_0.length c0_0]] w fun e w' => ∃ v0_ : Value, e = .returned (.tuple #[v0_, .bool r2]) ∧ Kd.R k37 37 w' w.heap.size (fun _ => True) v0_ r1 ∧ Below w.heap.size w w' := by
 have hu30 := Try.underlying30
 have HR0_0 := Aside0.mk hr0_0
 have HC0_0 := Aside0.mk hc0_0
 clear hr0_0 hc0_0
 have HB := Aside0.mk (Below.refl w.heap.size w)
 have H : ((impl_IsPuzzle.f l0_0).bind fun t353 => (if t353 = true then ((impl_solutions.f l0_0).bind fun t354 => (some (t354, true))) else (some (([] : List (S37)), false)))) = some (r1, r2) := h
 clear h
 replace H := bI H
 obtain ⟨t353, A20, H⟩ := H
 replace H : (if t353 = true then ((impl_solutions.f l0_0).bind fun t354 => (some (t354, true))) else (some (([] : List (S37)), false))) = some (r1, r2) := H
 have A2 := Aside0.mk A20
 clear A20
 by_cases c3 : t353 = true
 ·subst c3
  have H1 : ((impl_solutions.f l0_0).bind fun t354 => (some (t354, true))) = some (r1, r2) := by rw [if_pos rfl] at H; exact H
  clear H
  have H := H1
  clear H1
  replace H := bI H
  obtain ⟨t354, A40, H⟩ := H
  replace H : (some (t354, true)) = some (r1, r2) := H
  have A4 := Aside0.mk A40
  clear A40
  simp only [Option.some.injEq, Prod.mk.injEq] at H
  obtain ⟨rfl, rfl⟩ := H
  go_enter Try.func33, Try.ntmps33
  go_wp2_with (first | ((with_reducible refine gate_dst (N := 1) rfl ?_); refine box_event ?hg (N := 1) ?hd (cs := #[.slice A0_0 l0_0.length c0_0]) (t := 30) ?hr ?_; (case hd => rfl); (case hg => rfl); (case hr => first | (go_simp; done) | (go_simp; rfl)); intro gb352 hg w5 hbox hb; have n0_ := Aside0.mk (below_step hb_ hb); have n1_ := Aside0.mk (hbox); have n2_ := Aside0.mk ((by rw [hg]; exact (below_size hb_) : w.heap.size ≤ gb352)); have n3_ := Aside0.mk ((by rw [hg]; exact (below_size hb_) : w.heap.size ≤ gb352)); clear HB; have HB := n0_; have BK352 := n1_; have GW352 := n2_; have GE352 := n3_; clear n0_ n1_ n2_ n3_; clear hb hbox hg; have hcz6_0 : w5.cell? ⟨gb352, 0, none⟩ = some (.slice A0_0 l0_0.length c0_0) := (blk_cell BK352.out 0).trans rfl; have hfz6_0 := blk_frozen BK352.out 0) | ((with_reducible refine gate_callee (f := 46) rfl ?_); refine goesL_ (some 5) rfl rfl Try.func46 (by kernel_rfl) rfl #[.agg #[.slice A0_0 l0_0.length c0_0]] rfl ar_ ?_; (with_reducible refine (impl_IsPuzzle.calls _ _ l0_0 true _ ?side1 ?side2 A2.out).mono ?_); (case side1 => repeat (first | exact (Kd.C_below HR0_0.out HB.out) | (with_reducible refine Kd.C_alloc ?_ _) | (with_reducible refine Kd.C_drewN ?_ _) | (with_reducible refine Kd.C_drew ?_))); (case side2 => exact HC0_0.out); rintro e w7 ⟨rfl, hb⟩; refine ⟨_, rfl, ?_⟩; have n0_ := Aside0.mk (blk_below (g := gb352) (o := .cells #[.slice A0_0 l0_0.length c0_0] 30 (0, 0)) (kx_ BK352.out) hb); have n1_ := Aside0.mk (below_step (hs_ GE352.out) hb); clear BK352; clear HB; have BK352 := n0_; have HB := n1_; clear n0_ n1_; (try clear hb); (try clear hb2); (try clear hk); (try clear hi); have hcz8_0 : w7.cell? ⟨gb352, 0, none⟩ = some (.slice A0_0 l0_0.length c0_0) := (blk_cell BK352.out 0).trans rfl; have hfz8_0 := blk_frozen BK352.out 0) | ((with_reducible refine gate_callee (f := 50) rfl ?_); refine goesL_ (some 9) rfl rfl Try.func50 (by kernel_rfl) rfl #[.slice A0_0 l0_0.length c0_0] rfl ar_ ?_; (with_reducible refine (impl_solutions.calls _ _ l0_0 t354 _ ?side1 ?side2 A4.out).mono ?_); (case side1 => repeat (first | exact (Kd.C_below HR0_0.out HB.out) | (with_reducible refine Kd.C_alloc ?_ _) | (with_reducible refine Kd.C_drewN ?_ _) | (with_reducible refine Kd.C_drew ?_))); (case side2 => exact HC0_0.out); rintro e w9 ⟨v355, rfl, ho0, hb⟩; refine ⟨_, rfl, ?_⟩; have n0_ := Aside0.mk (Kd.R_lower ho0 (below_size (hs_ GE352.out))); have n1_ := Aside0.mk (blk_below (g := gb352) (o := .cells #[.slice A0_0 l0_0.length c0_0] 30 (0, 0)) (kx_ BK352.out) hb); have n2_ := Aside0.mk (below_step (hs_ GE352.out) hb); clear BK352; clear HB; have HO356 := n0_; have BK352 := n1_; have HB := n2_; clear n0_ n1_ n2_; (try clear hb); (try clear hb2); (try clear hk); (try clear hi); (try clear ho0)))
  go_ret2
  exact ⟨_, by first | rfl | (simp [errW_none, errW_some] <;> rfl) | (simp [*, errW_none, errW_some] <;> rfl), by (with_reducible repeat (first | apply rA | apply rN | apply rD)); exact HO356.out, hs_ GE352.out⟩
 ·replace c3 := Bool.eq_false_iff.mpr c3
  subst c3
  have H1 : (some (([] : List (S37)), false)) = some (r1, r2) := by rw [if_neg (show ¬ (false = true) by decide)] at H; exact H
  clear H
  have H := H1
  clear H1
  simp only [Option.some.injEq, Prod.mk.injEq] at H
  obtain ⟨rfl, rfl⟩ := H
  go_enter Try.func33, Try.ntmps33
  go_wp2_with (first | ((with_reducible refine gate_dst (N := 1) rfl ?_); refine box_event ?hg (N := 1) ?hd (cs := #[.slice A0_0 l0_0.length c0_0]) (t := 30) ?hr ?_; (case hd => rfl); (case hg => rfl); (case hr => first | (go_simp; done) | (go_simp; rfl)); intro gb352 hg w10 hbox hb; have n0_ := Aside0.mk (below_step hb_ hb); have n1_ := Aside0.mk (hbox); have n2_ := Aside0.mk ((by rw [hg]; exact (below_size hb_) : w.heap.size ≤ gb352)); have n3_ := Aside0.mk ((by rw [hg]; exact (below_size hb_) : w.heap.size ≤ gb352)); clear HB; have HB := n0_; have BK352 := n1_; have GW352 := n2_; have GE352 := n3_; clear n0_ n1_ n2_ n3_; clear hb hbox hg; have hcz11_0 : w10.cell? ⟨gb352, 0, none⟩ = some (.slice A0_0 l0_0.length c0_0) := (blk_cell BK352.out 0).trans rfl; have hfz11_0 := blk_frozen BK352.out 0) | ((with_reducible refine gate_callee (f := 46) rfl ?_); refine goesL_ (some 5) rfl rfl Try.func46 (by kernel_rfl) rfl #[.agg #[.slice A0_0 l0_0.length c0_0]] rfl ar_ ?_; (with_reducible refine (impl_IsPuzzle.calls _ _ l0_0 false _ ?side1 ?side2 A2.out).mono ?_); (case side1 => repeat (first | exact (Kd.C_below HR0_0.out HB.out) | (with_reducible refine Kd.C_alloc ?_ _) | (with_reducible refine Kd.C_drewN ?_ _) | (with_reducible refine Kd.C_drew ?_))); (case side2 => exact HC0_0.out); rintro e w12 ⟨rfl, hb⟩; refine ⟨_, rfl, ?_⟩; have n0_ := Aside0.mk (blk_below (g := gb352) (o := .cells #[.slice A0_0 l0_0.length c0_0] 30 (0, 0)) (kx_ BK352.out) hb); have n1_ := Aside0.mk (below_step (hs_ GE352.out) hb); clear BK352; clear HB; have BK352 := n0_; have HB := n1_; clear n0_ n1_; (try clear hb); (try clear hb2); (try clear hk); (try clear hi)))
  go_ret2
  exact ⟨_, by first | rfl | (simp [errW_none, errW_some] <;> rfl) | (simp [*, errW_none, errW_some] <;> rfl), by first | exact Kd.R_nil _ _ _ _ _ | exact Kd.N_nil _ _ _ _ _ | exact Kd.V_nil _ _ _ _ _ | exact Kd.Q_nil _ _ _ _ _ | exact Kd.S_nil _ _ _ _ _, hs_ GE352.out⟩
end Go.Proofs.Ytkgaljocaapobaa.Pr
/- What the program's SureStar computes: the numbers that all solutions share. -/
namespace Go.Proofs.Ytkgaljocaapobaa.Pr
open Go.RowKit Go.Proofs.YtkgaljocaapobaaW.PrintWords Go.Proofs.YtkgaljocaapobaaW.PrintLast Go.Proofs.YtkgaljocaapobaaW.PrintMore
/-- What is left of two numbers behind the stars from place i on. -/
def sureF (l : List S37) : Nat → Nat → Int → Int → Int × Int
  | 0, _, a, b => (a, b)
  | d + 1, i, a, b => sureF l d (i + 1) (if (rd_T37 l (i : Int)).f0 = a then a else 0) (if (rd_T37 l (i : Int)).f1 = b then b else 0)
def impl_SureStar.f (l0_0 : List (S67)) : Option (Int × Int × Bool) :=
  (impl_Solutions.f l0_0).bind fun p => if p.2 = true then (if p.1.length = 0 then some (0, 0, false) else some ((sureF p.1 (p.1.length - 1) 1 (rd_T37 p.1 0).f0 (rd_T37 p.1 0).f1).1, (sureF p.1 (p.1.length - 1) 1 (rd_T37 p.1 0).f0 (rd_T37 p.1 0).f1).2, true)) else some (0, 0, false)
/-- The two numbers, in a block of their own behind all of a world's. -/
structure SureW (w1 W : World) (a b : Int) : Prop where
  below : Below w1.heap.size w1 W
  at_ : W.heap[w1.heap.size]? = some (.cells #[.int .i64 a, .int .i64 b] 37 (0, 0))
theorem SureW.go {w1 W W' : World} {a b : Int} (H : SureW w1 W a b) (hb : Below W.heap.size W W') : SureW w1 W' a b :=
  ⟨H.below.trans (hb.mono H.below.size), (hb.block _ (Array.getElem?_eq_some_iff.1 H.at_).1).trans H.at_⟩
theorem SureW.cells {w1 W : World} {a b : Int} (H : SureW w1 W a b) : W.cell? ⟨w1.heap.size, 0, none⟩ = some (.int .i64 a) ∧ W.cell? ⟨w1.heap.size, 1, none⟩ = some (.int .i64 b) ∧ W.frozen? ⟨w1.heap.size, 0, none⟩ = false ∧ W.frozen? ⟨w1.heap.size, 1, none⟩ = false := by
  refine ⟨?_, ?_, ?_, ?_⟩ <;> simp [World.cell?, World.frozen?, H.at_]
theorem SureW.put {w1 W : World} {a b : Int} (H : SureW w1 W a b) (i : Nat) (x : Int) (a' b' : Int) (he : (#[.int .i64 a, .int .i64 b] : Array Value).setIfInBounds i (.int .i64 x) = #[.int .i64 a', .int .i64 b']) : SureW w1 (W.setCell ⟨w1.heap.size, i, none⟩ (.int .i64 x)) a' b' := by
  have e : W.setCell ⟨w1.heap.size, i, none⟩ (.int .i64 x) = W.setRow w1.heap.size ((#[.int .i64 a, .int .i64 b] : Array Value).setIfInBounds i (.int .i64 x)) := setCell_eq_setRow W _ i _ 37 (0, 0) _ H.at_
  have hs : (W.setRow w1.heap.size ((#[.int .i64 a, .int .i64 b] : Array Value).setIfInBounds i (.int .i64 x))).heap.size = W.heap.size := by simp [World.setRow]
  rw [e]
  refine ⟨H.below.trans ⟨rfl, rfl, rfl, Nat.le_of_eq hs.symm, fun k hk => setRow_other W _ k _ (by omega)⟩, ?_⟩
  rw [setRow_heap W _ _ _ 37 _ H.at_, he]
set_option maxHeartbeats 1000000 in
set_option maxRecDepth 100000 in
theorem impl_SureStar.calls (A0_0 : Option Addr) (c0_0 : Nat) (l0_0 : List (S67)) (r1 : Int) (r2 : Int) (r3 : Bool) (w : World) (hr0_0 : Kd.C k67 w A0_0 l0_0.length l0_0) (hc0_0 : l0_0.length ≤ c0_0) (h : impl_SureStar.f l0_0 = some (r1, r2, r3)) :
    Calls Try.prog 23 #[.agg #[.slice A0_0 l0_0.length c0_0]] w fun e w' => e = .returned (.tuple #[.int .i64 r1, .int .i64 r2, .bool r3]) ∧ Below w.heap.size w w' := by
  obtain ⟨⟨l, ok⟩, hp, h⟩ := bI h
  dsimp only at h
  have hu := Try.underlying30
  have hu2 := Try.underlying37
  have hb0 : Below w.heap.size w (w.alloc (.cells #[.slice A0_0 l0_0.length c0_0] 30)) := below_alloc (Below.refl _ _) _
  have HC := Aside0.mk (impl_Solutions.calls A0_0 c0_0 l0_0 l ok (w.alloc (.cells #[.slice A0_0 l0_0.length c0_0] 30)) (Kd.C_below hr0_0 hb0) hc0_0 hp)
  have HB0 := Aside0.mk hb0
  clear hp hb0 hr0_0
  cases ok with
  | false =>
    rw [if_neg (by decide)] at h
    simp only [Option.some.injEq, Prod.mk.injEq] at h
    obtain ⟨rfl, rfl, rfl⟩ := h
    go_enter Try.func23, Try.ntmps23
    go_wp2_with (go_at_call 33; refine HC.out.mono ?_; rintro e w1 ⟨v1, rfl, ho1, hb1⟩; obtain ⟨A1, q1, rfl, hm1, hr1⟩ := Kd.R_reads ho1)
    go_ret3
    exact ⟨rfl, HB0.out.trans (hb1.mono HB0.out.size)⟩
  | true =>
    rw [if_pos rfl] at h
    by_cases hl : l.length = 0
    · rw [if_pos hl] at h
      simp only [Option.some.injEq, Prod.mk.injEq] at h
      obtain ⟨rfl, rfl, rfl⟩ := h
      have e1 : ((l.length : Int) == 0) = true := beq_iff_eq.2 (by omega)
      go_enter Try.func23, Try.ntmps23
      go_wp2_with (go_at_call 33; refine HC.out.mono ?_; rintro e w1 ⟨v1, rfl, ho1, hb1⟩; obtain ⟨A1, q1, rfl, hm1, hr1⟩ := Kd.R_reads ho1; clear ho1 hm1 hr1)
      go_ret3
      exact ⟨rfl, HB0.out.trans (hb1.mono HB0.out.size)⟩
    · rw [if_neg hl] at h
      have HH := Aside0.mk (oI h)
      have e1 : ((l.length : Int) == 0) = false := beq_eq_false_iff_ne.2 (by omega)
      have b1 : ((l.length : Int) ≤ 0) = False := eq_false (by omega)
      have b2 : (0 : Int) < (l.length : Int) := by omega
      clear h
      obtain ⟨i0, hi0, _, hsz, _⟩ := info_parts info37
      have HCut := Aside0.mk (fun (A1 : Option Addr) (q1 : Nat) => cut_from (P := Try.prog) 49 37 .i64 Try.underlying49 hi0 2 hsz A1 l.length q1 1 (by omega) (by omega))
      clear hi0 hsz
      go_enter Try.func23, Try.ntmps23
      go_wp2_with (go_at_call 33; refine HC.out.mono ?_; rintro e w1 ⟨v1, rfl, ho1, hb1⟩; obtain ⟨A1, q1, rfl, hm1, hr1⟩ := Kd.R_reads ho1; obtain ⟨ad, ea, h0, h1⟩ := at_T37 hr1 0 (by omega) (by omega); subst ea; replace h0 : w1.cell? ad = some (.int .i64 (rd_T37 l 0).f0) := h0; replace h1 : w1.cell? ⟨ad.block, ad.off + 1, none⟩ = some (.int .i64 (rd_T37 l 0).f1) := h1; have HR := Aside0.mk hr1; have HM := Aside0.mk hm1; have hcut := HCut.out (some ad) q1; clear ho1 hr1 hm1 HC HCut)
      all_goals
        have hd1 : (l.drop 1).length = l.length - 1 := List.length_drop
        have hC2 := Kd.C_drop (m := 1) (c := q1) HR.out (by omega) HM.out
        obtain ⟨Ax, hAx⟩ : ∃ Ax : Addr, Ax = (if q1 = 1 then ad else ⟨ad.block, ad.off + 2, none⟩) := ⟨_, rfl⟩
        replace hC2 : Kd.C k37 w1 (some Ax) (l.drop 1).length (l.drop 1) := by
          rw [hAx]
          by_cases hq : q1 = 1
          · rw [if_pos hq] at hC2 ⊢; exact hC2
          · rw [if_neg hq] at hC2 ⊢; exact hC2
        first
        | (rw [if_pos (by assumption)] at hAx; rw [← hAx])
        | (rw [if_neg (by assumption)] at hAx; rw [← hAx])
        clear hAx h0 h1
        have HC2 := Aside0.mk hC2
        have HS := Aside0.mk (show SureW w1 (w1.alloc (.cells #[.int .i64 (rd_T37 l 0).f0, .int .i64 (rd_T37 l 0).f1] 37)) (rd_T37 l 0).f0 (rd_T37 l 0).f1 from ⟨below_alloc (Below.refl _ _) _, heap_alloc_new w1 _⟩)
        have HB1 := Aside0.mk hb1
        have HF := Aside0.mk (show sureF l (l.length - 1 - 0) (0 + 1) (rd_T37 l 0).f0 (rd_T37 l 0).f1 = (r1, r2) ∧ r3 = true by
          have e := HH.out
          simp only [Prod.mk.injEq] at e
          exact ⟨by rw [← e.1, ← e.2.1]; rfl, e.2.2.symm⟩)
        clear hC2 hb1 HH HR HM hcut
        generalize (rd_T37 l 0).f0 = a0 at HS HF ⊢
        generalize (rd_T37 l 0).f1 = b0 at HS HF ⊢
        go_loopg [9, 28] (l.length - 1) (fun gg v9 v28 w' => ∃ (j : Nat) (a b : Int), v28 = .int .i64 j ∧ Aside0 (j + gg = l.length - 1) ∧ Aside0 (SureW w1 w' a b) ∧ Aside0 (sureF l (l.length - 1 - j) (j + 1) a b = (r1, r2) ∧ r3 = true))
        case atStart => exact ⟨0, a0, b0, by first | rfl | (simp; done), ⟨by omega⟩, HS, HF⟩
        case round =>
          obtain ⟨j, a, b, rfl, HG, HS2, HF2⟩ := hrel
          clear HS HF
          obtain ⟨s0, s1, s2, s3⟩ := HS2.out.cells
          have hlt : w1.heap.size < wr.heap.size := (Array.getElem?_eq_some_iff.1 HS2.out.at_).1
          have hne : w1.heap.size ≠ wr.heap.size := by omega
          by_cases hj : j < l.length - 1
          · have e4 : decide ((j : Int) < ((l.length - 1 : Nat) : Int)) = true := decide_eq_true (by omega)
            have e5 : decide (j < l.length - 1) = true := decide_eq_true hj
            obtain ⟨gm, rfl⟩ : ∃ gm, gk = gm + 1 := ⟨gk - 1, by have := HG.out; omega⟩
            obtain ⟨ad2, ea2, x0, x1⟩ := at_T37 HC2.out (j : Int) (by omega) (by omega)
            injection ea2 with ea2
            subst ea2
            have hrd : rd_T37 (l.drop 1) (j : Int) = rd_T37 l ((j + 1 : Nat) : Int) := by
              unfold rd_T37
              simp only [Int.toNat_natCast, List.getD_eq_getElem?_getD, List.getElem?_drop, Nat.add_comm 1 j]
            rw [hrd, Int.toNat_natCast] at x0 x1
            replace x0 := (HS2.out.below.cell (World.block_lt_of_cell? w1 _ x0)).trans x0
            replace x1 := (HS2.out.below.cell (World.block_lt_of_cell? w1 _ x1)).trans x1
            have hF := HF2.out.1
            rw [show l.length - 1 - j = (l.length - 1 - (j + 1)) + 1 by omega, sureF] at hF
            have b3 : (((l.length - 1 : Nat) : Int) ≤ (j : Int)) = False := eq_false (by omega)
            have b4 : (j : Int) < ((l.length - 1 : Nat) : Int) := by omega
            generalize rd_T37 l ((j + 1 : Nat) : Int) = y at x0 x1 hF
            have HF3 := Aside0.mk (And.intro hF HF2.out.2)
            clear hF HF2 hrd
            have bw : IntKind.i64.wrap ((j : Int) + 1) = (j : Int) + 1 := by
              have := HC2.out.2.1
              unfold maxLen at this
              rw [i64_w]
              exact M.w64 (by omega) (by omega)
            cases c0 : (y.f0 != a) <;> cases c1 : (y.f1 != b)
            · have HF4 := Aside0.mk (show sureF l (l.length - 1 - (j + 1)) (j + 1 + 1) a b = (r1, r2) ∧ r3 = true by
                have e := HF3.out
                rwa [if_pos (by simpa using c0), if_pos (by simpa using c1)] at e)
              clear HF3
              go_wp2_with fail
              go_roundg gm
              case measure => omega
              case rel => exact ⟨j + 1, a, b, by first | rfl | (simp; done), ⟨by have := HG.out; omega⟩, ⟨HS2.out.go (below_alloc (Below.refl _ _) _)⟩, HF4⟩
            · have HF4 := Aside0.mk (show sureF l (l.length - 1 - (j + 1)) (j + 1 + 1) a 0 = (r1, r2) ∧ r3 = true by
                have e := HF3.out
                rwa [if_pos (by simpa using c0), if_neg (by simpa using c1)] at e)
              clear HF3
              go_wp2_with fail
              go_roundg gm
              case measure => omega
              case rel => exact ⟨j + 1, a, 0, by first | rfl | (simp; done), ⟨by have := HG.out; omega⟩, ⟨(HS2.out.put 1 0 a 0 rfl).go (below_alloc (Below.refl _ _) _)⟩, HF4⟩
            · have HF4 := Aside0.mk (show sureF l (l.length - 1 - (j + 1)) (j + 1 + 1) 0 b = (r1, r2) ∧ r3 = true by
                have e := HF3.out
                rwa [if_neg (by simpa using c0), if_pos (by simpa using c1)] at e)
              clear HF3
              go_wp2_with fail
              go_roundg gm
              case measure => omega
              case rel => exact ⟨j + 1, 0, b, by first | rfl | (simp; done), ⟨by have := HG.out; omega⟩, ⟨(HS2.out.put 0 0 0 b rfl).go (below_alloc (Below.refl _ _) _)⟩, HF4⟩
            · have HF4 := Aside0.mk (show sureF l (l.length - 1 - (j + 1)) (j + 1 + 1) 0 0 = (r1, r2) ∧ r3 = true by
                have e := HF3.out
                rwa [if_neg (by simpa using c0), if_neg (by simpa using c1)] at e)
              clear HF3
              go_wp2_with fail
              go_roundg gm
              case measure => omega
              case rel => exact ⟨j + 1, 0, 0, by first | rfl | (simp; done), ⟨by have := HG.out; omega⟩, ⟨((HS2.out.put 0 0 0 b rfl).put 1 0 0 0 rfl).go (below_alloc (Below.refl _ _) _)⟩, HF4⟩
          · have e4 : decide ((j : Int) < ((l.length - 1 : Nat) : Int)) = false := decide_eq_false (by omega)
            have e5 : decide (j < l.length - 1) = false := decide_eq_false hj
            have HF4 := Aside0.mk (show a = r1 ∧ b = r2 ∧ r3 = true by
              have e := HF2.out
              rw [show l.length - 1 - j = 0 by omega, sureF, Prod.mk.injEq] at e
              exact ⟨e.1.1, e.1.2, e.2⟩)
            clear HF2
            go_wp2_with fail
            go_quiet (fail)
            go_wp2_with fail
            go_ret3
            obtain ⟨rfl, rfl, rfl⟩ := HF4.out
            exact ⟨rfl, pw_below_drewN (HB0.out.trans ((HB1.out.trans (HS2.out.below.mono HB1.out.size)).mono HB0.out.size)) nq⟩
end Go.Proofs.Ytkgaljocaapobaa.Pr
namespace Go.Proofs.Ytkgaljocaapobaa.Pr
open Go.RowKit Go.Proofs.YtkgaljocaapobaaW.PrintWords Go.Proofs.YtkgaljocaapobaaW.PrintLast Go.Proofs.YtkgaljocaapobaaW.PrintMore
attribute [local go_sem] max2_int min2_int max_two min_two max_three min_three max_four min_four
def laws_FnExactSureStar.j0 : Nat → Bool → List (S72) → List (S67) → Option (Bool)
 | 0, _, _, _ => none
 | k + 1, x43, x427000, x438000 => if x43 = true then (some false) else ((laws_toPuzzle.f k x427000).bind fun t441 => ((laws_eqPuzzle.f k x438000 t441).bind fun t444 => (if t444 = true then (some true) else (some false))))
def laws_FnExactSureStar.f (k : Nat) (l0_0 : List (S72)) : Option (Bool) := (laws_szPuzzle.f l0_0 1048576).bind fun t427 => (if t427 < 0 then (some true) else ((laws_toPuzzle.f k l0_0).bind fun t428 => ((spec_SureStar.f k t428).bind fun bt431 => ((laws_toPuzzle.f k l0_0).bind fun t434 => ((impl_SureStar.f t434).bind fun bt438 => (if bt438.1 = bt431.1 then (if bt438.2.1 = bt431.2.1 then (laws_FnExactSureStar.j0 k (bt438.2.2 != bt431.2.2) l0_0 t434) else (laws_FnExactSureStar.j0 k true l0_0 t434)) else (laws_FnExactSureStar.j0 k true l0_0 t434)))))))
theorem laws_FnExactSureStar.mono_l : ∀ k, (∀ y0 y1 y2, LeO (laws_FnExactSureStar.j0 k y0 y1 y2) (laws_FnExactSureStar.j0 (k + 1) y0 y1 y2))
 | 0 => fun _ _ _ r h => by simp [laws_FnExactSureStar.j0] at h
 | k + 1 => by
  have ih0 := laws_FnExactSureStar.mono_l k
  ·intro y0 y1 y2
   unfold laws_FnExactSureStar.j0
   repeat' first
   | (with_reducible exact ih0 _ _ _)
   | (with_reducible exact laws_eqPuzzle.mono _ _ _)
   | (with_reducible exact laws_toPuzzle.mono _ _)
   | (with_reducible exact spec_SureStar.mono _ _)
   | (with_reducible exact LeO.refl _)
   | (with_reducible exact LeO.none _)
   | (with_reducible refine LeO.ite ?_ ?_)
   | (with_reducible refine LeO.bind ?_ (fun _ => ?_))
   | exact ih0 _ _ _
   | exact laws_eqPuzzle.mono _ _ _
   | exact laws_toPuzzle.mono _ _
   | exact spec_SureStar.mono _ _
   | exact LeO.none _
   | refine LeO.ite ?_ ?_
   | refine LeO.bind ?_ (fun _ => ?_)
theorem laws_FnExactSureStar.mono : ∀ a0 k, LeO (laws_FnExactSureStar.f k a0) (laws_FnExactSureStar.f (k + 1) a0) := by
 intro a0 k
 have ih0 := laws_FnExactSureStar.mono_l k
 unfold laws_FnExactSureStar.f
 repeat' first
   | (with_reducible exact ih0 _ _ _)
   | (with_reducible exact laws_eqPuzzle.mono _ _ _)
   | (with_reducible exact laws_toPuzzle.mono _ _)
   | (with_reducible exact spec_SureStar.mono _ _)
   | (with_reducible exact LeO.refl _)
   | (with_reducible exact LeO.none _)
   | (with_reducible refine LeO.ite ?_ ?_)
   | (with_reducible refine LeO.bind ?_ (fun _ => ?_))
   | exact ih0 _ _ _
   | exact laws_eqPuzzle.mono _ _ _
   | exact laws_toPuzzle.mono _ _
   | exact spec_SureStar.mono _ _
   | exact LeO.none _
   | refine LeO.ite ?_ ?_
   | refine LeO.bind ?_ (fun _ => ?_)
set_option maxHeartbeats 8000000 in
set_option maxRecDepth 100000 in
theorem laws_FnExactSureStar.calls (k : Nat) (A0_0 : Option Addr) (c0_0 : Nat) (l0_0 : List (S72)) (r : Bool) (w : World) (hr0_0 : Kd.C k72 w A0_0 l0_0.length l0_0) (hc0_0 : l0_0.length ≤ c0_0) (h : laws_FnExactSureStar.f k l0_0 = some r) :
  Calls Try.prog 6 #[.agg #[.slice A0_0 l0_0.length c0_0]] w fun e w' => e = .returned (.bool r) ∧ Below w.heap.size w w' := by
 have hu24 := Try.underlying24
 have hu30 := Try.underlying30
 have HR0_0 := Aside0.mk hr0_0
 have HC0_0 := Aside0.mk hc0_0
 clear hr0_0 hc0_0
 have HB := Aside0.mk (Below.refl w.heap.size w)
 have H : ((laws_szPuzzle.f l0_0 1048576).bind fun t427 => (if t427 < 0 then (some true) else ((laws_toPuzzle.f k l0_0).bind fun t428 => ((spec_SureStar.f k t428).bind fun bt431 => ((laws_toPuzzle.f k l0_0).bind fun t434 => ((impl_SureStar.f t434).bind fun bt438 => (if bt438.1 = bt431.1 then (if bt438.2.1 = bt431.2.1 then (laws_FnExactSureStar.j0 k (bt438.2.2 != bt431.2.2) l0_0 t434) else (laws_FnExactSureStar.j0 k true l0_0 t434)) else (laws_FnExactSureStar.j0 k true l0_0 t434)))))))) = some r := h
 clear h
 replace H := bI H
 obtain ⟨t427, A20, H⟩ := H
 replace H : (if t427 < 0 then (some true) else ((laws_toPuzzle.f k l0_0).bind fun t428 => ((spec_SureStar.f k t428).bind fun bt431 => ((laws_toPuzzle.f k l0_0).bind fun t434 => ((impl_SureStar.f t434).bind fun bt438 => (if bt438.1 = bt431.1 then (if bt438.2.1 = bt431.2.1 then (laws_FnExactSureStar.j0 k (bt438.2.2 != bt431.2.2) l0_0 t434) else (laws_FnExactSureStar.j0 k true l0_0 t434)) else (laws_FnExactSureStar.j0 k true l0_0 t434))))))) = some r := H
 have A2 := Aside0.mk A20
 clear A20
 by_cases c3 : t427 < 0
 ·rw [if_pos c3] at H
  have c3b0 : decide (t427 < 0) = true := decide_eq_true c3
  clear c3
  obtain rfl := oI H
  go_enter Try.func6, Try.ntmps6
  go_wp2_with (first | ((with_reducible refine gate_dst (N := 1) rfl ?_); refine box_event ?hg (N := 1) ?hd (cs := #[.slice A0_0 l0_0.length c0_0]) (t := 24) ?hr ?_; (case hd => rfl); (case hg => rfl); (case hr => first | (go_simp; done) | (go_simp; rfl)); intro gb426 hg w4 hbox hb; have n0_ := Aside0.mk (below_step hb_ hb); have n1_ := Aside0.mk (hbox); have n2_ := Aside0.mk ((by rw [hg]; exact (below_size hb_) : w.heap.size ≤ gb426)); have n3_ := Aside0.mk ((by rw [hg]; exact (below_size hb_) : w.heap.size ≤ gb426)); clear HB; have HB := n0_; have BK426 := n1_; have GW426 := n2_; have GE426 := n3_; clear n0_ n1_ n2_ n3_; clear hb hbox hg; have hcz5_0 : w4.cell? ⟨gb426, 0, none⟩ = some (.slice A0_0 l0_0.length c0_0) := (blk_cell BK426.out 0).trans rfl; have hfz5_0 := blk_frozen BK426.out 0) | ((with_reducible refine gate_callee (f := 12) rfl ?_); refine goesL_ (some 13) rfl rfl Try.func12 (by kernel_rfl) rfl #[.agg #[.slice A0_0 l0_0.length c0_0], .int .i64 1048576] rfl ar_ ?_; (with_reducible refine (laws_szPuzzle.calls _ _ l0_0 1048576 t427 _ ?side1 ?side2 A2.out).mono ?_); (case side1 => repeat (first | exact (Kd.C_below HR0_0.out HB.out) | (with_reducible refine Kd.C_alloc ?_ _) | (with_reducible refine Kd.C_drewN ?_ _) | (with_reducible refine Kd.C_drew ?_))); (case side2 => exact HC0_0.out); rintro e w6 ⟨rfl, hb⟩; refine ⟨_, rfl, ?_⟩; have n0_ := Aside0.mk (blk_below (g := gb426) (o := .cells #[.slice A0_0 l0_0.length c0_0] 24 (0, 0)) (kx_ BK426.out) hb); have n1_ := Aside0.mk (below_step (hs_ GE426.out) hb); clear BK426; clear HB; have BK426 := n0_; have HB := n1_; clear n0_ n1_; (try clear hb); (try clear hb2); (try clear hk); (try clear hi)))
  go_ret
  exact ⟨by first | rfl | (simp [errW_none, errW_some] <;> rfl) | (simp [*, errW_none, errW_some] <;> rfl), hs_ GE426.out⟩
 ·rw [if_neg c3] at H
  have c3b0 : decide (t427 < 0) = false := decide_eq_false c3
  clear c3
  replace H := bI H
  obtain ⟨t428, A70, H⟩ := H
  replace H : ((spec_SureStar.f k t428).bind fun bt431 => ((laws_toPuzzle.f k l0_0).bind fun t434 => ((impl_SureStar.f t434).bind fun bt438 => (if bt438.1 = bt431.1 then (if bt438.2.1 = bt431.2.1 then (laws_FnExactSureStar.j0 k (bt438.2.2 != bt431.2.2) l0_0 t434) else (laws_FnExactSureStar.j0 k true l0_0 t434)) else (laws_FnExactSureStar.j0 k true l0_0 t434))))) = some r := H
  have A7 := Aside0.mk A70
  clear A70
  replace H := bI H
  obtain ⟨⟨t431, t432, t433⟩, A80, H⟩ := H
  replace H : ((laws_toPuzzle.f k l0_0).bind fun t434 => ((impl_SureStar.f t434).bind fun bt438 => (if bt438.1 = t431 then (if bt438.2.1 = t432 then (laws_FnExactSureStar.j0 k (bt438.2.2 != t433) l0_0 t434) else (laws_FnExactSureStar.j0 k true l0_0 t434)) else (laws_FnExactSureStar.j0 k true l0_0 t434)))) = some r := H
  have A8 := Aside0.mk A80
  clear A80
  replace H := bI H
  obtain ⟨t434, A90, H⟩ := H
  replace H : ((impl_SureStar.f t434).bind fun bt438 => (if bt438.1 = t431 then (if bt438.2.1 = t432 then (laws_FnExactSureStar.j0 k (bt438.2.2 != t433) l0_0 t434) else (laws_FnExactSureStar.j0 k true l0_0 t434)) else (laws_FnExactSureStar.j0 k true l0_0 t434))) = some r := H
  have A9 := Aside0.mk A90
  clear A90
  replace H := bI H
  obtain ⟨⟨t438, t439, t440⟩, A100, H⟩ := H
  replace H : (if t438 = t431 then (if t439 = t432 then (laws_FnExactSureStar.j0 k (t440 != t433) l0_0 t434) else (laws_FnExactSureStar.j0 k true l0_0 t434)) else (laws_FnExactSureStar.j0 k true l0_0 t434)) = some r := H
  have A10 := Aside0.mk A100
  clear A100
  have HC11 := Aside0.mk H
  clear H
  go_enter Try.func6, Try.ntmps6
  go_upto_region 8 with (first | ((with_reducible refine gate_dst (N := 1) rfl ?_); refine box_event ?hg (N := 1) ?hd (cs := #[.slice A0_0 l0_0.length c0_0]) (t := 24) ?hr ?_; (case hd => rfl); (case hg => rfl); (case hr => first | (go_simp; done) | (go_simp; rfl)); intro gb426 hg w12 hbox hb; have n0_ := Aside0.mk (below_step hb_ hb); have n1_ := Aside0.mk (hbox); have n2_ := Aside0.mk ((by rw [hg]; exact (below_size hb_) : w.heap.size ≤ gb426)); have n3_ := Aside0.mk ((by rw [hg]; exact (below_size hb_) : w.heap.size ≤ gb426)); clear HB; have HB := n0_; have BK426 := n1_; have GW426 := n2_; have GE426 := n3_; clear n0_ n1_ n2_ n3_; clear hb hbox hg; have hcz13_0 : w12.cell? ⟨gb426, 0, none⟩ = some (.slice A0_0 l0_0.length c0_0) := (blk_cell BK426.out 0).trans rfl; have hfz13_0 := blk_frozen BK426.out 0) | ((with_reducible refine gate_callee (f := 12) rfl ?_); refine goesL_ (some 13) rfl rfl Try.func12 (by kernel_rfl) rfl #[.agg #[.slice A0_0 l0_0.length c0_0], .int .i64 1048576] rfl ar_ ?_; (with_reducible refine (laws_szPuzzle.calls _ _ l0_0 1048576 t427 _ ?side1 ?side2 A2.out).mono ?_); (case side1 => repeat (first | exact (Kd.C_below HR0_0.out HB.out) | (with_reducible refine Kd.C_alloc ?_ _) | (with_reducible refine Kd.C_drewN ?_ _) | (with_reducible refine Kd.C_drew ?_))); (case side2 => exact HC0_0.out); rintro e w14 ⟨rfl, hb⟩; refine ⟨_, rfl, ?_⟩; have n0_ := Aside0.mk (blk_below (g := gb426) (o := .cells #[.slice A0_0 l0_0.length c0_0] 24 (0, 0)) (kx_ BK426.out) hb); have n1_ := Aside0.mk (below_step (hs_ GE426.out) hb); clear BK426; clear HB; have BK426 := n0_; have HB := n1_; clear n0_ n1_; (try clear hb); (try clear hb2); (try clear hk); (try clear hi); have hcz15_0 : w14.cell? ⟨gb426, 0, none⟩ = some (.slice A0_0 l0_0.length c0_0) := (blk_cell BK426.out 0).trans rfl; have hfz15_0 := blk_frozen BK426.out 0) | ((with_reducible refine gate_callee (f := 14) rfl ?_); refine goesL_ (some 18) rfl rfl Try.func14 (by kernel_rfl) rfl #[.agg #[.slice A0_0 l0_0.length c0_0]] rfl ar_ ?_; (with_reducible refine (laws_toPuzzle.calls k _ _ l0_0 t428 _ ?side1 ?side2 A7.out).mono ?_); (case side1 => repeat (first | exact (Kd.C_below HR0_0.out HB.out) | (with_reducible refine Kd.C_alloc ?_ _) | (with_reducible refine Kd.C_drewN ?_ _) | (with_reducible refine Kd.C_drew ?_))); (case side2 => exact HC0_0.out); rintro e w16 ⟨v429, rfl, ho0, hb⟩; refine ⟨_, rfl, ?_⟩; have n0_ := Aside0.mk (Kd.R_lower ho0 (below_size (hs_ GE426.out))); have n1_ := Aside0.mk (blk_below (g := gb426) (o := .cells #[.slice A0_0 l0_0.length c0_0] 24 (0, 0)) (kx_ BK426.out) hb); have n2_ := Aside0.mk (below_step (hs_ GE426.out) hb); clear BK426; clear HB; have HO430 := n0_; have BK426 := n1_; have HB := n2_; clear n0_ n1_ n2_; (try clear hb); (try clear hb2); (try clear hk); (try clear hi); (try clear ho0); obtain ⟨Ao17, co17, eo17⟩ := Kd.R_slice HO430.out; subst eo17) | ((with_reducible refine gate_callee (f := 22) rfl ?_); refine goesL_ (some 19) rfl rfl Try.func22 (by kernel_rfl) rfl #[.agg #[.slice Ao17 t428.length co17]] rfl ar_ ?_; (with_reducible refine (spec_SureStar.calls k _ _ t428 t431 t432 t433 _ ?side1 ?side2 A8.out).mono ?_); (case side1 => repeat (first | exact (Kd.R_reads' HO430.out).2.2 | (with_reducible refine Kd.C_alloc ?_ _) | (with_reducible refine Kd.C_drewN ?_ _) | (with_reducible refine Kd.C_drew ?_))); (case side2 => exact (Kd.R_reads' HO430.out).2.1); rintro e w18 ⟨rfl, hb⟩; refine ⟨_, rfl, ?_⟩; have n0_ := Aside0.mk (Kd.R_below (by (with_reducible repeat (first | apply rA | apply rN | apply rD)); exact HO430.out) hb); have n1_ := Aside0.mk (blk_below (g := gb426) (o := .cells #[.slice A0_0 l0_0.length c0_0] 24 (0, 0)) (kx_ BK426.out) hb); have n2_ := Aside0.mk (below_step (hs_ GE426.out) hb); clear HO430; clear BK426; clear HB; have HO430 := n0_; have BK426 := n1_; have HB := n2_; clear n0_ n1_ n2_; (try clear hb); (try clear hb2); (try clear hk); (try clear hi); have hcz19_0 : w18.cell? ⟨gb426, 0, none⟩ = some (.slice A0_0 l0_0.length c0_0) := (blk_cell BK426.out 0).trans rfl; have hfz19_0 := blk_frozen BK426.out 0) | ((with_reducible refine gate_callee (f := 14) rfl ?_); refine goesL_ (some 24) rfl rfl Try.func14 (by kernel_rfl) rfl #[.agg #[.slice A0_0 l0_0.length c0_0]] rfl ar_ ?_; (with_reducible refine (laws_toPuzzle.calls k _ _ l0_0 t434 _ ?side1 ?side2 A9.out).mono ?_); (case side1 => repeat (first | exact (Kd.C_below HR0_0.out HB.out) | (with_reducible refine Kd.C_alloc ?_ _) | (with_reducible refine Kd.C_drewN ?_ _) | (with_reducible refine Kd.C_drew ?_))); (case side2 => exact HC0_0.out); rintro e w20 ⟨v435, rfl, ho0, hb⟩; refine ⟨_, rfl, ?_⟩; have n0_ := Aside0.mk (Kd.R_elder' (by (with_reducible repeat (first | apply rA | apply rN | apply rD)); exact HO430.out) (Kd.R_base ho0) hb); have n1_ := Aside0.mk (Kd.R_lower (Kd.R_new' ho0 (Kd.R_lt (by (with_reducible repeat (first | apply rA | apply rN | apply rD)); exact HO430.out))) (below_size (hs_ GE426.out))); have n2_ := Aside0.mk (blk_below (g := gb426) (o := .cells #[.slice A0_0 l0_0.length c0_0] 24 (0, 0)) (kx_ BK426.out) hb); have n3_ := Aside0.mk (below_step (hs_ GE426.out) hb); clear HO430; clear BK426; clear HB; have HO430 := n0_; have HO436 := n1_; have BK426 := n2_; have HB := n3_; clear n0_ n1_ n2_ n3_; (try clear hb); (try clear hb2); (try clear hk); (try clear hi); (try clear ho0)) | ((with_reducible refine gate_dst (N := 7) rfl ?_); refine box_event ?hg (N := 7) ?hd (cs := #[.slice none 0 0]) (t := 30) ?hr ?_; (case hd => rfl); (case hg => rfl); (case hr => first | (go_simp; done) | (go_simp; rfl)); intro gb437 hg w21 hbox hb; have n0_ := Aside0.mk (Kd.R_below (by (with_reducible repeat (first | apply rA | apply rN | apply rD)); exact HO430.out) hb); have n1_ := Aside0.mk (Kd.R_below (by (with_reducible repeat (first | apply rA | apply rN | apply rD)); exact HO436.out) hb); have n2_ := Aside0.mk (blk_below (g := gb426) (o := .cells #[.slice A0_0 l0_0.length c0_0] 24 (0, 0)) (kx_ BK426.out) hb); have n3_ := Aside0.mk (below_step (hs_ GE426.out) hb); have n4_ := Aside0.mk (hbox); have n5_ := Aside0.mk ((by rw [hg]; exact (below_size (hs_ GE426.out)) : w.heap.size ≤ gb437)); have n6_ := Aside0.mk ((by rw [hg]; exact (below_size (hs_ GE426.out)) : w.heap.size ≤ gb437)); have n7_ := Aside0.mk ((by rw [hg]; exact Nat.ne_of_lt (blk_lt (g := gb426) (o := .cells #[.slice A0_0 l0_0.length c0_0] 24 (0, 0)) (kx_ BK426.out)) : gb426 ≠ gb437)); have n8_ := Aside0.mk ((by rw [hg]; exact Nat.ne_of_gt (blk_lt (g := gb426) (o := .cells #[.slice A0_0 l0_0.length c0_0] 24 (0, 0)) (kx_ BK426.out)) : gb437 ≠ gb426)); clear HO430; clear HO436; clear BK426; clear HB; have HO430 := n0_; have HO436 := n1_; have BK426 := n2_; have HB := n3_; have BK437 := n4_; have GW437 := n5_; have GE437 := n6_; have NB426_437 := n7_; have NB437_426 := n8_; clear n0_ n1_ n2_ n3_ n4_ n5_ n6_ n7_ n8_; clear hb hbox hg; obtain ⟨Ao22, co22, eo22⟩ := Kd.R_slice HO436.out; subst eo22; have hnb23 := NB437_426.out; have hnc23 := NB426_437.out; have hcz24_0 : w21.cell? ⟨gb437, 0, none⟩ = some (.slice none 0 0) := (blk_cell BK437.out 0).trans rfl; have hfz24_0 := blk_frozen BK437.out 0) | ((with_reducible refine gate_callee (f := 23) rfl ?_); refine goesL_ (some 27) rfl rfl Try.func23 (by kernel_rfl) rfl #[.agg #[.slice Ao22 t434.length co22]] rfl ar_ ?_; (with_reducible refine (impl_SureStar.calls _ _ t434 t438 t439 t440 _ ?side1 ?side2 A10.out).mono ?_); (case side1 => refine (Kd.R_reads' (e := 67) (base := w.heap.size) (ok := fun k_ => (True ∧ some k_ ≠ (.slice Ao17 t428.length co17 : Value).ownBlock)) (n := t434.length) (c := co22) ?_).2.2; exact (by (with_reducible repeat (first | apply rA | apply rN | apply rD)); exact (Kd.R_mono (Kd.R_far (p := ⟨gb437, 0, none⟩) (Kd.R_types HO436.out BK437.out (by decide)) (fun _ hk => hk.2) (.slice Ao22 t434.length co22)) (fun _ h_ => h_.1)))); (case side2 => exact (Kd.R_reads' HO436.out).2.1); rintro e w25 ⟨rfl, hb⟩; refine ⟨_, rfl, ?_⟩; have n0_ := Aside0.mk (Kd.R_below (by (with_reducible repeat (first | apply rA | apply rN | apply rD)); exact (Kd.R_mono (Kd.R_far (p := ⟨gb437, 0, none⟩) (Kd.R_types HO430.out BK437.out (by decide)) (fun _ hk => hk.2) (.slice Ao22 t434.length co22)) (fun _ h_ => h_.1))) hb); have n1_ := Aside0.mk (Kd.R_below (by (with_reducible repeat (first | apply rA | apply rN | apply rD)); exact (Kd.R_mono (Kd.R_far (p := ⟨gb437, 0, none⟩) (Kd.R_types HO436.out BK437.out (by decide)) (fun _ hk => hk.2) (.slice Ao22 t434.length co22)) (fun _ h_ => h_.1))) hb); have n2_ := Aside0.mk (blk_below (g := gb426) (o := .cells #[.slice A0_0 l0_0.length c0_0] 24 (0, 0)) (by (with_reducible repeat (first | refine kN ?_ _ | refine kD ?_ | refine kA ?_ _)); refine blk_far ?_ NB426_437.out _; (with_reducible repeat (first | refine kN ?_ _ | refine kD ?_ | refine kA ?_ _)); exact BK426.out) hb); have n3_ := Aside0.mk (blk_below (g := gb437) (o := .cells #[.slice Ao22 t434.length co22] 30 (0, 0)) (by (with_reducible repeat (first | refine kN ?_ _ | refine kD ?_ | refine kA ?_ _)); refine blk_put (cs := #[.slice none 0 0]) ?_ 0 _ rfl; (with_reducible repeat (first | refine kN ?_ _ | refine kD ?_ | refine kA ?_ _)); exact BK437.out) hb); have n4_ := Aside0.mk (below_step (by repeat (first | (with_reducible first | exact HB.out | apply bA | apply bN | apply bD | refine below_set ?_ GE426.out | refine below_set ?_ GE437.out) | exact HB.out)) hb); clear HO430; clear HO436; clear BK426; clear BK437; clear HB; have HO430 := n0_; have HO436 := n1_; have BK426 := n2_; have BK437 := n3_; have HB := n4_; clear n0_ n1_ n2_ n3_ n4_; (try clear hb); (try clear hb2); (try clear hk); (try clear hi)))
  (try simp only [Act.put, List.setIfInBounds_toArray, List.set_cons_zero, List.set_cons_succ])
  go_cut [43] (fun v43 wc => ∃ (kq : Nat) (x43_10 : Bool), v43 = .bool x43_10 ∧ Aside0 (laws_FnExactSureStar.j0 kq x43_10 l0_0 t434 = some r) ∧ Aside0 (kq ≤ k) ∧ Aside0 (Kd.R k67 67 wc w.heap.size (fun _ => True) (.slice Ao22 t434.length co22) t434) ∧ Aside0 (wc.heap[gb426]? = some (.cells #[(.slice A0_0 l0_0.length c0_0)] 24 (0, 0))) ∧ Aside0 (wc.heap[gb437]? = some (.cells #[(.slice Ao22 t434.length co22)] 30 (0, 0))) ∧ Aside0 (Below w.heap.size w wc))
  case first =>
   have H := HC11.out
   clear HC11
   by_cases c26 : t438 = t431
   ·rw [if_pos c26] at H
    have c26b0 : (t438 == t431) = true := beq_iff_eq.mpr c26
    have c26b1 : (t438 != t431) = false := bne_eq_false_iff_eq.mpr c26
    clear c26
    (first | rw [c26b0] | (simp only [i64_w, i32_w]; rw [c26b0]) | skip)
    by_cases c27 : t439 = t432
    ·rw [if_pos c27] at H
     have c27b0 : (t439 == t432) = true := beq_iff_eq.mpr c27
     have c27b1 : (t439 != t432) = false := bne_eq_false_iff_eq.mpr c27
     clear c27
     have H' := Aside0.mk H
     clear H
     go_wp2
     go_meet
     case rel => exact ⟨_, ((t440 != t433)), (by first | rfl | (simp; done) | (simp [*]; done)), H', ⟨by first | omega | exact Nat.le_refl _⟩, ⟨by (with_reducible repeat (first | apply rA | apply rN | apply rD)); exact Kd.R_mono HO436.out (fun _ hk => trivial)⟩, ⟨by (with_reducible repeat (first | refine kN ?_ _ | refine kD ?_ | refine kA ?_ _)); exact BK426.out⟩, ⟨by (with_reducible repeat (first | refine kN ?_ _ | refine kD ?_ | refine kA ?_ _)); exact BK437.out⟩, ⟨by repeat (first | (with_reducible first | exact HB.out | apply bA | apply bN | apply bD | refine below_set ?_ GE426.out | refine below_set ?_ GE437.out) | exact HB.out)⟩⟩
    ·rw [if_neg c27] at H
     have c27b0 : (t439 == t432) = false := beq_eq_false_iff_ne.mpr c27
     have c27b1 : (t439 != t432) = true := bne_iff_ne.mpr c27
     have H' := Aside0.mk H
     clear H
     go_wp2
     go_meet
     case rel => exact ⟨_, (true), (by first | rfl | (simp; done) | (simp [*]; done)), H', ⟨by first | omega | exact Nat.le_refl _⟩, ⟨by (with_reducible repeat (first | apply rA | apply rN | apply rD)); exact Kd.R_mono HO436.out (fun _ hk => trivial)⟩, ⟨by (with_reducible repeat (first | refine kN ?_ _ | refine kD ?_ | refine kA ?_ _)); exact BK426.out⟩, ⟨by (with_reducible repeat (first | refine kN ?_ _ | refine kD ?_ | refine kA ?_ _)); exact BK437.out⟩, ⟨by repeat (first | (with_reducible first | exact HB.out | apply bA | apply bN | apply bD | refine below_set ?_ GE426.out | refine below_set ?_ GE437.out) | exact HB.out)⟩⟩
   ·rw [if_neg c26] at H
    have c26b0 : (t438 == t431) = false := beq_eq_false_iff_ne.mpr c26
    have c26b1 : (t438 != t431) = true := bne_iff_ne.mpr c26
    (first | rw [c26b0] | (simp only [i64_w, i32_w]; rw [c26b0]) | skip)
    have H' := Aside0.mk H
    clear H
    go_wp2
    go_meet
    case rel => exact ⟨_, (true), (by first | rfl | (simp; done) | (simp [*]; done)), H', ⟨by first | omega | exact Nat.le_refl _⟩, ⟨by (with_reducible repeat (first | apply rA | apply rN | apply rD)); exact Kd.R_mono HO436.out (fun _ hk => trivial)⟩, ⟨by (with_reducible repeat (first | refine kN ?_ _ | refine kD ?_ | refine kA ?_ _)); exact BK426.out⟩, ⟨by (with_reducible repeat (first | refine kN ?_ _ | refine kD ?_ | refine kA ?_ _)); exact BK437.out⟩, ⟨by repeat (first | (with_reducible first | exact HB.out | apply bA | apply bN | apply bD | refine below_set ?_ GE426.out | refine below_set ?_ GE437.out) | exact HB.out)⟩⟩
  case rest =>
   clear HC11
   try clear c1
   try clear c2
   try clear p2
   try clear c3
   try clear c3b0
   try clear c6
   try clear c12
   try clear c14
   try clear c22
   try clear c23
   try clear c26
   try clear c26b0
   try clear c26b1
   try clear c27
   try clear c27b0
   try clear c27b1
   try clear hcz13_0
   try clear hcz15_0
   try clear hcz19_0
   try clear hcz24_0
   try clear hcz5_0
   try clear hfz13_0
   try clear hfz15_0
   try clear hfz19_0
   try clear hfz24_0
   try clear hfz5_0
   obtain ⟨kq, x43_10, rfl, HA, HJ10, HO_438000, BK426, BK437, HB⟩ := hcut
   cases kq with
   | zero => exact absurd HA.out (by simp [laws_FnExactSureStar.j0])
   | succ kj10 =>
    have H := HA.out
    clear HA
    simp only [laws_FnExactSureStar.j0] at H
    by_cases c28 : x43_10 = true
    ·subst c28
     have H1 : (some false) = some r := by rw [if_pos rfl] at H; exact H
     clear H
     have H := H1
     clear H1
     obtain rfl := oI H
     go_wp2
     go_ret
     exact ⟨by first | rfl | (simp [errW_none, errW_some] <;> rfl) | (simp [*, errW_none, errW_some] <;> rfl), by repeat (first | (with_reducible first | exact HB.out | apply bA | apply bN | apply bD | refine below_set ?_ GE426.out | refine below_set ?_ GE437.out) | exact HB.out)⟩
    ·replace c28 := Bool.eq_false_iff.mpr c28
     subst c28
     have H1 : ((laws_toPuzzle.f kj10 l0_0).bind fun t441 => ((laws_eqPuzzle.f kj10 t434 t441).bind fun t444 => (if t444 = true then (some true) else (some false)))) = some r := by rw [if_neg (show ¬ (false = true) by decide)] at H; exact H
     clear H
     have H := H1
     clear H1
     replace H := bI H
     obtain ⟨t441, A290, H⟩ := H
     replace H : ((laws_eqPuzzle.f kj10 t434 t441).bind fun t444 => (if t444 = true then (some true) else (some false))) = some r := H
     have A29 := Aside0.mk A290
     clear A290
     replace H := bI H
     obtain ⟨t444, A300, H⟩ := H
     replace H : (if t444 = true then (some true) else (some false)) = some r := H
     have A30 := Aside0.mk A300
     clear A300
     by_cases c31 : t444 = true
     ·subst c31
      have H1 : (some true) = some r := by rw [if_pos rfl] at H; exact H
      clear H
      have H := H1
      clear H1
      obtain rfl := oI H
      try go_wp2
      have n0_ := Aside0.mk (Kd.R_drew HO_438000.out)
      have n1_ := Aside0.mk (blk_drew BK426.out)
      have n2_ := Aside0.mk (blk_drew BK437.out)
      have n3_ := Aside0.mk (below_drew1 HB.out)
      clear HO_438000
      clear BK426
      clear BK437
      clear HB
      have HO_438000 := n0_
      have BK426 := n1_
      have BK437 := n2_
      have HB := n3_
      clear n0_ n1_ n2_ n3_
      refine start_ (n := 5) (S := fun w' => w'.cell? ⟨gb437, 0, none⟩ = some (.slice Ao22 t434.length co22) ∧ w'.cell? ⟨gb426, 0, none⟩ = some (.slice A0_0 l0_0.length c0_0)) (ds := []) #[false, false, false, false, false] (by kernel_rfl) rfl rfl ⟨(blk_cell BK437.out 0).trans rfl, (blk_cell BK426.out 0).trans rfl⟩ (fun hHeld => ?_)
      generalize wc.drew = w32 at HO_438000 BK426 BK437 HB hHeld ⊢
      refine take_ (i := 0) (N := some 44) (v := ?_) (a' := ?_) #[true, false, false, false, false] rfl rfl (by kernel_rfl) (fun _ _ _ h => h) (Or.inl ⟨by rfl, ?_⟩) hHeld ?_ ?_
      rotate_left
      ·rintro w' ⟨s0, s1⟩
       go_simp
       with_reducible rfl
      rotate_left
      ·simp only [Act.put, sT, sZ, sS, i64_w, i32_w]
       rfl
      refine take_ (i := 1) (N := some 45) (v := ?_) (a' := ?_) #[true, true, false, false, false] rfl rfl (by kernel_rfl) (fun _ _ _ h => h) (Or.inl ⟨by rfl, ?_⟩) hHeld ?_ ?_
      rotate_left
      ·rintro w' ⟨s0, s1⟩
       go_simp
       with_reducible rfl
      rotate_left
      ·simp only [Act.put, sT, sZ, sS, i64_w, i32_w]
       rfl
      refine one_ (i := 2) (N := some 46) #[true, true, true, false, false] rfl rfl (by kernel_rfl) (by decide) (fun K hK => ?_)
      refine goes_ Try.func14 (by kernel_rfl) rfl #[.agg #[.slice A0_0 l0_0.length c0_0]] (by rfl) rfl rfl ar_ ?_
      with_reducible refine (laws_toPuzzle.calls kj10 _ _ l0_0 t441 _ ?side1 ?side2 A29.out).mono ?_
      (case side1 => repeat (first | exact (Kd.C_below HR0_0.out HB.out) | (with_reducible refine Kd.C_alloc ?_ _) | (with_reducible refine Kd.C_drewN ?_ _) | (with_reducible refine Kd.C_drew ?_)))
      (case side2 => exact HC0_0.out)
      rintro e w33 ⟨v442, rfl, ho0, hb⟩
      refine ⟨_, rfl, ?_⟩
      have n0_ := Aside0.mk (Kd.R_elder' (by (with_reducible repeat (first | apply rA | apply rN | apply rD)); exact HO_438000.out) (Kd.R_base ho0) hb)
      have n1_ := Aside0.mk (Kd.R_lower (Kd.R_new' ho0 (Kd.R_lt (by (with_reducible repeat (first | apply rA | apply rN | apply rD)); exact HO_438000.out))) (below_size (by repeat (first | (with_reducible first | exact HB.out | apply bA | apply bN | apply bD | refine below_set ?_ GE426.out | refine below_set ?_ GE437.out) | exact HB.out))))
      have n2_ := Aside0.mk (blk_below (g := gb426) (o := .cells #[.slice A0_0 l0_0.length c0_0] 24 (0, 0)) (kx_ BK426.out) hb)
      have n3_ := Aside0.mk (blk_below (g := gb437) (o := .cells #[.slice Ao22 t434.length co22] 30 (0, 0)) (kx_ BK437.out) hb)
      have n4_ := Aside0.mk (below_step (by repeat (first | (with_reducible first | exact HB.out | apply bA | apply bN | apply bD | refine below_set ?_ GE426.out | refine below_set ?_ GE437.out) | exact HB.out)) hb)
      clear HO_438000
      clear BK426
      clear BK437
      clear HB
      have HO_438000 := n0_
      have HO443 := n1_
      have BK426 := n2_
      have BK437 := n3_
      have HB := n4_
      clear n0_ n1_ n2_ n3_ n4_
      (try clear hb)
      (try clear hb2)
      (try clear hk)
      (try clear hi)
      (try clear ho0)
      obtain ⟨Ao34, co34, eo34⟩ := Kd.R_slice HO443.out
      (first | subst eo34 | (injection eo34 with f1_ f2_ f3_; have f4_ := f1_.symm; have f5_ := f3_.symm; clear f1_ f2_ f3_; subst f4_; subst f5_))
      refine hK.out _ _ ⟨(blk_cell BK437.out 0).trans rfl, (blk_cell BK426.out 0).trans rfl⟩ (fun hHeld => ?_)
      clear hK K
      refine norm_ (a' := ?_) ?_ ?_
      rotate_left
      ·show Act.put _ (some 46) _ = _
       simp only [Act.put, sT, sZ, sS, i64_w, i32_w]
       rfl
      refine one_ (i := 3) (N := some 47) #[true, true, true, true, false] rfl rfl (by kernel_rfl) (by decide) (fun K hK => ?_)
      refine goes_ Try.func16 (by kernel_rfl) rfl #[.agg #[.slice Ao22 t434.length co22], .agg #[.slice Ao34 t441.length co34]] (by rfl) rfl rfl ar_ ?_
      with_reducible refine (laws_eqPuzzle.calls kj10 _ _ t434 _ _ t441 true _ ?side1 ?side2 ?side3 ?side4 A30.out).mono ?_
      (case side1 => repeat (first | exact (Kd.R_reads' HO_438000.out).2.2 | (with_reducible refine Kd.C_alloc ?_ _) | (with_reducible refine Kd.C_drewN ?_ _) | (with_reducible refine Kd.C_drew ?_)))
      (case side2 => exact (Kd.R_reads' HO_438000.out).2.1)
      (case side3 => repeat (first | exact (Kd.R_reads' HO443.out).2.2 | (with_reducible refine Kd.C_alloc ?_ _) | (with_reducible refine Kd.C_drewN ?_ _) | (with_reducible refine Kd.C_drew ?_)))
      (case side4 => exact (Kd.R_reads' HO443.out).2.1)
      rintro e w35 ⟨rfl, hb⟩
      refine ⟨_, rfl, ?_⟩
      have n0_ := Aside0.mk (Kd.R_below (by (with_reducible repeat (first | apply rA | apply rN | apply rD)); exact HO_438000.out) hb)
      have n1_ := Aside0.mk (Kd.R_below (by (with_reducible repeat (first | apply rA | apply rN | apply rD)); exact HO443.out) hb)
      have n2_ := Aside0.mk (blk_below (g := gb426) (o := .cells #[.slice A0_0 l0_0.length c0_0] 24 (0, 0)) (kx_ BK426.out) hb)
      have n3_ := Aside0.mk (blk_below (g := gb437) (o := .cells #[.slice Ao22 t434.length co22] 30 (0, 0)) (kx_ BK437.out) hb)
      have n4_ := Aside0.mk (below_step (by repeat (first | (with_reducible first | exact HB.out | apply bA | apply bN | apply bD | refine below_set ?_ GE426.out | refine below_set ?_ GE437.out) | exact HB.out)) hb)
      clear HO_438000
      clear HO443
      clear BK426
      clear BK437
      clear HB
      have HO_438000 := n0_
      have HO443 := n1_
      have BK426 := n2_
      have BK437 := n3_
      have HB := n4_
      clear n0_ n1_ n2_ n3_ n4_
      (try clear hb)
      (try clear hb2)
      (try clear hk)
      (try clear hi)
      refine hK.out _ _ ⟨(blk_cell BK437.out 0).trans rfl, (blk_cell BK426.out 0).trans rfl⟩ (fun hHeld => ?_)
      clear hK K
      refine norm_ (a' := ?_) ?_ ?_
      rotate_left
      ·show Act.put _ (some 47) _ = _
       simp only [Act.put, sT, sZ, sS, i64_w, i32_w]
       rfl
      refine pure_ (i := 4) (N := some 48) (v := ?_) (a' := ?_) #[true, true, true, true, true] rfl rfl (by kernel_rfl) (fun _ _ _ h => h) (Or.inl ⟨by rfl, ?_⟩) ?_ ?_
      rotate_left
      ·intro w'
       go_simp
       with_reducible rfl
      rotate_left
      ·simp only [Act.put, sT, sZ, sS, i64_w, i32_w]
       rfl
      refine done_ (by kernel_rfl) ?_
      try go_wp2
      go_ret
      exact ⟨by first | rfl | (simp [errW_none, errW_some] <;> rfl) | (simp [*, errW_none, errW_some] <;> rfl), by repeat (first | (with_reducible first | exact HB.out | apply bA | apply bN | apply bD | refine below_set ?_ GE426.out | refine below_set ?_ GE437.out) | exact HB.out)⟩
     ·replace c31 := Bool.eq_false_iff.mpr c31
      subst c31
      have H1 : (some false) = some r := by rw [if_neg (show ¬ (false = true) by decide)] at H; exact H
      clear H
      have H := H1
      clear H1
      obtain rfl := oI H
      try go_wp2
      have n0_ := Aside0.mk (Kd.R_drew HO_438000.out)
      have n1_ := Aside0.mk (blk_drew BK426.out)
      have n2_ := Aside0.mk (blk_drew BK437.out)
      have n3_ := Aside0.mk (below_drew1 HB.out)
      clear HO_438000
      clear BK426
      clear BK437
      clear HB
      have HO_438000 := n0_
      have BK426 := n1_
      have BK437 := n2_
      have HB := n3_
      clear n0_ n1_ n2_ n3_
      refine start_ (n := 5) (S := fun w' => w'.cell? ⟨gb437, 0, none⟩ = some (.slice Ao22 t434.length co22) ∧ w'.cell? ⟨gb426, 0, none⟩ = some (.slice A0_0 l0_0.length c0_0)) (ds := []) #[false, false, false, false, false] (by kernel_rfl) rfl rfl ⟨(blk_cell BK437.out 0).trans rfl, (blk_cell BK426.out 0).trans rfl⟩ (fun hHeld => ?_)
      generalize wc.drew = w36 at HO_438000 BK426 BK437 HB hHeld ⊢
      refine take_ (i := 0) (N := some 44) (v := ?_) (a' := ?_) #[true, false, false, false, false] rfl rfl (by kernel_rfl) (fun _ _ _ h => h) (Or.inl ⟨by rfl, ?_⟩) hHeld ?_ ?_
      rotate_left
      ·rintro w' ⟨s0, s1⟩
       go_simp
       with_reducible rfl
      rotate_left
      ·simp only [Act.put, sT, sZ, sS, i64_w, i32_w]
       rfl
      refine take_ (i := 1) (N := some 45) (v := ?_) (a' := ?_) #[true, true, false, false, false] rfl rfl (by kernel_rfl) (fun _ _ _ h => h) (Or.inl ⟨by rfl, ?_⟩) hHeld ?_ ?_
      rotate_left
      ·rintro w' ⟨s0, s1⟩
       go_simp
       with_reducible rfl
      rotate_left
      ·simp only [Act.put, sT, sZ, sS, i64_w, i32_w]
       rfl
      refine one_ (i := 2) (N := some 46) #[true, true, true, false, false] rfl rfl (by kernel_rfl) (by decide) (fun K hK => ?_)
      refine goes_ Try.func14 (by kernel_rfl) rfl #[.agg #[.slice A0_0 l0_0.length c0_0]] (by rfl) rfl rfl ar_ ?_
      with_reducible refine (laws_toPuzzle.calls kj10 _ _ l0_0 t441 _ ?side1 ?side2 A29.out).mono ?_
      (case side1 => repeat (first | exact (Kd.C_below HR0_0.out HB.out) | (with_reducible refine Kd.C_alloc ?_ _) | (with_reducible refine Kd.C_drewN ?_ _) | (with_reducible refine Kd.C_drew ?_)))
      (case side2 => exact HC0_0.out)
      rintro e w37 ⟨v442, rfl, ho0, hb⟩
      refine ⟨_, rfl, ?_⟩
      have n0_ := Aside0.mk (Kd.R_elder' (by (with_reducible repeat (first | apply rA | apply rN | apply rD)); exact HO_438000.out) (Kd.R_base ho0) hb)
      have n1_ := Aside0.mk (Kd.R_lower (Kd.R_new' ho0 (Kd.R_lt (by (with_reducible repeat (first | apply rA | apply rN | apply rD)); exact HO_438000.out))) (below_size (by repeat (first | (with_reducible first | exact HB.out | apply bA | apply bN | apply bD | refine below_set ?_ GE426.out | refine below_set ?_ GE437.out) | exact HB.out))))
      have n2_ := Aside0.mk (blk_below (g := gb426) (o := .cells #[.slice A0_0 l0_0.length c0_0] 24 (0, 0)) (kx_ BK426.out) hb)
      have n3_ := Aside0.mk (blk_below (g := gb437) (o := .cells #[.slice Ao22 t434.length co22] 30 (0, 0)) (kx_ BK437.out) hb)
      have n4_ := Aside0.mk (below_step (by repeat (first | (with_reducible first | exact HB.out | apply bA | apply bN | apply bD | refine below_set ?_ GE426.out | refine below_set ?_ GE437.out) | exact HB.out)) hb)
      clear HO_438000
      clear BK426
      clear BK437
      clear HB
      have HO_438000 := n0_
      have HO443 := n1_
      have BK426 := n2_
      have BK437 := n3_
      have HB := n4_
      clear n0_ n1_ n2_ n3_ n4_
      (try clear hb)
      (try clear hb2)
      (try clear hk)
      (try clear hi)
      (try clear ho0)
      obtain ⟨Ao38, co38, eo38⟩ := Kd.R_slice HO443.out
      (first | subst eo38 | (injection eo38 with f1_ f2_ f3_; have f4_ := f1_.symm; have f5_ := f3_.symm; clear f1_ f2_ f3_; subst f4_; subst f5_))
      refine hK.out _ _ ⟨(blk_cell BK437.out 0).trans rfl, (blk_cell BK426.out 0).trans rfl⟩ (fun hHeld => ?_)
      clear hK K
      refine norm_ (a' := ?_) ?_ ?_
      rotate_left
      ·show Act.put _ (some 46) _ = _
       simp only [Act.put, sT, sZ, sS, i64_w, i32_w]
       rfl
      refine one_ (i := 3) (N := some 47) #[true, true, true, true, false] rfl rfl (by kernel_rfl) (by decide) (fun K hK => ?_)
      refine goes_ Try.func16 (by kernel_rfl) rfl #[.agg #[.slice Ao22 t434.length co22], .agg #[.slice Ao38 t441.length co38]] (by rfl) rfl rfl ar_ ?_
      with_reducible refine (laws_eqPuzzle.calls kj10 _ _ t434 _ _ t441 false _ ?side1 ?side2 ?side3 ?side4 A30.out).mono ?_
      (case side1 => repeat (first | exact (Kd.R_reads' HO_438000.out).2.2 | (with_reducible refine Kd.C_alloc ?_ _) | (with_reducible refine Kd.C_drewN ?_ _) | (with_reducible refine Kd.C_drew ?_)))
      (case side2 => exact (Kd.R_reads' HO_438000.out).2.1)
      (case side3 => repeat (first | exact (Kd.R_reads' HO443.out).2.2 | (with_reducible refine Kd.C_alloc ?_ _) | (with_reducible refine Kd.C_drewN ?_ _) | (with_reducible refine Kd.C_drew ?_)))
      (case side4 => exact (Kd.R_reads' HO443.out).2.1)
      rintro e w39 ⟨rfl, hb⟩
      refine ⟨_, rfl, ?_⟩
      have n0_ := Aside0.mk (Kd.R_below (by (with_reducible repeat (first | apply rA | apply rN | apply rD)); exact HO_438000.out) hb)
      have n1_ := Aside0.mk (Kd.R_below (by (with_reducible repeat (first | apply rA | apply rN | apply rD)); exact HO443.out) hb)
      have n2_ := Aside0.mk (blk_below (g := gb426) (o := .cells #[.slice A0_0 l0_0.length c0_0] 24 (0, 0)) (kx_ BK426.out) hb)
      have n3_ := Aside0.mk (blk_below (g := gb437) (o := .cells #[.slice Ao22 t434.length co22] 30 (0, 0)) (kx_ BK437.out) hb)
      have n4_ := Aside0.mk (below_step (by repeat (first | (with_reducible first | exact HB.out | apply bA | apply bN | apply bD | refine below_set ?_ GE426.out | refine below_set ?_ GE437.out) | exact HB.out)) hb)
      clear HO_438000
      clear HO443
      clear BK426
      clear BK437
      clear HB
      have HO_438000 := n0_
      have HO443 := n1_
      have BK426 := n2_
      have BK437 := n3_
      have HB := n4_
      clear n0_ n1_ n2_ n3_ n4_
      (try clear hb)
      (try clear hb2)
      (try clear hk)
      (try clear hi)
      refine hK.out _ _ ⟨(blk_cell BK437.out 0).trans rfl, (blk_cell BK426.out 0).trans rfl⟩ (fun hHeld => ?_)
      clear hK K
      refine norm_ (a' := ?_) ?_ ?_
      rotate_left
      ·show Act.put _ (some 47) _ = _
       simp only [Act.put, sT, sZ, sS, i64_w, i32_w]
       rfl
      refine pure_ (i := 4) (N := some 48) (v := ?_) (a' := ?_) #[true, true, true, true, true] rfl rfl (by kernel_rfl) (fun _ _ _ h => h) (Or.inl ⟨by rfl, ?_⟩) ?_ ?_
      rotate_left
      ·intro w'
       go_simp
       with_reducible rfl
      rotate_left
      ·simp only [Act.put, sT, sZ, sS, i64_w, i32_w]
       rfl
      refine done_ (by kernel_rfl) ?_
      try go_wp2
      go_ret
      exact ⟨by first | rfl | (simp [errW_none, errW_some] <;> rfl) | (simp [*, errW_none, errW_some] <;> rfl), by repeat (first | (with_reducible first | exact HB.out | apply bA | apply bN | apply bD | refine below_set ?_ GE426.out | refine below_set ?_ GE437.out) | exact HB.out)⟩
end Go.Proofs.Ytkgaljocaapobaa.Pr
/- The statements' own helpers on lists of clues: the size, the copies and the comparison. -/
namespace Go.Proofs.Ytkgaljocaapobaa.M
open Go.RowKit Go.Proofs.YtkgaljocaapobaaW.PrintWords Go.Proofs.Ytkgaljocaapobaa.Pr
abbrev Cl := S67
abbrev LCl := S72
def toCl (c : LCl) : Cl := ⟨c.f0, c.f1, c.f2⟩
theorem rd_cl (l : List Cl) (i : Nat) (h : i < l.length) : rd_T67 l (i : Int) = l[i] := by
  unfold rd_T67
  simp [List.getD_eq_getElem?_getD, List.getElem?_eq_getElem h]
theorem rd_lcl (l : List LCl) (i : Nat) (h : i < l.length) : rd_T72 l (i : Int) = l[i] := by
  unfold rd_T72
  simp [List.getD_eq_getElem?_getD, List.getElem?_eq_getElem h]
theorem szClS_small (l : List LCl) (n : Int) (hn : 0 ≤ n ∧ n ≤ 1048576) (h : (l.length : Int) ≤ n) : laws_szClueS.f l n = some (n - (l.length : Int)) := by
  unfold laws_szClueS.f
  rw [w64 (by omega) (by omega), if_neg (by omega)]
theorem szClS_big (l : List LCl) (n : Int) (hn : 0 ≤ n ∧ n ≤ 1048576) (h : n < (l.length : Int)) (hm : l.length ≤ maxLen) : laws_szClueS.f l n = some (-1) := by
  unfold maxLen at hm
  unfold laws_szClueS.f
  rw [w64 (by omega) (by omega), if_pos (by omega)]
theorem szP_small (l : List LCl) (h : l.length ≤ 1048576) : laws_szPuzzle.f l 1048576 = some (1048576 - (l.length : Int)) := by
  unfold laws_szPuzzle.f
  rw [szClS_small l _ (by omega) (by omega)]
  simp only [Option.bind_some]
  rw [if_neg (by omega)]
theorem szP_big (l : List LCl) (h : 1048576 < l.length) (hm : l.length ≤ maxLen) : laws_szPuzzle.f l 1048576 = some (-1) := by
  unfold laws_szPuzzle.f
  rw [szClS_big l _ (by omega) (by omega) hm]
  simp
theorem toClS_ev (l : List LCl) (hl : l.length ≤ 1048576) : Ev (fun k => laws_toClueS.f k l) (l.map toCl) := by
  unfold laws_toClueS.f
  refine Ev.pos (by omega) (Ev.pos (by simp; omega) ?_)
  rw [Int.toNat_natCast]
  refine Ev.scan0 (fun k i acc => laws_toClueS.l0 k l acc i) l (fun rest acc => l.map toCl) (fun i acc => acc = (l.take i).map toCl ++ List.replicate (l.length - i) z67)
    (fun acc hp => by
      refine Ev.step (fun k => by rw [laws_toClueS.l0]) ?_
      refine Ev.neg (by omega) (Ev.val ?_)
      rw [hp]
      simp)
    (fun i h acc hp => by
      have hr := rd_lcl l i h
      have hal : acc.length = l.length := by rw [hp]; simp; omega
      refine .inl ⟨acc.set i (toCl l[i]), ?_, rfl, fun r hr2 => ?_⟩
      · rw [hp, List.take_succ_eq_append_getElem h, List.map_append, List.append_assoc]
        have ht : ((l.take i).map toCl).length = i := by simp; omega
        rw [List.set_append_right i _ (by omega), ht, Nat.sub_self]
        congr 1
        obtain ⟨q, hq⟩ : ∃ q, l.length - i = q + 1 := ⟨l.length - i - 1, by omega⟩
        rw [hq, show l.length - (i + 1) = q by omega, List.replicate_succ, List.set_cons_zero]
        rfl
      · refine Ev.step (fun k => by rw [laws_toClueS.l0]) ?_
        refine Ev.pos (by omega) (Ev.pos (by omega) ?_)
        rw [hr]
        refine Ev.bindc (a := (l[i].f0, l[i].f1, l[i].f2)) rfl (Ev.pos (by omega) ?_)
        rw [w64 (x := (i : Int) + 1) (by omega) (by omega), Int.toNat_natCast]
        exact hr2)
    _ (by simp)
theorem toP_ev (l : List LCl) (hl : l.length ≤ 1048576) : Ev (fun k => laws_toPuzzle.f k l) (l.map toCl) := by
  unfold laws_toPuzzle.f
  exact Ev.bindk (toClS_ev l hl) (Ev.val rfl)
theorem eqClS_ev (l : List Cl) (hl : l.length ≤ 9223372036854775806) : Ev (fun k => laws_eqClueS.f k l l) true := by
  unfold laws_eqClueS.f
  refine Ev.pos rfl ?_
  have e := Ev.scan0 (fun k i (_ : Unit) => laws_eqClueS.l0 k l l i) l (fun _ _ => true) (fun _ _ => True)
    (fun acc _ => by
      refine Ev.step (fun k => by rw [laws_eqClueS.l0]) ?_
      exact Ev.neg (by omega) (Ev.now true))
    (fun i h acc _ => by
      refine .inl ⟨(), trivial, rfl, fun r hr2 => ?_⟩
      refine Ev.step (fun k => by rw [laws_eqClueS.l0]) ?_
      refine Ev.pos (by omega) (Ev.pos (by omega) (Ev.pos (by omega) ?_))
      refine Ev.bindc (a := true) (by unfold laws_eqClue.f; simp) (Ev.pos rfl ?_)
      rw [w64 (x := (i : Int) + 1) (by omega) (by omega)]
      exact hr2) () trivial
  exact e
theorem eqP_ev (l : List Cl) (hl : l.length ≤ 9223372036854775806) : Ev (fun k => laws_eqPuzzle.f k l l) true := by
  unfold laws_eqPuzzle.f
  exact Ev.bindk (eqClS_ev l hl) (Ev.pos rfl (Ev.val rfl))
end Go.Proofs.Ytkgaljocaapobaa.M
/- A puzzle of the reference is one of the program. -/
namespace Go.Proofs.Ytkgaljocaapobaa.M
open Go.RowKit Go.Proofs.YtkgaljocaapobaaW.PrintWords Go.Proofs.Ytkgaljocaapobaa.Pr
/-- A puzzle: six clues at most, each of them one. -/
def puzB (l : List Cl) : Bool := decide (l.length ≤ 6) && !(l.any noCl)
theorem isPuzzle_eq (l : List Cl) : impl_IsPuzzle.f l = some (puzB l) := rfl
theorem pzGood_ev (l : List Cl) : Ev (fun k => spec_pzGood.f k l) (puzB l) := by
  unfold spec_pzGood.f puzB
  by_cases h6 : l.length ≤ 6
  · refine Ev.neg (by omega) ?_
    rw [decide_eq_true h6, Bool.true_and]
    refine Ev.scan0 (fun k i (_ : Unit) => spec_pzGood.l0 k l (l.length : Int) i) l (fun rest _ => !(rest.any noCl)) (fun _ _ => True)
      (fun acc _ => by
        refine Ev.step (fun k => by rw [spec_pzGood.l0]) ?_
        exact Ev.neg (by omega) (Ev.val (by simp)))
      (fun i h acc _ => by
        have hr := rd_cl l i h
        by_cases hc : clN l[i].f0 l[i].f1 l[i].f2 = true
        · refine .inl ⟨(), trivial, by rw [List.any_cons]; unfold noCl; rw [hc]; rfl, fun r hr2 => ?_⟩
          refine Ev.step (fun k => by rw [spec_pzGood.l0]) ?_
          refine Ev.pos (by omega) (Ev.pos (by omega) (Ev.pos (by omega) ?_))
          rw [hr]
          refine Ev.bindk (clue_ev _ _ _) (Ev.pos hc ?_)
          rw [w64 (x := (i : Int) + 1) (by omega) (by omega)]
          exact hr2
        · refine .inr ?_
          refine Ev.step (fun k => by rw [spec_pzGood.l0]) ?_
          refine Ev.pos (by omega) (Ev.pos (by omega) (Ev.pos (by omega) ?_))
          rw [hr]
          refine Ev.bindk (clue_ev _ _ _) (Ev.neg hc (Ev.val ?_))
          rw [List.any_cons]
          have : noCl l[i] = true := by unfold noCl; rw [Bool.eq_false_iff.mpr hc]; rfl
          rw [this]
          rfl) () trivial
  · refine Ev.pos (by omega) (Ev.val ?_)
    rw [decide_eq_false h6]
    rfl
end Go.Proofs.Ytkgaljocaapobaa.M
/- The reference finds the same hidden stars as the program. -/
namespace Go.Proofs.Ytkgaljocaapobaa.M
open Go.RowKit Go.Proofs.YtkgaljocaapobaaW.PrintWords Go.Proofs.Ytkgaljocaapobaa.Pr
abbrev St := S37
theorem pzAll_l2 (l : List Cl) (hl : l.length ≤ 1048576) (n s : Int) (hh : hidB n s = true) (acc : List St) (hacc : (acc.length : Int) ≤ 1000) (r : List St)
    (hr : Ev (fun k => spec_pzAll.l1 k l (if l.any (misF n s) = true then acc else acc ++ [⟨n, s⟩]) n (s + 1)) r) :
    Ev (fun k => spec_pzAll.l2 k l acc n s true l (l.length : Int) 0 n s) r := by
  have hh2 := hid_in hh
  have e := Ev.cps (fun k i (fl : Bool) => spec_pzAll.l2 k l acc n s fl l (l.length : Int) i n s)
    (fun k fl => spec_pzAll.l1 k l (if fl = true then acc ++ [⟨n, s⟩] else acc) n (s + 1)) l
    (fun rest fl => fl && !(rest.any (misF n s))) (fun _ _ => True)
    (fun fl r _ hr => by
      refine Ev.step (fun k => by rw [spec_pzAll.l2]) ?_
      refine Ev.neg (by omega) ?_
      rw [w64 (x := s + 1) (by omega) (by omega)]
      cases fl with
      | true => exact Ev.pos rfl (Ev.pos (by omega) (by simpa using hr))
      | false => exact Ev.neg (by simp) (by simpa using hr))
    (fun i hi fl _ => by
      have hrd := rd_cl l i hi
      cases fl with
      | true =>
        refine ⟨fitB l[i].f0 l[i].f1 l[i].f2 n s, trivial, ?_, fun r hr2 => ?_⟩
        · rw [List.any_cons]
          unfold misF
          cases fitB l[i].f0 l[i].f1 l[i].f2 n s <;> simp
        · refine Ev.step (fun k => by rw [spec_pzAll.l2]) ?_
          refine Ev.pos (by omega) (Ev.pos (by omega) (Ev.pos (by omega) (Ev.pos rfl ?_)))
          rw [hrd, w64 (x := (i : Int) + 1) (by omega) (by omega)]
          exact Ev.bindk (pzFits_ev _ _ _ n s hh) hr2
      | false =>
        refine ⟨false, trivial, by simp, fun r hr2 => ?_⟩
        refine Ev.step (fun k => by rw [spec_pzAll.l2]) ?_
        refine Ev.pos (by omega) (Ev.pos (by omega) (Ev.pos (by omega) (Ev.neg (by simp) ?_)))
        rw [w64 (x := (i : Int) + 1) (by omega) (by omega)]
        exact hr2)
    l.length 0 true r (by omega) trivial (by
      rw [List.drop_zero]
      cases h : l.any (misF n s) with
      | true => rw [h] at hr; simpa using hr
      | false => rw [h] at hr; simpa using hr)
  simpa using e
theorem pzAll_l1 (l : List Cl) (hl : l.length ≤ 1048576) (n : Int) (hn : 3 ≤ n ∧ n ≤ 14) (d : Nat)
    (ih : ∀ acc : List St, (acc.length : Int) ≤ 14 * (n + 1) → Ev (fun k => spec_pzAll.l0 k l acc (n + 1)) (acc ++ solsFrom l d (n + 1))) :
    ∀ (e : Nat) (s : Int) (acc : List St), s + e = n → 1 ≤ s → (acc.length : Int) ≤ 14 * n + s → Ev (fun k => spec_pzAll.l1 k l acc n s) (acc ++ (solsStep l n e s ++ solsFrom l d (n + 1)))
  | 0, s, acc, h1, h2, h3 => by
    refine Ev.step (fun k => by rw [spec_pzAll.l1]) ?_
    refine Ev.neg (by omega) ?_
    rw [w64 (x := n + 1) (by omega) (by omega)]
    have := ih acc (by omega)
    simpa [solsStep] using this
  | e + 1, s, acc, h1, h2, h3 => by
    refine Ev.step (fun k => by rw [spec_pzAll.l1]) ?_
    refine Ev.pos (by omega) ?_
    refine pzAll_l2 l hl n s (hid_of hn.1 hn.2 h2 (by omega)) acc (by omega) _ ?_
    rw [solsStep]
    by_cases h : l.any (misF n s) = true
    · rw [if_pos h, if_pos h]
      exact pzAll_l1 l hl n hn d ih e (s + 1) acc (by omega) (by omega) (by omega)
    · rw [if_neg h, if_neg h]
      have := pzAll_l1 l hl n hn d ih e (s + 1) (acc ++ [⟨n, s⟩]) (by omega) (by omega) (by simp; omega)
      simpa [List.append_assoc] using this
theorem pzAll_l0 (l : List Cl) (hl : l.length ≤ 1048576) : ∀ (d : Nat) (n : Int) (acc : List St), n + d = 15 → 3 ≤ n → (acc.length : Int) ≤ 14 * n → Ev (fun k => spec_pzAll.l0 k l acc n) (acc ++ solsFrom l d n)
  | 0, n, acc, h1, h2, h3 => by
    refine Ev.step (fun k => by rw [spec_pzAll.l0]) ?_
    refine Ev.neg (by omega) (Ev.val ?_)
    simp [solsFrom]
  | d + 1, n, acc, h1, h2, h3 => by
    refine Ev.step (fun k => by rw [spec_pzAll.l0]) ?_
    refine Ev.pos (by omega) ?_
    rw [solsFrom]
    exact pzAll_l1 l hl n ⟨h2, by omega⟩ d (fun acc' ha => pzAll_l0 l hl d (n + 1) acc' (by omega) (by omega) ha) (n - 1).toNat 1 acc (by omega) (by omega) (by omega)
theorem pzAll_ev (l : List Cl) (hl : l.length ≤ 1048576) : Ev (fun k => spec_pzAll.f k l) (sols l) := by
  unfold spec_pzAll.f sols
  have := pzAll_l0 l hl 12 3 [] (by omega) (by omega) (by simp)
  simpa using this
theorem solsStep_len (l : List Cl) (n : Int) : ∀ (e : Nat) (s : Int), (solsStep l n e s).length ≤ e
  | 0, _ => by simp [solsStep]
  | e + 1, s => by
    have := solsStep_len l n e (s + 1)
    unfold solsStep
    split
    · omega
    · simp; omega
theorem solsFrom_len (l : List Cl) : ∀ (d : Nat) (n : Int), n + d = 15 → 3 ≤ n → (solsFrom l d n).length ≤ d * 14
  | 0, _, _, _ => by simp [solsFrom]
  | d + 1, n, h1, h2 => by
    have i1 := solsFrom_len l d (n + 1) (by omega) (by omega)
    have i2 := solsStep_len l n (n - 1).toNat 1
    rw [solsFrom, List.length_append]
    omega
theorem sols_len (l : List Cl) : (sols l).length ≤ 168 := solsFrom_len l 12 3 (by omega) (by omega)
/-- What Solutions tells. -/
def solR (l : List Cl) : List St × Bool := if puzB l = true then (sols l, true) else ([], false)
theorem solutions_eq (l : List Cl) : impl_Solutions.f l = some (solR l) := by
  unfold impl_Solutions.f impl_solutions.f solR
  rw [isPuzzle_eq, Option.bind_some]
  by_cases h : puzB l = true
  · rw [if_pos h, if_pos h]; rfl
  · rw [if_neg h, if_neg h]
theorem solR_len (l : List Cl) : (solR l).1.length ≤ 168 := by
  unfold solR
  split
  · exact sols_len l
  · simp
end Go.Proofs.Ytkgaljocaapobaa.M
/- SureStar: the plain law. -/
namespace Go.Proofs.Ytkgaljocaapobaa.Pure
open Go.RowKit Go.Proofs.Ytkgaljocaapobaa.Pr Go.Proofs.YtkgaljocaapobaaW.PrintWords Go.Proofs.YtkgaljocaapobaaW.PrintLast Go.Proofs.Ytkgaljocaapobaa.M
/-- What both tell. -/
def sureR (l : List Cl) : Int × Int × Bool := if puzB l = true then (if (sols l).length = 0 then (0, 0, false) else ((sureF (sols l) ((sols l).length - 1) 1 (rd_T37 (sols l) 0).f0 (rd_T37 (sols l) 0).f1).1, (sureF (sols l) ((sols l).length - 1) 1 (rd_T37 (sols l) 0).f0 (rd_T37 (sols l) 0).f1).2, true)) else (0, 0, false)
theorem sure_impl (l : List Cl) : impl_SureStar.f l = some (sureR l) := by
  unfold impl_SureStar.f sureR
  rw [solutions_eq, Option.bind_some]
  unfold solR
  by_cases h : puzB l = true
  · rw [if_pos h]
    dsimp only
    rw [if_pos rfl, if_pos h]
    by_cases h0 : (sols l).length = 0
    · rw [if_pos h0, if_pos h0]
    · rw [if_neg h0, if_neg h0]
  · rw [if_neg h]
    dsimp only
    rw [if_neg (by decide), if_neg h]
theorem sure_l0 (l : List St) (hl : l.length ≤ 168) : ∀ (d i : Nat) (a b : Int), i + d = l.length → Ev (fun k => spec_SureStar.l0 k a b l (l.length : Int) (i : Int)) ((sureF l d i a b).1, (sureF l d i a b).2, true)
  | 0, i, a, b, h => by
    refine Ev.step (fun k => by rw [spec_SureStar.l0]) ?_
    exact Ev.neg (by omega) (Ev.val rfl)
  | d + 1, i, a, b, h => by
    refine Ev.step (fun k => by rw [spec_SureStar.l0]) ?_
    refine Ev.pos (by omega) (Ev.pos (by omega) (Ev.pos (by omega) ?_))
    rw [w64 (x := (i : Int) + 1) (by omega) (by omega), sureF]
    have ih := sure_l0 l hl d (i + 1)
    rw [show (((i + 1 : Nat)) : Int) = (i : Int) + 1 by omega] at ih
    by_cases e0 : (rd_T37 l (i : Int)).f0 = a
    · rw [if_pos e0]
      refine Ev.pos e0 ?_
      by_cases e1 : (rd_T37 l (i : Int)).f1 = b
      · rw [if_pos e1]
        exact Ev.pos e1 (ih a b (by omega))
      · rw [if_neg e1]
        exact Ev.neg e1 (ih a 0 (by omega))
    · rw [if_neg e0]
      refine Ev.neg e0 ?_
      by_cases e1 : (rd_T37 l (i : Int)).f1 = b
      · rw [if_pos e1]
        exact Ev.pos e1 (ih 0 b (by omega))
      · rw [if_neg e1]
        exact Ev.neg e1 (ih 0 0 (by omega))
theorem sure_spec (l : List Cl) (hl : l.length ≤ 1048576) : Ev (fun k => spec_SureStar.f k l) (sureR l) := by
  unfold spec_SureStar.f sureR
  refine Ev.bindk (pzGood_ev l) ?_
  by_cases h : puzB l = true
  · simp only [if_pos h]
    have hs := sols_len l
    refine Ev.bindk (pzAll_ev l hl) ?_
    by_cases h0 : (sols l).length = 0
    · rw [if_pos h0]
      exact Ev.pos (by omega) (Ev.val rfl)
    · rw [if_neg h0]
      refine Ev.neg (by omega) (Ev.pos (by omega) ?_)
      have e := sure_l0 (sols l) hs (((sols l).length - 1) + 1) 0 (rd_T37 (sols l) 0).f0 (rd_T37 (sols l) 0).f1 (by omega)
      rw [sureF, show (((0 : Nat)) : Int) = 0 from rfl, if_pos rfl, if_pos rfl] at e
      exact e
  · simp only [if_neg h]
    exact Ev.val (by simp)
theorem FnExactSureStar : ∀ (l0_0 : List S72), l0_0.length ≤ maxLen → (∀ x ∈ l0_0, (Lit.int .i64 x.f0).wf = true ∧ (Lit.int .i64 x.f1).wf = true ∧ (Lit.int .i64 x.f2).wf = true) → ∃ k, laws_FnExactSureStar.f k l0_0 = some true := by
  intro l hm _
  suffices h : Ev (fun k => laws_FnExactSureStar.f k l) true by
    obtain ⟨k, hk⟩ := h
    exact ⟨k, hk k (Nat.le_refl k)⟩
  unfold laws_FnExactSureStar.f
  by_cases hb : l.length ≤ 1048576
  · have hml : (l.map toCl).length ≤ 1048576 := by simpa using hb
    refine Ev.bindc (szP_small l hb) (Ev.neg (by omega) (Ev.bindk (toP_ev l hb) (Ev.bindk (sure_spec _ hml) (Ev.bindk (toP_ev l hb) (Ev.bindc (sure_impl _) (Ev.pos rfl (Ev.pos rfl (Ev.step (fun k => by rw [laws_FnExactSureStar.j0]) ?_))))))))
    exact Ev.neg (by simp) (Ev.bindk (toP_ev l hb) (Ev.bindk (eqP_ev _ (by omega)) (Ev.pos rfl (Ev.val rfl))))
  · exact Ev.bindc (szP_big l (by omega) hm) (Ev.pos (by omega) (Ev.val rfl))
end Go.Proofs.Ytkgaljocaapobaa.Pure
/- Shared steps of the rows: an argument that is a slice of structs of whole numbers, read as a list of lists of numbers. -/
namespace Go.Proofs.Ytkgaljocaapobaa.RowA
open Go.ChangeShapes Go.WideShapes Go.Deep Go.RowKit Go.Proofs.YtkgaljocaapobaaW.PrintWords
section
variable {H : Type} {enc : TypeId × Value → H} {P : Program} {w : World} {base : Nat} {spare : Nat → Bool} {held : Bool}
/-- A slice of structs whose fields are one cell each: nil, or an address with, for each element and each field, the cell and the field's own reading. -/
theorem open_cells {t e : TypeId} {fs : Array Field} {fuel : Nat} {cs : List Value} {x : DataW H × List MemPlace} (ht : P.underlying t = some (.slice e)) (he : P.underlying e = some (.struct fs))
    (hone : oneCellFields P fs = true) (hC : P.cellsOf e = fs.size) (h : DataW.trod enc P w base spare held fuel t cs = some x) :
    cs = [.slice none 0 0] ∨
    ∃ (a : Addr) (len cap : Nat), cs = [.slice (some a) len cap] ∧ len ≤ cap ∧ cap ≤ maxLen ∧
      ∀ i, i < len → ∃ n, ∀ (j : Nat) (f : Field), fs[j]? = some f → ∃ (v : Value) (y : DataW H × List MemPlace), w.cell? (a.add (i * fs.size + j)) = some v ∧ DataW.trod enc P w base spare held n f.type [v] = some y := by
  rcases open_slice ht h with h0 | ⟨a, len, cap, m, n, D, Pl, hcs, hb, hl, hm, hmm, hx, hi⟩
  · exact .inl h0.1
  · refine .inr ⟨a, len, cap, hcs, hl, hm, fun i hil => ?_⟩
    have him : i < m := by
      rw [hmm]
      split
      · omega
      · exact hil
    obtain ⟨cs', hc, ht'⟩ := hi i him
    rw [hC] at hc
    obtain ⟨ys, n', hn', hy, hlen, hyl, hf⟩ := DataW.trod_struct he ht'
    obtain ⟨_, hcl, hat⟩ := World.cells?_some hc
    refine ⟨n', fun j f hj => ?_⟩
    obtain ⟨ho, hk⟩ := hone_of hone j f hj
    have hjl : j < fs.size := (Array.getElem?_eq_some_iff.1 hj).1
    have hcell := hat j hjl
    have hv : cs'[j]? = some (cs'[j]'(by omega)) := List.getElem?_eq_getElem (by omega)
    have h1 := hf j f hj
    rw [ho, hk] at h1
    have hone' : (cs'.drop j).take 1 = [cs'[j]'(by omega)] := by
      rw [List.drop_eq_getElem_cons (by omega)]
      rfl
    rw [hone'] at h1
    have hys : ys[j]? = some (ys[j]'(by omega)) := List.getElem?_eq_getElem (by omega)
    refine ⟨_, _, ?_, h1.trans hys⟩
    rw [← Go.Deep.add_add, hcell, hv]
/-- One whole number's reading. -/
theorem read_i64 {t : TypeId} {n : Nat} {v : Value} {y : DataW H × List MemPlace} (hu : P.underlying t = some (.int .i64)) (h : DataW.trod enc P w base spare held n t [v] = some y) :
    ∃ z : Int, v = .int .i64 z ∧ (Lit.int .i64 z).wf = true := by
  obtain ⟨z, hz, _, hw⟩ := DataW.trod_int hu h
  simp at hz
  exact ⟨z, hz, hw⟩
/-- A slice of structs of m whole numbers, as it is handed over: the numbers by element and field. -/
theorem open_nums {t e : TypeId} {fs : Array Field} {a : Option Addr} {len cap : Nat} {d : DataW H} {ps : List MemPlace} (ht : P.underlying t = some (.slice e)) (he : P.underlying e = some (.struct fs))
    (hone : oneCellFields P fs = true) (hC : P.cellsOf e = fs.size) (hi : ∀ (j : Nat) (f : Field), fs[j]? = some f → P.underlying f.type = some (.int .i64))
    (h : DataW.Trod enc P w base spare held t (.slice a len cap) d ps) :
    len ≤ cap ∧ len ≤ maxLen ∧ ∃ z : Nat → Nat → Int, (∀ i j, i < len → j < fs.size → (Lit.int .i64 (z i j)).wf = true) ∧
      (0 < len → ∃ ad, a = some ad ∧ ∀ i j, i < len → j < fs.size → w.cell? (ad.add (i * fs.size + j)) = some (.int .i64 (z i j))) := by
  obtain ⟨fuel, hf⟩ := h
  rcases open_cells ht he hone hC hf with hcs | ⟨x, l, c, hcs, hl, hm, hcell⟩
  · simp [Value.cells] at hcs
    obtain ⟨rfl, rfl, rfl⟩ := hcs
    exact ⟨Nat.le_refl _, Nat.zero_le _, fun _ _ => 0, fun i j h => absurd h (Nat.not_lt_zero _), fun h => absurd h (Nat.not_lt_zero _)⟩
  · simp [Value.cells] at hcs
    obtain ⟨rfl, rfl, rfl⟩ := hcs
    refine ⟨hl, Nat.le_trans hl hm, ?_⟩
    have hz : ∀ i j, ∃ z : Int, i < len → j < fs.size → w.cell? (x.add (i * fs.size + j)) = some (.int .i64 z) ∧ (Lit.int .i64 z).wf = true := by
      intro i j
      by_cases h1 : i < len
      · by_cases h2 : j < fs.size
        · obtain ⟨n, hn⟩ := hcell i h1
          obtain ⟨v, y, hv, hy⟩ := hn j fs[j] (Array.getElem?_eq_getElem h2)
          obtain ⟨z, rfl, hw⟩ := read_i64 (hi j fs[j] (Array.getElem?_eq_getElem h2)) hy
          exact ⟨z, fun _ _ => ⟨hv, hw⟩⟩
        · exact ⟨0, fun _ h => absurd h h2⟩
      · exact ⟨0, fun h _ => absurd h h1⟩
    exact ⟨fun i j => (hz i j).choose, fun i j h1 h2 => ((hz i j).choose_spec h1 h2).2, fun _ => ⟨x, rfl, fun i j h1 h2 => ((hz i j).choose_spec h1 h2).1⟩⟩
/-- The same, of one reading. -/
theorem open_nums_at {t e : TypeId} {fs : Array Field} {a : Option Addr} {len cap fuel : Nat} {x : DataW H × List MemPlace} (ht : P.underlying t = some (.slice e)) (he : P.underlying e = some (.struct fs))
    (hone : oneCellFields P fs = true) (hC : P.cellsOf e = fs.size) (hi : ∀ (j : Nat) (f : Field), fs[j]? = some f → P.underlying f.type = some (.int .i64))
    (hf : DataW.trod enc P w base spare held fuel t [.slice a len cap] = some x) :
    len ≤ cap ∧ len ≤ maxLen ∧ ∃ z : Nat → Nat → Int, (∀ i j, i < len → j < fs.size → (Lit.int .i64 (z i j)).wf = true) ∧
      (0 < len → ∃ ad, a = some ad ∧ ∀ i j, i < len → j < fs.size → w.cell? (ad.add (i * fs.size + j)) = some (.int .i64 (z i j))) :=
  open_nums (d := x.1) (ps := x.2) ht he hone hC hi ⟨fuel, by simpa [Value.cells] using hf⟩
/-- A struct of one slice. -/
theorem open_one {r : Reach} {b0 : Nat} {t e : TypeId} {f0 : Field} {v : Value} {d : DataW H} {p : List MemPlace} (hs : P.underlying t = some (.struct #[f0])) (hf0 : P.underlying f0.type = some (.slice e)) (hone : oneCellFields P #[f0] = true) (hC : P.cellsOf t = 1)
    (hv : Value.okWide P w r b0 t v) (h : DataW.Trod enc P w base spare held t v d p) :
    ∃ (a : Option Addr) (len cap : Nat) (y : DataW H × List MemPlace) (n : Nat), v = .agg #[.slice a len cap] ∧ DataW.trod enc P w base spare held n f0.type [.slice a len cap] = some y := by
  obtain ⟨cs, rfl, hsz⟩ := okWide_struct hs hv
  rw [hC] at hsz
  obtain ⟨c0, rfl⟩ : ∃ c, cs = #[c] := Array.size_eq_one_iff.mp hsz
  obtain ⟨fuel, hf⟩ := h
  obtain ⟨ys, n', hn', hy, hlen, hyl, hg⟩ := DataW.trod_struct hs hf
  obtain ⟨o0, k0⟩ := hone_of hone 0 f0 rfl
  have h1 := hg 0 f0 rfl
  rw [o0, k0] at h1
  have hv1 : (List.drop 0 (Value.agg #[c0]).cells.toList).take 1 = [c0] := rfl
  have h2 : DataW.trod enc P w base spare held n' f0.type [c0] = ys[0]? := h1
  have hys : ys[0]? = some (ys[0]'(by rw [hyl]; exact Nat.zero_lt_one)) := List.getElem?_eq_getElem _
  rw [hys] at h2
  rcases open_slice hf0 h2 with h0 | ⟨a, len, cap, m, n, D, Pl, hcs, _⟩
  · have := h0.1
    simp at this
    subst this
    exact ⟨none, 0, 0, _, n', rfl, h2⟩
  · simp at hcs
    subst hcs
    exact ⟨some a, len, cap, _, n', rfl, h2⟩
end
end Go.Proofs.Ytkgaljocaapobaa.RowA
