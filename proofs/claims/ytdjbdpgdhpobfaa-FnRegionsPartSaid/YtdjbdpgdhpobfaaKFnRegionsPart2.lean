/- Regions are as many as chords and crossings and one, pieces as chords and twice the crossings, and arcs are parted as shades tell. (Part 3 of 6.) -/
import Derived.Lib.SlicesCompact
import Derived.Sort.LotA
import Derived.Shelf.GgSortFunc.RowK
import Derived.Shelf.SlSortFuncK.RowK2
import Derived.Sort.Grow
import Derived.Shelf.SlSortCmp.InsertionK
import Derived.RegionTactic
import Derived.Lib.SliceRun
import Derived.Sort.WalkB12
import Derived.Shelf.SlGeneric
import Derived.Shelf.SlSortCmp.WholeK
import Derived.Ground.SlsfProg
import Derived.Test.YtdjbdpgdhpobfaaProg
import Derived.Shelf.SlSortCmp.NoneTotal
import Derived.Test.YtdjbdpgdhpobfaaKFnRegionsPart0
import Derived.Test.YtdjbdpgdhpobfaaKFnRegionsPart1
set_option linter.unusedVariables false
set_option linter.unusedSimpArgs false
namespace Go.Proofs.Ytdjbdpgdhpobfaa.Pr
open Go.RowKit Go.Proofs.YtdjbdpgdhpobfaaW.PrintWords Go.Proofs.YtdjbdpgdhpobfaaW.PrintLast Go.Proofs.YtdjbdpgdhpobfaaW.PrintMore
attribute [local go_sem] max2_int min2_int max_two min_two max_three min_three max_four min_four
def impl_crossings.l0 : Nat → List (S60) → Int → List (S60) → Int → Int → Option (Int)
 | 0, _, _, _, _, _ => none
 | k + 1, x0, x3, x6, x7, x8 => if x8 < x7 then (if 0 ≤ x8 then (if x8 < (x6.length : Int) then (if x8 ≤ (x0.length : Int) then ((impl_crossed.f k (x0.take (x8 : Int).toNat) ((rd_T60 x6 x8).f0) ((rd_T60 x6 x8).f1)).bind fun t143 => (impl_crossings.l0 k x0 (wrap64 (x3 + t143)) x6 x7 (wrap64 (x8 + 1)))) else (none)) else (none)) else (none)) else (some x3)
def impl_crossings.f (k : Nat) (l0 : List (S60)) : Option (Int) := impl_crossings.l0 k l0 0 l0 (l0.length : Int) 0
theorem impl_crossings.mono_l : ∀ k, (∀ y0 y1 y2 y3 y4, LeO (impl_crossings.l0 k y0 y1 y2 y3 y4) (impl_crossings.l0 (k + 1) y0 y1 y2 y3 y4))
 | 0 => fun _ _ _ _ _ r h => by simp [impl_crossings.l0] at h
 | k + 1 => by
  have ih0 := impl_crossings.mono_l k
  ·intro y0 y1 y2 y3 y4
   unfold impl_crossings.l0
   repeat' first
   | (with_reducible exact ih0 _ _ _ _ _)
   | (with_reducible exact impl_crossed.mono _ _ _ _)
   | (with_reducible exact LeO.refl _)
   | (with_reducible exact LeO.none _)
   | (with_reducible refine LeO.ite ?_ ?_)
   | (with_reducible refine LeO.bind ?_ (fun _ => ?_))
   | exact ih0 _ _ _ _ _
   | exact impl_crossed.mono _ _ _ _
   | exact LeO.none _
   | refine LeO.ite ?_ ?_
   | refine LeO.bind ?_ (fun _ => ?_)
theorem impl_crossings.mono : ∀ a0 k, LeO (impl_crossings.f k a0) (impl_crossings.f (k + 1) a0) := by
 intro a0 k
 have ih0 := impl_crossings.mono_l k
 unfold impl_crossings.f
 repeat' first
   | (with_reducible exact ih0 _ _ _ _ _)
   | (with_reducible exact impl_crossed.mono _ _ _ _)
   | (with_reducible exact LeO.refl _)
   | (with_reducible exact LeO.none _)
   | (with_reducible refine LeO.ite ?_ ?_)
   | (with_reducible refine LeO.bind ?_ (fun _ => ?_))
   | exact ih0 _ _ _ _ _
   | exact impl_crossed.mono _ _ _ _
   | exact LeO.none _
   | refine LeO.ite ?_ ?_
   | refine LeO.bind ?_ (fun _ => ?_)
def impl_crossings.T5 : Bool × List (List Nat × List Nat) := (true, [([], []), ([], []), ([], []), ([1, 2], [1, 2]), ([], []), ([3, 4], [3, 4]), ([0, 5], [0, 5]), ([6, 5, 0, 1, 2, 3, 4, 5, 6], [0, 6])])
def impl_crossings.B5 : List Nat := [0, 0, 0, 6, 0, 30, 63, 127]
theorem impl_crossings.tab5 : rtab .any (opsOf Try.f37 5) = impl_crossings.T5 := by kernel_rfl
theorem impl_crossings.bits5 : waitsOk impl_crossings.T5.2 impl_crossings.B5 = true := by kernel_rfl
set_option maxHeartbeats 8000000 in
set_option maxRecDepth 100000 in
theorem impl_crossings.calls (k : Nat) (A0 : Option Addr) (c0 : Nat) (l0 : List (S60)) (r : Int) (w : World) (hr0 : Kd.C k60 w A0 l0.length l0) (hc0 : l0.length ≤ c0) (h : impl_crossings.f k l0 = some r) :
  Calls Try.prog 37 #[.slice A0 l0.length c0] w fun e w' => e = .returned (.int .i64 r) ∧ Below w.heap.size w w' := by
 have hu60 := Try.underlying60
 have HR0 := Aside0.mk hr0
 have HC0 := Aside0.mk hc0
 clear hr0 hc0
 have HB := Aside0.mk (Below.refl w.heap.size w)
 have H : (impl_crossings.l0 k l0 0 l0 (l0.length : Int) 0) = some r := h
 clear h
 have H' := Aside0.mk H
 clear H
 go_enter Try.func37, Try.ntmps37
 go_wp2
 go_loopg [3, 8] k (fun kq v3 v8 w' => ∃ (x3_1 : Int) (x8_1 : Int), v3 = .int .i64 x3_1 ∧ v8 = .int .i64 x8_1 ∧ Aside0 (impl_crossings.l0 kq l0 x3_1 l0 (l0.length : Int) x8_1 = some r) ∧ Aside0 (kq ≤ k) ∧ Aside0 (Below w.heap.size w w'))
 case atStart => exact ⟨(0), (0), (by first | rfl | (simp; done) | (simp [*]; done)), (by first | rfl | (simp; done) | (simp [*]; done)), H', ⟨Nat.le_refl _⟩, ⟨hb_⟩⟩
 case round =>
  clear H'
  obtain ⟨x3_1, x8_1, rfl, rfl, HA, HK1, HB⟩ := hrel
  cases gk with
  | zero => exact absurd HA.out (by simp [impl_crossings.l0])
  | succ k1 =>
   have H := HA.out
   clear HA
   simp only [impl_crossings.l0] at H
   by_cases c2 : x8_1 < (l0.length : Int)
   ·rw [if_pos c2] at H
    have c2b0 : decide (x8_1 < (l0.length : Int)) = true := decide_eq_true c2
    clear c2
    by_cases c3 : 0 ≤ x8_1
    ·rw [if_pos c3] at H
     have c3b0 : decide (0 ≤ x8_1) = true := decide_eq_true c3
     clear c3
     by_cases c4 : x8_1 < (l0.length : Int)
     ·rw [if_pos c4] at H
      have c4b0 : decide (x8_1 < (l0.length : Int)) = true := decide_eq_true c4
      clear c4
      have c5b0 := eq_true (of_decide_eq_true (by assumption) : 0 ≤ x8_1)
      by_cases c6 : x8_1 ≤ (l0.length : Int)
      ·rw [if_pos c6] at H
       have c6b0 := eq_true c6
       have c6b1 : decide (x8_1 ≤ (l0.length : Int)) = true := decide_eq_true c6
       clear c6
       obtain ⟨y139, hy139⟩ : ∃ y_ : List (S60), y_ = (l0.take (x8_1 : Int).toNat) := ⟨_, rfl⟩
       replace H : ((impl_crossed.f k1 y139 ((rd_T60 l0 x8_1).f0) ((rd_T60 l0 x8_1).f1)).bind fun t143 => (impl_crossings.l0 k1 l0 (wrap64 (x3_1 + t143)) l0 (l0.length : Int) (wrap64 (x8_1 + 1)))) = some r := by first | (rw [hy139]; with_reducible exact H) | (have H2_ := (Option.bind_some _ _).symm.trans H; rw [hy139]; with_reducible exact H2_) | (have H2_ := (Option.bind_some _ _).symm.trans H; with_reducible exact H2_) | with_reducible exact H | (rw [hy139]; exact H) | exact H
       have Ny139 := Aside0.mk hy139
       clear hy139
       replace H := bI H
       obtain ⟨t143, A70, H⟩ := H
       replace H : (impl_crossings.l0 k1 l0 (wrap64 (x3_1 + t143)) l0 (l0.length : Int) (wrap64 (x8_1 + 1))) = some r := H
       have A7 := Aside0.mk A70
       clear A70
       have H' := Aside0.mk H
       clear H
       have p137 : 0 ≤ (x8_1 : Int) := of_decide_eq_true (by assumption)
       have q137 : x8_1 < (l0.length : Int) := of_decide_eq_true (by assumption)
       obtain ⟨ad137, e137, hx137_0, hx137_1⟩ := at_T60 HR0.out x8_1 p137 q137
       cases e137
       replace hx137_0 := (HB.out.cell (World.block_lt_of_cell? w _ hx137_0)).trans hx137_0
       replace hx137_1 := (HB.out.cell (World.block_lt_of_cell? w _ hx137_1)).trans hx137_1
       replace p137 := eq_true p137
       replace q137 := eq_true q137
       try go_wp2_with (first | ((with_reducible refine gate_dst (N := 5) rfl ?_); refine box_event ?hg (N := 5) ?hd (cs := #[.int .i64 0, .int .i64 0]) (t := 60) ?hr ?_; (case hd => rfl); (case hg => rfl); (case hr => first | (go_simp; done) | (go_simp; rfl)); intro gb138 hg w8 hbox hb; have n0_ := Aside0.mk (below_step hb_ hb); have n1_ := Aside0.mk (hbox); have n2_ := Aside0.mk ((by rw [hg]; exact (below_size hb_) : w.heap.size ≤ gb138)); have n3_ := Aside0.mk ((by rw [hg]; exact (below_size hb_) : w.heap.size ≤ gb138)); clear HB; have HB := n0_; have BK138 := n1_; have GW138 := n2_; have GE138 := n3_; clear n0_ n1_ n2_ n3_; clear hb hbox hg; have hcz9_0 : w8.cell? ⟨gb138, 0, none⟩ = some (.int .i64 0) := bc_ BK138 0; have hcz9_1 : w8.cell? ⟨gb138, 1, none⟩ = some (.int .i64 0) := bc_ BK138 1; have hfz9_0 := blk_frozen BK138.out 0; have hfz9_1 := blk_frozen BK138.out 1))
       have n0_ : Aside0 (((w8.setCell ⟨gb138, 0, none⟩ (.int .i64 ((rd_T60 l0 x8_1).f0))).setCell ⟨gb138, 1, none⟩ (.int .i64 ((rd_T60 l0 x8_1).f1))).heap[gb138]? = some (.cells #[.int .i64 ((rd_T60 l0 x8_1).f0), .int .i64 ((rd_T60 l0 x8_1).f1)] 60 (0, 0))) := ⟨by (with_reducible repeat (first | refine kN ?_ _ | refine kD ?_ | refine kA ?_ _)); refine blk_put (cs := #[.int .i64 ((rd_T60 l0 x8_1).f0), .int .i64 0]) ?_ 1 _ rfl; (with_reducible repeat (first | refine kN ?_ _ | refine kD ?_ | refine kA ?_ _)); refine blk_put (cs := #[.int .i64 0, .int .i64 0]) ?_ 0 _ rfl; (with_reducible repeat (first | refine kN ?_ _ | refine kD ?_ | refine kA ?_ _)); exact BK138.out⟩
       have n1_ : Aside0 (Below w.heap.size w ((w8.setCell ⟨gb138, 0, none⟩ (.int .i64 ((rd_T60 l0 x8_1).f0))).setCell ⟨gb138, 1, none⟩ (.int .i64 ((rd_T60 l0 x8_1).f1)))) := ⟨hs_ GE138.out⟩
       (try clear BK138)
       (try clear HB)
       generalize ((w8.setCell ⟨gb138, 0, none⟩ (.int .i64 ((rd_T60 l0 x8_1).f0))).setCell ⟨gb138, 1, none⟩ (.int .i64 ((rd_T60 l0 x8_1).f1))) = w10 at n0_ n1_ ⊢
       have BK138 := n0_
       have HB := n1_
       clear n0_ n1_
       have n0_ := Aside0.mk (blk_drew BK138.out)
       have n1_ := Aside0.mk (below_drew1 HB.out)
       clear BK138
       clear HB
       have BK138 := n0_
       have HB := n1_
       clear n0_ n1_
       have q12 : (x8_1 : Int) ≤ ((l0.length : Int) : Int) := of_decide_eq_true (by assumption)
       obtain ⟨i012, hi012, _, hsz12, _⟩ := info_parts info60
       have hroom12 : l0.length ≤ c0 := HC0.out
       have hC12 : Kd.C k60 _ (some ad137) l0.length l0 := HR0.out
       have hcut12 := cut_to (P := Try.prog) 24 60 .i64 Try.underlying24 hi012 (some ad137) l0.length c0 x8_1 (of_decide_eq_true (by assumption)) q12 hroom12
       have hr12 := Kd.C_take (m := (x8_1 : Int).toNat) hC12 (by omega)
       have hy12 : y139.length = (x8_1 : Int).toNat := (by rw [Ny139.out, List.length_take]; omega)
       rw [← Ny139.out] at hr12
       rw [← hy12] at hcut12
       have HR142 := Aside0.mk hr12
       have HC142 := Aside0.mk (show y139.length ≤ c0 from by omega)
       clear hr12 hC12 hroom12 hi012 hsz12
       have KY12 := Aside0.mk hy12
       clear hy12
       replace q12 := eq_true q12
       refine start_ (n := 8) (S := fun w' => w'.cell? ⟨gb138, 0, none⟩ = some (.int .i64 ((rd_T60 l0 x8_1).f0)) ∧ w'.cell? ⟨gb138, 1, none⟩ = some (.int .i64 ((rd_T60 l0 x8_1).f1))) (ds := []) #[false, false, false, false, false, false, false, false] (by kernel_rfl) rfl rfl ⟨bc_ BK138 0, bc_ BK138 1⟩ (fun hHeld => ?_); refine with_tabW impl_crossings.tab5 impl_crossings.bits5 (fun HT_ HW_ => ?_)
       generalize w10.drew = w11 at BK138 HB HR142 hHeld ⊢
       refine pure_ (i := 0) (N := some 13) (v := ?_) (a' := ?_) #[true, false, false, false, false, false, false, false] rfl rfl (any_of HT_.out (by kernel_rfl)) (fun _ _ _ h => h) (Or.inl ⟨by rfl, ?_⟩) ?_ ?_
       rotate_left
       ·intro w'
        go_simp
        with_reducible rfl
       rotate_left
       ·simp only [Act.put, sT, sZ, sS, i64_w, i32_w]
        rfl
       refine pure_ (i := 1) (N := some 14) (v := ?_) (a' := ?_) #[true, true, false, false, false, false, false, false] rfl rfl (any_of HT_.out (by kernel_rfl)) (fun _ _ _ h => h) (Or.inl ⟨by rfl, ?_⟩) ?_ ?_
       rotate_left
       ·intro w'
        go_simp
        with_reducible rfl
       rotate_left
       ·simp only [Act.put, sT, sZ, sS, i64_w, i32_w]
        rfl
       refine pure_ (i := 2) (N := some 15) (v := ?_) (a' := ?_) #[true, true, true, false, false, false, false, false] rfl rfl (any_of HT_.out (by kernel_rfl)) (fun _ _ _ h => h) (Or.inl ⟨by rfl, ?_⟩) ?_ ?_
       rotate_left
       ·intro w'
        go_simp
        with_reducible rfl
       rotate_left
       ·simp only [Act.put, sT, sZ, sS, i64_w, i32_w]
        rfl
       refine pure_ (i := 3) (N := some 16) (v := ?_) (a' := ?_) #[true, true, true, true, false, false, false, false] rfl rfl (any_of HT_.out (by kernel_rfl)) (fun _ _ _ h => h) (Or.inl ⟨by rfl, ?_⟩) ?_ ?_
       rotate_left
       ·intro w'
        go_simp
        with_reducible rfl
       rotate_left
       ·simp only [Act.put, sT, sZ, sS, i64_w, i32_w]
        rfl
       refine take_ (i := 4) (N := some 17) (v := ?_) (a' := ?_) #[true, true, true, true, true, false, false, false] rfl rfl (take_ofW HT_.out HW_.out (by kernel_rfl)) (fun _ _ _ h => h) (Or.inl ⟨by rfl, ?_⟩) hHeld ?_ ?_
       rotate_left
       ·rintro w' ⟨s0, s1⟩
        go_simp
        with_reducible rfl
       rotate_left
       ·simp only [Act.put, sT, sZ, sS, i64_w, i32_w]
        rfl
       refine one_ (i := 5) (N := some 18) #[true, true, true, true, true, true, false, false] rfl rfl (one_of HT_.out (by kernel_rfl)) (by decide) (fun K hK => ?_)
       refine goes_ Try.func43 (by kernel_rfl) rfl #[.slice (some ad137) y139.length c0, .agg #[.int .i64 ((rd_T60 l0 x8_1).f0), .int .i64 ((rd_T60 l0 x8_1).f1)]] (by rfl) rfl rfl ar_ ?_
       with_reducible refine (impl_crossed.calls k1 _ _ y139 ((rd_T60 l0 x8_1).f0) ((rd_T60 l0 x8_1).f1) t143 _ ?side1 ?side2 A7.out).mono ?_
       (case side1 => repeat (first | exact (Kd.C_below HR142.out HB.out) | (with_reducible refine Kd.C_alloc ?_ _) | (with_reducible refine Kd.C_drewN ?_ _) | (with_reducible refine Kd.C_drew ?_)))
       (case side2 => exact HC142.out)
       rintro e w13 ⟨rfl, hb⟩
       refine ⟨_, rfl, ?_⟩
       have n0_ := Aside0.mk (blk_below (g := gb138) (o := .cells #[.int .i64 ((rd_T60 l0 x8_1).f0), .int .i64 ((rd_T60 l0 x8_1).f1)] 60 (0, 0)) (kx_ BK138.out) hb)
       have n1_ := Aside0.mk (below_step (hs_ GE138.out) hb)
       clear BK138
       clear HB
       have BK138 := n0_
       have HB := n1_
       clear n0_ n1_
       (try clear hb)
       (try clear hb2)
       (try clear hk)
       (try clear hi)
       refine hK.out _ _ ⟨bc_ BK138 0, bc_ BK138 1⟩ (fun hHeld => ?_)
       clear hK K
       refine norm_ (a' := ?_) ?_ ?_
       rotate_left
       ·show Act.put _ (some 18) _ = _
        simp only [Act.put, sT, sZ, sS, i64_w, i32_w]
        rfl
       refine pure_ (i := 6) (N := some 19) (v := ?_) (a' := ?_) #[true, true, true, true, true, true, true, false] rfl rfl (any_of HT_.out (by kernel_rfl)) (fun _ _ _ h => h) (Or.inl ⟨by rfl, ?_⟩) ?_ ?_
       rotate_left
       ·intro w'
        go_simp
        with_reducible rfl
       rotate_left
       ·simp only [Act.put, sT, sZ, sS, i64_w, i32_w]
        rfl
       refine pure_ (i := 7) (N := some 3) (v := ?_) (a' := ?_) #[true, true, true, true, true, true, true, true] rfl rfl (any_of HT_.out (by kernel_rfl)) (fun _ _ _ h => h) (Or.inl ⟨by rfl, ?_⟩) ?_ ?_
       rotate_left
       ·intro w'
        go_simp
        with_reducible rfl
       rotate_left
       ·simp only [Act.put, sT, sZ, sS, i64_w, i32_w]
        rfl
       refine done_ (done_of HT_.out (by kernel_rfl)) ?_
       try go_wp2
       go_roundg k1
       case measure => have := HK1.out; omega
       case rel => exact ⟨(wrap64 (x3_1 + t143)), (wrap64 (x8_1 + 1)), (by first | rfl | (simp; done) | (simp [*]; done)), (by first | rfl | (simp; done) | (simp [*]; done)), H', ⟨by have := HK1.out; omega⟩, ⟨hs_ GE138.out⟩⟩
      ·rw [if_neg c6] at H
       exact absurd H (by simp)
     ·rw [if_neg c4] at H
      exact absurd H (by simp)
    ·rw [if_neg c3] at H
     exact absurd H (by simp)
   ·rw [if_neg c2] at H
    have c2b0 : decide (x8_1 < (l0.length : Int)) = false := decide_eq_false c2
    clear c2
    obtain rfl := oI H
    go_wp2
    go_ret
    exact ⟨by first | rfl | (simp [errW_none, errW_some] <;> rfl) | (simp [*, errW_none, errW_some] <;> rfl), hb_⟩
end Go.Proofs.Ytdjbdpgdhpobfaa.Pr
/- How many chords cross. -/
namespace Go.Proofs.Ytdjbdpgdhpobfaa.M
open Go.RowKit Go.Proofs.YtdjbdpgdhpobfaaW.PrintWords Go.Proofs.Ytdjbdpgdhpobfaa.Pr
theorem Ev.cps {α β γ : Type} (L : Nat → Int → β → Option γ) (K : Nat → β → Option γ) (xs : List α) (F : List α → β → β) (P : Nat → β → Prop)
    (h0 : ∀ acc r, P xs.length acc → Ev (fun k => K k (F [] acc)) r → Ev (fun k => L k (xs.length : Int) acc) r)
    (h1 : ∀ (i : Nat) (h : i < xs.length) (acc : β), P i acc → ∃ acc', P (i + 1) acc' ∧ F (xs[i] :: xs.drop (i + 1)) acc = F (xs.drop (i + 1)) acc' ∧ ∀ r, Ev (fun k => L k ((i : Int) + 1) acc') r → Ev (fun k => L k (i : Int) acc) r) :
    ∀ (d i : Nat) (acc : β) (r : γ), i + d = xs.length → P i acc → Ev (fun k => K k (F (xs.drop i) acc)) r → Ev (fun k => L k (i : Int) acc) r := by
  intro d
  induction d with
  | zero =>
    intro i acc r hi hp hr
    obtain rfl : i = xs.length := by omega
    rw [List.drop_length] at hr
    exact h0 acc r hp hr
  | succ d ih =>
    intro i acc r hi hp hr
    have hlt : i < xs.length := by omega
    rw [List.drop_eq_getElem_cons hlt] at hr
    obtain ⟨acc', hp', hF, hk⟩ := h1 i hlt acc hp
    rw [hF] at hr
    refine hk r ?_
    have e := ih (i + 1) acc' r (by omega) hp' hr
    rw [show (((i + 1 : Nat)) : Int) = (i : Int) + 1 from by omega] at e
    exact e
def cnt (c : Ch) (l : List Ch) : Nat := l.countP (crB c)
theorem cnt_pos {c d : Ch} (r : List Ch) (h : crB c d = true) : cnt c (d :: r) = cnt c r + 1 := by
  unfold cnt
  rw [List.countP_cons, if_pos h]
theorem cnt_neg {c d : Ch} (r : List Ch) (h : ¬ crB c d = true) : cnt c (d :: r) = cnt c r := by
  unfold cnt
  rw [List.countP_cons, if_neg h]
  rfl
theorem cnt_le (c : Ch) (l : List Ch) : cnt c l ≤ l.length := List.countP_le_length
theorem crossed_ev (l : List Ch) (c : Ch) (hl : l.length ≤ 4611686018427387904) : Ev (fun k => impl_crossed.f k l c.f0 c.f1) (cnt c l : Int) := by
  unfold impl_crossed.f
  have e := Ev.scan0 (fun k i (acc : Int) => impl_crossed.l0 k acc l (l.length : Int) i c.f0 c.f1) l (fun rest acc => acc + (cnt c rest : Int)) (fun i acc => 0 ≤ acc ∧ acc ≤ i)
    (fun acc hp => by
      refine Ev.step (fun k => by rw [impl_crossed.l0]) ?_
      exact Ev.neg (by omega) (Ev.val (by simp [cnt])))
    (fun i h acc hp => by
      have hr := rd_ch l i h
      by_cases hc : crB c l[i] = true
      · refine .inl ⟨acc + 1, ⟨by omega, by omega⟩, by rw [cnt_pos _ hc]; omega, fun r hr2 => ?_⟩
        refine Ev.step (fun k => by rw [impl_crossed.l0]) ?_
        refine Ev.pos (by omega) (Ev.pos (by omega) (Ev.pos (by omega) ?_))
        rw [hr]
        refine Ev.bindc (crossing_eq _ _) (Ev.pos hc ?_)
        rw [w64 (x := (i : Int) + 1) (by omega) (by omega), w64 (x := acc + 1) (by omega) (by omega)]
        exact hr2
      · refine .inl ⟨acc, ⟨by omega, by omega⟩, by rw [cnt_neg _ hc], fun r hr2 => ?_⟩
        refine Ev.step (fun k => by rw [impl_crossed.l0]) ?_
        refine Ev.pos (by omega) (Ev.pos (by omega) (Ev.pos (by omega) ?_))
        rw [hr]
        refine Ev.bindc (crossing_eq _ _) (Ev.neg hc ?_)
        rw [w64 (x := (i : Int) + 1) (by omega) (by omega)]
        exact hr2)
    0 ⟨by omega, by omega⟩
  simpa using e
/-- Pairs of chords that cross, each chord with those behind it. -/
def pairsN : List Ch → Nat
  | [] => 0
  | c :: r => cnt c r + pairsN r
/-- The same, each chord with those ahead of it. -/
def aheadN : List Ch → List Ch → Nat
  | _, [] => 0
  | pre, c :: r => cnt c pre + aheadN (pre ++ [c]) r
def withN (pre : List Ch) (l : List Ch) : Nat := (l.map fun c => cnt c pre).sum
theorem withN_cons (pre : List Ch) (c : Ch) : ∀ l : List Ch, withN (pre ++ [c]) l = withN pre l + cnt c l
  | [] => by simp [withN, cnt]
  | d :: r => by
    have ih := withN_cons pre c r
    unfold withN at *
    simp only [List.map_cons, List.sum_cons, ih]
    unfold cnt
    rw [List.countP_append, List.countP_cons]
    simp only [List.countP_cons, List.countP_nil, crB_comm c d]
    omega
theorem aheadN_eq : ∀ (l pre : List Ch), aheadN pre l = withN pre l + pairsN l
  | [], pre => by simp [aheadN, withN, pairsN]
  | c :: r, pre => by
    rw [aheadN, aheadN_eq r, withN_cons, pairsN]
    simp only [withN, List.map_cons, List.sum_cons]
    omega
theorem pairs_ahead (l : List Ch) : aheadN [] l = pairsN l := by
  rw [aheadN_eq]
  have : withN [] l = 0 := by
    unfold withN
    induction l with
    | nil => rfl
    | cons c r ih => rw [List.map_cons, List.sum_cons, ih]; rfl
  omega
theorem pairsN_le : ∀ l : List Ch, pairsN l ≤ l.length * l.length
  | [] => by simp [pairsN]
  | c :: r => by
    have h1 := pairsN_le r
    have h2 := cnt_le c r
    simp only [pairsN, List.length_cons]
    have : (r.length + 1) * (r.length + 1) = r.length * r.length + 2 * r.length + 1 := by
      rw [Nat.add_mul, Nat.mul_add]; omega
    omega
theorem crossings_evB (l : List Ch) (hl : l.length ≤ 1000) : Ev (fun k => impl_crossings.f k l) (pairsN l : Int) := by
  unfold impl_crossings.f
  have e := Ev.scan0 (fun k i (acc : Int × List Ch) => impl_crossings.l0 k l acc.1 l (l.length : Int) i) l (fun rest acc => acc.1 + (aheadN acc.2 rest : Int)) (fun i acc => acc.2 = l.take i ∧ 0 ≤ acc.1 ∧ acc.1 ≤ i * 1000)
    (fun acc hp => by
      refine Ev.step (fun k => by rw [impl_crossings.l0]) ?_
      exact Ev.neg (by omega) (Ev.val (by simp [aheadN])))
    (fun i h acc hp => by
      obtain ⟨hp1, hp2, hp3⟩ := hp
      have hr := rd_ch l i h
      have hcn := cnt_le l[i] (l.take i)
      have htl : (l.take i).length = i := by rw [List.length_take]; omega
      refine .inl ⟨(acc.1 + cnt l[i] (l.take i), l.take (i + 1)), ⟨rfl, by omega, by simp only; omega⟩, ?_, fun r hr2 => ?_⟩
      · rw [hp1, aheadN, List.take_succ_eq_append_getElem h]
        simp only
        omega
      · refine Ev.step (fun k => by rw [impl_crossings.l0]) ?_
        refine Ev.pos (by omega) (Ev.pos (by omega) (Ev.pos (by omega) (Ev.pos (by omega) ?_)))
        rw [hr, Int.toNat_natCast]
        refine Ev.bindk (crossed_ev (l.take i) l[i] (by omega)) ?_
        rw [w64 (x := (i : Int) + 1) (by omega) (by omega), w64 (x := acc.1 + (cnt l[i] (l.take i) : Int)) (by omega) (by omega)]
        exact hr2)
    (0, []) ⟨by simp, by omega, by simp⟩
  simp only [pairs_ahead, Int.zero_add] at e
  exact e
theorem crossings_ev (l : List Ch) (hl : l.length ≤ 40) : Ev (fun k => impl_crossings.f k l) (pairsN l : Int) := crossings_evB l (by omega)
end Go.Proofs.Ytdjbdpgdhpobfaa.M
namespace Go.Proofs.Ytdjbdpgdhpobfaa.Pr
open Go.RowKit Go.Proofs.YtdjbdpgdhpobfaaW.PrintWords Go.Proofs.YtdjbdpgdhpobfaaW.PrintLast Go.Proofs.YtdjbdpgdhpobfaaW.PrintMore
attribute [local go_sem] max2_int min2_int max_two min_two max_three min_three max_four min_four
mutual
def spec_cdPairs.l0 : Nat → List (S60) → List (List Int) → List (S60) → Int → Int → Option ((List (List Int)))
 | 0, _, _, _, _, _ => none
 | k + 1, x0, x3, x7, x8, x9 => if x9 < x8 then (if 0 ≤ x9 then (if x9 < (x7.length : Int) then (spec_cdPairs.l1 k x0 x3 x9 (wrap64 (x9 + 1)) x7 x8 x9 ((rd_T60 x7 x9).f0) ((rd_T60 x7 x9).f1)) else (none)) else (none)) else (some x3)
def spec_cdPairs.l1 : Nat → List (S60) → List (List Int) → Int → Int → List (S60) → Int → Int → Int → Int → Option ((List (List Int)))
 | 0, _, _, _, _, _, _, _, _, _ => none
 | k + 1, x0, x3, x4, x6, x7, x8, x9, x237000, x237001 => if x6 < (x0.length : Int) then (if 0 ≤ x6 then ((spec_srCross.f x237000 x237001 ((rd_T60 x0 x6).f0) ((rd_T60 x0 x6).f1)).bind fun t238 => (if t238 = true then (if x3.length < 5864062014805 then (spec_cdPairs.l1 k x0 (x3 ++ [(([x4, x6] : List Int))]) x4 (wrap64 (x6 + 1)) x7 x8 x9 x237000 x237001) else (none)) else (spec_cdPairs.l1 k x0 x3 x4 (wrap64 (x6 + 1)) x7 x8 x9 x237000 x237001))) else (none)) else (spec_cdPairs.l0 k x0 x3 x7 x8 (wrap64 (x9 + 1)))
end
def spec_cdPairs.f (k : Nat) (l0 : List (S60)) : Option ((List (List Int))) := spec_cdPairs.l0 k l0 ([] : List (List Int)) l0 (l0.length : Int) 0
theorem spec_cdPairs.mono_l : ∀ k, (∀ y0 y1 y2 y3 y4, LeO (spec_cdPairs.l0 k y0 y1 y2 y3 y4) (spec_cdPairs.l0 (k + 1) y0 y1 y2 y3 y4)) ∧ (∀ y0 y1 y2 y3 y4 y5 y6 y7 y8, LeO (spec_cdPairs.l1 k y0 y1 y2 y3 y4 y5 y6 y7 y8) (spec_cdPairs.l1 (k + 1) y0 y1 y2 y3 y4 y5 y6 y7 y8))
 | 0 => ⟨fun _ _ _ _ _ r h => by simp [spec_cdPairs.l0] at h, fun _ _ _ _ _ _ _ _ _ r h => by simp [spec_cdPairs.l1] at h⟩
 | k + 1 => by
  obtain ⟨ih0, ih1⟩ := spec_cdPairs.mono_l k
  refine ⟨?_, ?_⟩
  ·intro y0 y1 y2 y3 y4
   unfold spec_cdPairs.l0
   repeat' first
   | (with_reducible exact ih0 _ _ _ _ _)
   | (with_reducible exact ih1 _ _ _ _ _ _ _ _ _)
   | (with_reducible exact LeO.refl _)
   | (with_reducible exact LeO.none _)
   | (with_reducible refine LeO.ite ?_ ?_)
   | (with_reducible refine LeO.bind ?_ (fun _ => ?_))
   | exact ih0 _ _ _ _ _
   | exact ih1 _ _ _ _ _ _ _ _ _
   | exact LeO.none _
   | refine LeO.ite ?_ ?_
   | refine LeO.bind ?_ (fun _ => ?_)
  ·intro y0 y1 y2 y3 y4 y5 y6 y7 y8
   unfold spec_cdPairs.l1
   repeat' first
   | (with_reducible exact ih0 _ _ _ _ _)
   | (with_reducible exact ih1 _ _ _ _ _ _ _ _ _)
   | (with_reducible exact LeO.refl _)
   | (with_reducible exact LeO.none _)
   | (with_reducible refine LeO.ite ?_ ?_)
   | (with_reducible refine LeO.bind ?_ (fun _ => ?_))
   | exact ih0 _ _ _ _ _
   | exact ih1 _ _ _ _ _ _ _ _ _
   | exact LeO.none _
   | refine LeO.ite ?_ ?_
   | refine LeO.bind ?_ (fun _ => ?_)
theorem spec_cdPairs.mono : ∀ a0 k, LeO (spec_cdPairs.f k a0) (spec_cdPairs.f (k + 1) a0) := by
 intro a0 k
 obtain ⟨ih0, ih1⟩ := spec_cdPairs.mono_l k
 unfold spec_cdPairs.f
 repeat' first
   | (with_reducible exact ih0 _ _ _ _ _)
   | (with_reducible exact ih1 _ _ _ _ _ _ _ _ _)
   | (with_reducible exact LeO.refl _)
   | (with_reducible exact LeO.none _)
   | (with_reducible refine LeO.ite ?_ ?_)
   | (with_reducible refine LeO.bind ?_ (fun _ => ?_))
   | exact ih0 _ _ _ _ _
   | exact ih1 _ _ _ _ _ _ _ _ _
   | exact LeO.none _
   | refine LeO.ite ?_ ?_
   | refine LeO.bind ?_ (fun _ => ?_)
set_option maxHeartbeats 8000000 in
set_option maxRecDepth 100000 in
theorem spec_cdPairs.calls (k : Nat) (A0 : Option Addr) (c0 : Nat) (l0 : List (S60)) (r : List (List Int)) (w : World) (hr0 : Kd.C k60 w A0 l0.length l0) (hc0 : l0.length ≤ c0) (h : spec_cdPairs.f k l0 = some r) :
  Calls Try.prog 38 #[.slice A0 l0.length c0] w fun e w' => ∃ v0_ : Value, e = .returned (v0_) ∧ Kd.S (Kd.slice 3 (Kd.int .i64)) 70 w' w.heap.size (fun _ => True) v0_ r ∧ Below w.heap.size w w' := by
 have hu60 := Try.underlying60
 have HR0 := Aside0.mk hr0
 have HC0 := Aside0.mk hc0
 clear hr0 hc0
 have HB := Aside0.mk (Below.refl w.heap.size w)
 have H : (spec_cdPairs.l0 k l0 ([] : List (List Int)) l0 (l0.length : Int) 0) = some r := h
 clear h
 have H' := Aside0.mk H
 clear H
 go_enter Try.func38, Try.ntmps38
 go_wp2
 go_loopg [3, 9] k (fun kq v3 v9 w' => ∃ (x3_1 : List (List Int)) (x9_1 : Int), v9 = .int .i64 x9_1 ∧ Aside0 (spec_cdPairs.l0 kq l0 x3_1 l0 (l0.length : Int) x9_1 = some r) ∧ Aside0 (kq ≤ k) ∧ Aside0 (Kd.S (Kd.slice 3 (Kd.int .i64)) 70 w' w.heap.size (fun _ => True) v3 x3_1) ∧ Aside0 (Below w.heap.size w w'))
 case atStart => exact ⟨(([] : List (List Int))), (0), (by first | rfl | (simp; done) | (simp [*]; done)), H', ⟨Nat.le_refl _⟩, ⟨by first | exact Kd.S_nil _ _ _ _ _ | exact Kd.N_nil _ _ _ _ _ | exact Kd.V_nil _ _ _ _ _ | exact Kd.Q_nil _ _ _ _ _ | exact Kd.R_nil _ _ _ _ _⟩, ⟨hb_⟩⟩
 case round =>
  clear H'
  obtain ⟨x3_1, x9_1, rfl, HA, HK1, HO_3, HB⟩ := hrel
  cases gk with
  | zero => exact absurd HA.out (by simp [spec_cdPairs.l0])
  | succ k1 =>
   have H := HA.out
   clear HA
   simp only [spec_cdPairs.l0] at H
   by_cases c2 : x9_1 < (l0.length : Int)
   ·rw [if_pos c2] at H
    have c2b0 : decide (x9_1 < (l0.length : Int)) = true := decide_eq_true c2
    clear c2
    by_cases c3 : 0 ≤ x9_1
    ·rw [if_pos c3] at H
     have c3b0 : decide (0 ≤ x9_1) = true := decide_eq_true c3
     clear c3
     by_cases c4 : x9_1 < (l0.length : Int)
     ·rw [if_pos c4] at H
      have c4b0 : decide (x9_1 < (l0.length : Int)) = true := decide_eq_true c4
      clear c4
      have H' := Aside0.mk H
      clear H
      have p235 : 0 ≤ (x9_1 : Int) := of_decide_eq_true (by assumption)
      have q235 : x9_1 < (l0.length : Int) := of_decide_eq_true (by assumption)
      obtain ⟨ad235, e235, hx235_0, hx235_1⟩ := at_T60 HR0.out x9_1 p235 q235
      cases e235
      replace hx235_0 := (HB.out.cell (World.block_lt_of_cell? w _ hx235_0)).trans hx235_0
      replace hx235_1 := (HB.out.cell (World.block_lt_of_cell? w _ hx235_1)).trans hx235_1
      replace p235 := eq_true p235
      replace q235 := eq_true q235
      go_wp2_with (first | ((with_reducible refine gate_dst (N := 5) rfl ?_); refine box_event ?hg (N := 5) ?hd (cs := #[.int .i64 0, .int .i64 0]) (t := 60) ?hr ?_; (case hd => rfl); (case hg => rfl); (case hr => first | (go_simp; done) | (go_simp; rfl)); intro gb236 hg w5 hbox hb; have n0_ := Aside0.mk (Kd.S_below (by (with_reducible repeat (first | apply Kd.S_alloc | apply Kd.S_drewN | apply Kd.S_drew)); exact HO_3.out) hb); have n1_ := Aside0.mk (below_step hb_ hb); have n2_ := Aside0.mk (hbox); have n3_ := Aside0.mk ((by rw [hg]; exact (below_size hb_) : w.heap.size ≤ gb236)); have n4_ := Aside0.mk ((by rw [hg]; exact (below_size hb_) : w.heap.size ≤ gb236)); clear HO_3; clear HB; have HO_3 := n0_; have HB := n1_; have BK236 := n2_; have GW236 := n3_; have GE236 := n4_; clear n0_ n1_ n2_ n3_ n4_; clear hb hbox hg; have hcz6_0 : w5.cell? ⟨gb236, 0, none⟩ = some (.int .i64 0) := bc_ BK236 0; have hcz6_1 : w5.cell? ⟨gb236, 1, none⟩ = some (.int .i64 0) := bc_ BK236 1; have hfz6_0 := blk_frozen BK236.out 0; have hfz6_1 := blk_frozen BK236.out 1))
      go_loopg [3, 6] k1 (fun kq v3 v6 w' => ∃ (x3_2 : List (List Int)) (x6_2 : Int), v6 = .int .i64 x6_2 ∧ Aside0 (spec_cdPairs.l1 kq l0 x3_2 x9_1 x6_2 l0 (l0.length : Int) x9_1 ((rd_T60 l0 x9_1).f0) ((rd_T60 l0 x9_1).f1) = some r) ∧ Aside0 (kq ≤ k1) ∧ Aside0 (Kd.S (Kd.slice 3 (Kd.int .i64)) 70 w' w.heap.size (fun _ => True) v3 x3_2) ∧ Aside0 (w'.heap[gb236]? = some (.cells #[.int .i64 ((rd_T60 l0 x9_1).f0), .int .i64 ((rd_T60 l0 x9_1).f1)] 60 (0, 0))) ∧ Aside0 (Below w.heap.size w w'))
      case atStart => exact ⟨(x3_1), (wrap64 (x9_1 + 1)), (by first | rfl | (simp; done) | (simp [*]; done)), H', ⟨Nat.le_refl _⟩, ⟨by (with_reducible repeat (first | apply Kd.S_alloc | apply Kd.S_drewN | apply Kd.S_drew)); exact Kd.S_mono (Kd.S_far (p := ⟨gb236, 1, none⟩) (Kd.S_far (p := ⟨gb236, 0, none⟩) (Kd.S_types HO_3.out BK236.out (by decide)) (fun _ hk => hk.2) (.int .i64 ((rd_T60 l0 x9_1).f0))) (fun _ hk => hk.2) (.int .i64 ((rd_T60 l0 x9_1).f1))) (fun _ hk => trivial)⟩, ⟨by (with_reducible repeat (first | refine kN ?_ _ | refine kD ?_ | refine kA ?_ _)); refine blk_put (cs := #[.int .i64 ((rd_T60 l0 x9_1).f0), .int .i64 0]) ?_ 1 _ rfl; (with_reducible repeat (first | refine kN ?_ _ | refine kD ?_ | refine kA ?_ _)); refine blk_put (cs := #[.int .i64 0, .int .i64 0]) ?_ 0 _ rfl; (with_reducible repeat (first | refine kN ?_ _ | refine kD ?_ | refine kA ?_ _)); exact BK236.out⟩, ⟨hs_ GE236.out⟩⟩
      case round =>
       clear H'
       try clear c2
       try clear c2b0
       try clear p2
       try clear q2
       try clear hx2
       try clear c3
       try clear c3b0
       try clear c4
       try clear c4b0
       try clear p6
       try clear hcz6_0
       try clear hcz6_1
       try clear hfz6_0
       try clear hfz6_1
       try clear hx235_0
       try clear hx235_1
       try clear p235
       try clear q235
       obtain ⟨x3_2, x6_2, rfl, HA, HK2, HO_3, BK236, HB⟩ := hrel
       cases gk with
       | zero => exact absurd HA.out (by simp [spec_cdPairs.l1])
       | succ k2 =>
        have H := HA.out
        clear HA
        simp only [spec_cdPairs.l1] at H
        by_cases c7 : x6_2 < (l0.length : Int)
        ·rw [if_pos c7] at H
         have c7b0 : decide (x6_2 < (l0.length : Int)) = true := decide_eq_true c7
         clear c7
         by_cases c8 : 0 ≤ x6_2
         ·rw [if_pos c8] at H
          have c8b0 : decide (0 ≤ x6_2) = true := decide_eq_true c8
          clear c8
          replace H := bI H
          obtain ⟨t238, A90, H⟩ := H
          replace H : (if t238 = true then (if x3_2.length < 5864062014805 then (spec_cdPairs.l1 k2 l0 (x3_2 ++ [(([x9_1, x6_2] : List Int))]) x9_1 (wrap64 (x6_2 + 1)) l0 (l0.length : Int) x9_1 ((rd_T60 l0 x9_1).f0) ((rd_T60 l0 x9_1).f1)) else (none)) else (spec_cdPairs.l1 k2 l0 x3_2 x9_1 (wrap64 (x6_2 + 1)) l0 (l0.length : Int) x9_1 ((rd_T60 l0 x9_1).f0) ((rd_T60 l0 x9_1).f1))) = some r := H
          have A9 := Aside0.mk A90
          clear A90
          by_cases c10 : t238 = true
          ·subst c10
           have H1 : (if x3_2.length < 5864062014805 then (spec_cdPairs.l1 k2 l0 (x3_2 ++ [(([x9_1, x6_2] : List Int))]) x9_1 (wrap64 (x6_2 + 1)) l0 (l0.length : Int) x9_1 ((rd_T60 l0 x9_1).f0) ((rd_T60 l0 x9_1).f1)) else (none)) = some r := by rw [if_pos rfl] at H; exact H
           clear H
           have H := H1
           clear H1
           obtain ⟨y239, hy239⟩ : ∃ y_ : List Int, y_ = (([x9_1, x6_2] : List Int)) := ⟨_, rfl⟩
           replace H : (if x3_2.length < 5864062014805 then (spec_cdPairs.l1 k2 l0 (x3_2 ++ [y239]) x9_1 (wrap64 (x6_2 + 1)) l0 (l0.length : Int) x9_1 ((rd_T60 l0 x9_1).f0) ((rd_T60 l0 x9_1).f1)) else (none)) = some r := by first | (rw [hy239]; with_reducible exact H) | (have H2_ := (Option.bind_some _ _).symm.trans H; rw [hy239]; with_reducible exact H2_) | (have H2_ := (Option.bind_some _ _).symm.trans H; with_reducible exact H2_) | with_reducible exact H | (rw [hy239]; exact H) | exact H
           have Ny239 := Aside0.mk hy239
           clear hy239
           by_cases c11 : x3_2.length < 5864062014805
           ·rw [if_pos c11] at H
            have LMc11 := Aside0.mk c11
            clear c11
            obtain ⟨y242, hy242⟩ : ∃ y_ : List (List Int), y_ = (x3_2 ++ [y239]) := ⟨_, rfl⟩
            replace H : (spec_cdPairs.l1 k2 l0 y242 x9_1 (wrap64 (x6_2 + 1)) l0 (l0.length : Int) x9_1 ((rd_T60 l0 x9_1).f0) ((rd_T60 l0 x9_1).f1)) = some r := by first | (rw [hy242]; with_reducible exact H) | (have H2_ := (Option.bind_some _ _).symm.trans H; rw [hy242]; with_reducible exact H2_) | (have H2_ := (Option.bind_some _ _).symm.trans H; with_reducible exact H2_) | with_reducible exact H | (rw [hy242]; exact H) | exact H
            have Ny242 := Aside0.mk hy242
            clear hy242
            have H' := Aside0.mk H
            clear H
            try go_wp2
            have n0_ := Aside0.mk (Kd.S_drew HO_3.out)
            have n1_ := Aside0.mk (blk_drew BK236.out)
            have n2_ := Aside0.mk (below_drew1 HB.out)
            clear HO_3
            clear BK236
            clear HB
            have HO_3 := n0_
            have BK236 := n1_
            have HB := n2_
            clear n0_ n1_ n2_
            have p237 : 0 ≤ (x6_2 : Int) := of_decide_eq_true (by assumption)
            have q237 : x6_2 < (l0.length : Int) := of_decide_eq_true (by assumption)
            obtain ⟨ad237, e237, hx237_0, hx237_1⟩ := at_T60 HR0.out x6_2 p237 q237
            have hw237_1 := hx237_1
            have hw237_0 := hx237_0
            obtain rfl : ad235 = ad237 := (by injection e237)
            replace hx237_0 := (HB.out.cell (World.block_lt_of_cell? w _ hx237_0)).trans hx237_0
            replace hx237_1 := (HB.out.cell (World.block_lt_of_cell? w _ hx237_1)).trans hx237_1
            replace p237 := eq_true p237
            replace q237 := eq_true q237
            refine start_ (n := 6) (S := fun w' => w'.cell? ⟨gb236, 0, none⟩ = some (.int .i64 ((rd_T60 l0 x9_1).f0)) ∧ w'.cell? ⟨gb236, 1, none⟩ = some (.int .i64 ((rd_T60 l0 x9_1).f1)) ∧ w'.cell? (ad235.add ((x6_2).toNat * 2)) = some (.int .i64 ((rd_T60 l0 x6_2).f0)) ∧ w'.cell? ⟨(ad235.add ((x6_2).toNat * 2)).block, (ad235.add ((x6_2).toNat * 2)).off + 1, none⟩ = some (.int .i64 ((rd_T60 l0 x6_2).f1))) (ds := []) #[false, false, false, false, false, false] (by kernel_rfl) rfl rfl ⟨bc_ BK236 0, bc_ BK236 1, ((HB.out.cell (World.block_lt_of_cell? w _ hw237_0)).trans hw237_0), ((HB.out.cell (World.block_lt_of_cell? w _ hw237_1)).trans hw237_1)⟩ (fun hHeld => ?_)
            generalize wr.drew = w12 at HO_3 BK236 HB hx237_0 hx237_1 hHeld ⊢
            refine pure_ (i := 1) (N := some 23) (v := ?_) (a' := ?_) #[false, true, false, false, false, false] rfl rfl (by kernel_rfl) (fun _ _ _ h => h) (Or.inl ⟨by rfl, ?_⟩) ?_ ?_
            rotate_left
            ·intro w'
             go_simp
             with_reducible rfl
            rotate_left
            ·simp only [Act.put, sT, sZ, sS, i64_w, i32_w]
             rfl
            refine pure_ (i := 2) (N := some 24) (v := ?_) (a' := ?_) #[false, true, true, false, false, false] rfl rfl (by kernel_rfl) (fun _ _ _ h => h) (Or.inl ⟨by rfl, ?_⟩) ?_ ?_
            rotate_left
            ·intro w'
             go_simp
             with_reducible rfl
            rotate_left
            ·simp only [Act.put, sT, sZ, sS, i64_w, i32_w]
             rfl
            refine pure_ (i := 3) (N := some 25) (v := ?_) (a' := ?_) #[false, true, true, true, false, false] rfl rfl (by kernel_rfl) (fun _ _ _ h => h) (Or.inl ⟨by rfl, ?_⟩) ?_ ?_
            rotate_left
            ·intro w'
             go_simp
             with_reducible rfl
            rotate_left
            ·simp only [Act.put, sT, sZ, sS, i64_w, i32_w]
             rfl
            refine take_ (i := 0) (N := some 22) (v := ?_) (a' := ?_) #[true, true, true, true, false, false] rfl rfl (by kernel_rfl) (fun _ _ _ h => h) (Or.inl ⟨by rfl, ?_⟩) hHeld ?_ ?_
            rotate_left
            ·rintro w' ⟨s0, s1, s2, s3⟩
             go_simp
             with_reducible rfl
            rotate_left
            ·simp only [Act.put, sT, sZ, sS, i64_w, i32_w]
             rfl
            refine take_ (i := 4) (N := some 26) (v := ?_) (a' := ?_) #[true, true, true, true, true, false] rfl rfl (by kernel_rfl) (fun _ _ _ h => h) (Or.inl ⟨by rfl, ?_⟩) hHeld ?_ ?_
            rotate_left
            ·rintro w' ⟨s0, s1, s2, s3⟩
             go_simp
             with_reducible rfl
            rotate_left
            ·simp only [Act.put, sT, sZ, sS, i64_w, i32_w]
             rfl
            refine one_ (i := 5) (N := some 27) #[true, true, true, true, true, true] rfl rfl (by kernel_rfl) (by decide) (fun K hK => ?_)
            refine goes_ Try.func64 (by kernel_rfl) rfl #[.agg #[.int .i64 ((rd_T60 l0 x9_1).f0), .int .i64 ((rd_T60 l0 x9_1).f1)], .agg #[.int .i64 ((rd_T60 l0 x6_2).f0), .int .i64 ((rd_T60 l0 x6_2).f1)]] (by rfl) rfl rfl ar_ ?_
            with_reducible refine (spec_srCross.calls ((rd_T60 l0 x9_1).f0) ((rd_T60 l0 x9_1).f1) ((rd_T60 l0 x6_2).f0) ((rd_T60 l0 x6_2).f1) true _ A9.out).mono ?_
            rintro e w13 ⟨rfl, hb⟩
            refine ⟨_, rfl, ?_⟩
            have n0_ := Aside0.mk (Kd.S_below (by (with_reducible repeat (first | apply Kd.S_alloc | apply Kd.S_drewN | apply Kd.S_drew)); exact HO_3.out) hb)
            have n1_ := Aside0.mk (blk_below (g := gb236) (o := .cells #[.int .i64 ((rd_T60 l0 x9_1).f0), .int .i64 ((rd_T60 l0 x9_1).f1)] 60 (0, 0)) (kx_ BK236.out) hb)
            have n2_ := Aside0.mk (below_step (hs_ GE236.out) hb)
            clear HO_3
            clear BK236
            clear HB
            have HO_3 := n0_
            have BK236 := n1_
            have HB := n2_
            clear n0_ n1_ n2_
            (try clear hb)
            (try clear hb2)
            (try clear hk)
            (try clear hi)
            refine hK.out _ _ ⟨bc_ BK236 0, bc_ BK236 1, ((HB.out.cell (World.block_lt_of_cell? w _ hw237_0)).trans hw237_0), ((HB.out.cell (World.block_lt_of_cell? w _ hw237_1)).trans hw237_1)⟩ (fun hHeld => ?_)
            clear hK K
            refine norm_ (a' := ?_) ?_ ?_
            rotate_left
            ·show Act.put _ (some 27) _ = _
             simp only [Act.put, sT, sZ, sS, i64_w, i32_w]
             rfl
            refine done_ (by kernel_rfl) ?_
            try go_wp2_with (first | ((with_reducible refine gate_dst (N := 31) rfl ?_); refine Kd.R_lit (Kd.int .i64) _ 3 ?hg (N := 31) ?hd (xs := ([x9_1, x6_2] : List Int)) (inner := [.int .i64 x9_1, .int .i64 x6_2]) (ok := fun _ => True) (okp := fun _ => True) ?hr ?hp (fun _ hk => hk) trivial (Below.refl _ _) (Nat.le_refl _) (by simp) ?_; (case hd => rfl); (case hg => rfl); (case hr => first | (go_simp; done) | (go_simp; rfl)); (case hp => exact (Reps.one (show Kd.M (Kd.int .i64) _ _ _ x9_1 [.int .i64 x9_1] from rfl) (Reps.one (show Kd.M (Kd.int .i64) _ _ _ x6_2 [.int .i64 x6_2] from rfl) (Reps.none _ _)))); intro v240 w14 ho15 hb hg_ hnew_; clear hg_ hnew_; (first | rw [← Ny239.out] at ho15 | (simp only [Int.reduceToNat] at ho15; rw [← Ny239.out] at ho15)); have n0_ := Aside0.mk (Kd.S_elder' (by (with_reducible repeat (first | apply Kd.S_alloc | apply Kd.S_drewN | apply Kd.S_drew)); exact HO_3.out) (Kd.R_base ho15) hb); have n1_ := Aside0.mk (Kd.R_lower ho15 (below_size (hs_ GE236.out))); have n2_ := Aside0.mk (blk_below (g := gb236) (o := .cells #[.int .i64 ((rd_T60 l0 x9_1).f0), .int .i64 ((rd_T60 l0 x9_1).f1)] 60 (0, 0)) (kx_ BK236.out) hb); have n3_ := Aside0.mk (below_step (hs_ GE236.out) hb); clear HO_3; clear BK236; clear HB; have HO_3 := n0_; have HO241 := n1_; have BK236 := n2_; have HB := n3_; clear n0_ n1_ n2_ n3_; clear hb ho15; obtain ⟨Ao17, co17, eo17⟩ := Kd.R_slice HO241.out; subst eo17) | ((with_reducible refine gate_builtin (b := .append) (xs := #[.tmp 28, .tmp 32]) rfl ?_); at_builtin; refine Kd.S_append (Kd.slice 3 (Kd.int .i64)) (w0 := w) w.heap.size rfl (.tmp 28) (.tmp 32) 56 70 (.slice none 0 0) 24 rfl Try.underlying56 info70 rfl (by decide) (by omega) u3 x3_2 y239 [.slice Ao17 y239.length co17] (fun _ => True) (fun k_ => some k_ = (.slice Ao17 y239.length co17 : Value).ownBlock) rfl rfl ?aP (fun k_ hk_ => ((Kd.R_mono (ok' := fun k_ => ((fun _ => True)) k_ ∧ some k_ ≠ (u3 : Value).ownBlock) (Kd.R_apart' (HO241.out) (Kd.S_typed HO_3.out) (by decide)) (fun k_ hk => ⟨trivial, hk.2⟩))).1 k_ hk_.symm) ?aF ?aO ?aB ?aS ?aL ?_; (case aP => exact Kd.M_row (Kd.R_mono (Kd.R_tight rfl (Kd.R_mono (ok' := fun k_ => ((fun _ => True)) k_ ∧ some k_ ≠ (u3 : Value).ownBlock) (Kd.R_apart' (HO241.out) (Kd.S_typed HO_3.out) (by decide)) (fun k_ hk => ⟨trivial, hk.2⟩))) (fun _ h_ => h_))); (case aB => exact (hs_ GE236.out)); (case aF => exact (fun _ _ => trivial)); (case aO => exact (by (with_reducible repeat (first | apply Kd.S_alloc | apply Kd.S_drewN | apply Kd.S_drew)); exact Kd.S_mono HO_3.out (fun k_ hk => ⟨trivial, fun e_ => hk.2 e_⟩))); (case aS => exact (below_size (hs_ GE236.out))); (case aL => have := LMc11.out; omega); intro v243 w16 ho hb hg hat; rw [← Ny242.out] at ho; have n0_ := Aside0.mk (blk_grown (g := gb236) (o := .cells #[.int .i64 ((rd_T60 l0 x9_1).f0), .int .i64 ((rd_T60 l0 x9_1).f1)] 60 (0, 0)) (kx_ BK236.out) hg (Kd.S_ne HO_3.out BK236.out (by decide))); have n1_ := Aside0.mk (hb); have n2_ := Aside0.mk (ho); clear BK236; clear HB; clear HO_3; clear HO241; have BK236 := n0_; have HB := n1_; have HO244 := n2_; clear n0_ n1_ n2_; clear ho hb hg hat))
            go_roundg k2
            case measure => have := HK1.out; have := HK2.out; omega
            case rel => exact ⟨(y242), (wrap64 (x6_2 + 1)), (by first | rfl | (simp; done) | (simp [*]; done)), H', ⟨by have := HK1.out; have := HK2.out; omega⟩, ⟨by (with_reducible repeat (first | apply Kd.S_alloc | apply Kd.S_drewN | apply Kd.S_drew)); exact HO244.out⟩, ⟨by (with_reducible repeat (first | refine kN ?_ _ | refine kD ?_ | refine kA ?_ _)); exact BK236.out⟩, ⟨hs_ GE236.out⟩⟩
           ·rw [if_neg c11] at H
            exact absurd H (by simp)
          ·replace c10 := Bool.eq_false_iff.mpr c10
           subst c10
           have H1 : (spec_cdPairs.l1 k2 l0 x3_2 x9_1 (wrap64 (x6_2 + 1)) l0 (l0.length : Int) x9_1 ((rd_T60 l0 x9_1).f0) ((rd_T60 l0 x9_1).f1)) = some r := by rw [if_neg (show ¬ (false = true) by decide)] at H; exact H
           clear H
           have H := H1
           clear H1
           have H' := Aside0.mk H
           clear H
           try go_wp2
           have n0_ := Aside0.mk (Kd.S_drew HO_3.out)
           have n1_ := Aside0.mk (blk_drew BK236.out)
           have n2_ := Aside0.mk (below_drew1 HB.out)
           clear HO_3
           clear BK236
           clear HB
           have HO_3 := n0_
           have BK236 := n1_
           have HB := n2_
           clear n0_ n1_ n2_
           have p237 : 0 ≤ (x6_2 : Int) := of_decide_eq_true (by assumption)
           have q237 : x6_2 < (l0.length : Int) := of_decide_eq_true (by assumption)
           obtain ⟨ad237, e237, hx237_0, hx237_1⟩ := at_T60 HR0.out x6_2 p237 q237
           have hw237_1 := hx237_1
           have hw237_0 := hx237_0
           obtain rfl : ad235 = ad237 := (by injection e237)
           replace hx237_0 := (HB.out.cell (World.block_lt_of_cell? w _ hx237_0)).trans hx237_0
           replace hx237_1 := (HB.out.cell (World.block_lt_of_cell? w _ hx237_1)).trans hx237_1
           replace p237 := eq_true p237
           replace q237 := eq_true q237
           refine start_ (n := 6) (S := fun w' => w'.cell? ⟨gb236, 0, none⟩ = some (.int .i64 ((rd_T60 l0 x9_1).f0)) ∧ w'.cell? ⟨gb236, 1, none⟩ = some (.int .i64 ((rd_T60 l0 x9_1).f1)) ∧ w'.cell? (ad235.add ((x6_2).toNat * 2)) = some (.int .i64 ((rd_T60 l0 x6_2).f0)) ∧ w'.cell? ⟨(ad235.add ((x6_2).toNat * 2)).block, (ad235.add ((x6_2).toNat * 2)).off + 1, none⟩ = some (.int .i64 ((rd_T60 l0 x6_2).f1))) (ds := []) #[false, false, false, false, false, false] (by kernel_rfl) rfl rfl ⟨bc_ BK236 0, bc_ BK236 1, ((HB.out.cell (World.block_lt_of_cell? w _ hw237_0)).trans hw237_0), ((HB.out.cell (World.block_lt_of_cell? w _ hw237_1)).trans hw237_1)⟩ (fun hHeld => ?_)
           generalize wr.drew = w18 at HO_3 BK236 HB hx237_0 hx237_1 hHeld ⊢
           refine pure_ (i := 1) (N := some 23) (v := ?_) (a' := ?_) #[false, true, false, false, false, false] rfl rfl (by kernel_rfl) (fun _ _ _ h => h) (Or.inl ⟨by rfl, ?_⟩) ?_ ?_
           rotate_left
           ·intro w'
            go_simp
            with_reducible rfl
           rotate_left
           ·simp only [Act.put, sT, sZ, sS, i64_w, i32_w]
            rfl
           refine pure_ (i := 2) (N := some 24) (v := ?_) (a' := ?_) #[false, true, true, false, false, false] rfl rfl (by kernel_rfl) (fun _ _ _ h => h) (Or.inl ⟨by rfl, ?_⟩) ?_ ?_
           rotate_left
           ·intro w'
            go_simp
            with_reducible rfl
           rotate_left
           ·simp only [Act.put, sT, sZ, sS, i64_w, i32_w]
            rfl
           refine pure_ (i := 3) (N := some 25) (v := ?_) (a' := ?_) #[false, true, true, true, false, false] rfl rfl (by kernel_rfl) (fun _ _ _ h => h) (Or.inl ⟨by rfl, ?_⟩) ?_ ?_
           rotate_left
           ·intro w'
            go_simp
            with_reducible rfl
           rotate_left
           ·simp only [Act.put, sT, sZ, sS, i64_w, i32_w]
            rfl
           refine take_ (i := 0) (N := some 22) (v := ?_) (a' := ?_) #[true, true, true, true, false, false] rfl rfl (by kernel_rfl) (fun _ _ _ h => h) (Or.inl ⟨by rfl, ?_⟩) hHeld ?_ ?_
           rotate_left
           ·rintro w' ⟨s0, s1, s2, s3⟩
            go_simp
            with_reducible rfl
           rotate_left
           ·simp only [Act.put, sT, sZ, sS, i64_w, i32_w]
            rfl
           refine take_ (i := 4) (N := some 26) (v := ?_) (a' := ?_) #[true, true, true, true, true, false] rfl rfl (by kernel_rfl) (fun _ _ _ h => h) (Or.inl ⟨by rfl, ?_⟩) hHeld ?_ ?_
           rotate_left
           ·rintro w' ⟨s0, s1, s2, s3⟩
            go_simp
            with_reducible rfl
           rotate_left
           ·simp only [Act.put, sT, sZ, sS, i64_w, i32_w]
            rfl
           refine one_ (i := 5) (N := some 27) #[true, true, true, true, true, true] rfl rfl (by kernel_rfl) (by decide) (fun K hK => ?_)
           refine goes_ Try.func64 (by kernel_rfl) rfl #[.agg #[.int .i64 ((rd_T60 l0 x9_1).f0), .int .i64 ((rd_T60 l0 x9_1).f1)], .agg #[.int .i64 ((rd_T60 l0 x6_2).f0), .int .i64 ((rd_T60 l0 x6_2).f1)]] (by rfl) rfl rfl ar_ ?_
           with_reducible refine (spec_srCross.calls ((rd_T60 l0 x9_1).f0) ((rd_T60 l0 x9_1).f1) ((rd_T60 l0 x6_2).f0) ((rd_T60 l0 x6_2).f1) false _ A9.out).mono ?_
           rintro e w19 ⟨rfl, hb⟩
           refine ⟨_, rfl, ?_⟩
           have n0_ := Aside0.mk (Kd.S_below (by (with_reducible repeat (first | apply Kd.S_alloc | apply Kd.S_drewN | apply Kd.S_drew)); exact HO_3.out) hb)
           have n1_ := Aside0.mk (blk_below (g := gb236) (o := .cells #[.int .i64 ((rd_T60 l0 x9_1).f0), .int .i64 ((rd_T60 l0 x9_1).f1)] 60 (0, 0)) (kx_ BK236.out) hb)
           have n2_ := Aside0.mk (below_step (hs_ GE236.out) hb)
           clear HO_3
           clear BK236
           clear HB
           have HO_3 := n0_
           have BK236 := n1_
           have HB := n2_
           clear n0_ n1_ n2_
           (try clear hb)
           (try clear hb2)
           (try clear hk)
           (try clear hi)
           refine hK.out _ _ ⟨bc_ BK236 0, bc_ BK236 1, ((HB.out.cell (World.block_lt_of_cell? w _ hw237_0)).trans hw237_0), ((HB.out.cell (World.block_lt_of_cell? w _ hw237_1)).trans hw237_1)⟩ (fun hHeld => ?_)
           clear hK K
           refine norm_ (a' := ?_) ?_ ?_
           rotate_left
           ·show Act.put _ (some 27) _ = _
            simp only [Act.put, sT, sZ, sS, i64_w, i32_w]
            rfl
           refine done_ (by kernel_rfl) ?_
           try go_wp2
           go_roundg k2
           case measure => have := HK1.out; have := HK2.out; omega
           case rel => exact ⟨(x3_2), (wrap64 (x6_2 + 1)), (by first | rfl | (simp; done) | (simp [*]; done)), H', ⟨by have := HK1.out; have := HK2.out; omega⟩, ⟨by (with_reducible repeat (first | apply Kd.S_alloc | apply Kd.S_drewN | apply Kd.S_drew)); exact HO_3.out⟩, ⟨by (with_reducible repeat (first | refine kN ?_ _ | refine kD ?_ | refine kA ?_ _)); exact BK236.out⟩, ⟨hs_ GE236.out⟩⟩
         ·rw [if_neg c8] at H
          exact absurd H (by simp)
        ·rw [if_neg c7] at H
         have c7b0 : decide (x6_2 < (l0.length : Int)) = false := decide_eq_false c7
         clear c7
         have H' := Aside0.mk H
         clear H
         go_wp2
         go_roundg k2
         case measure => have := HK1.out; have := HK2.out; omega
         case rel => exact ⟨(x3_2), (wrap64 (x9_1 + 1)), (by first | rfl | (simp; done) | (simp [*]; done)), H', ⟨by have := HK1.out; have := HK2.out; omega⟩, ⟨by (with_reducible repeat (first | apply Kd.S_alloc | apply Kd.S_drewN | apply Kd.S_drew)); exact HO_3.out⟩, ⟨hs_ GE236.out⟩⟩
     ·rw [if_neg c4] at H
      exact absurd H (by simp)
    ·rw [if_neg c3] at H
     exact absurd H (by simp)
   ·rw [if_neg c2] at H
    have c2b0 : decide (x9_1 < (l0.length : Int)) = false := decide_eq_false c2
    clear c2
    obtain rfl := oI H
    go_wp2
    go_ret
    exact ⟨_, by first | rfl | (simp [errW_none, errW_some] <;> rfl) | (simp [*, errW_none, errW_some] <;> rfl), by (with_reducible repeat (first | apply Kd.S_alloc | apply Kd.S_drewN | apply Kd.S_drew)); exact HO_3.out, hb_⟩
def spec_rePieces.l0 : Nat → List (S60) → Int → Int → List (S60) → Int → Int → Option (Int)
 | 0, _, _, _, _, _, _ => none
 | k + 1, x0, x1, x5, x8, x9, x10 => if x10 < x9 then (if 0 ≤ x10 then (if x10 < (x8.length : Int) then (if 0 ≤ x1 then (if x1 < (x0.length : Int) then ((spec_srCross.f ((rd_T60 x0 x1).f0) ((rd_T60 x0 x1).f1) ((rd_T60 x8 x10).f0) ((rd_T60 x8 x10).f1)).bind fun t252 => (if t252 = true then (spec_rePieces.l0 k x0 x1 (wrap64 (x5 + 1)) x8 x9 (wrap64 (x10 + 1))) else (spec_rePieces.l0 k x0 x1 x5 x8 x9 (wrap64 (x10 + 1))))) else (none)) else (none)) else (none)) else (none)) else (some x5)
def spec_rePieces.f (k : Nat) (l0 : List (S60)) (a1 : Int) : Option (Int) := spec_rePieces.l0 k l0 a1 1 l0 (l0.length : Int) 0
theorem spec_rePieces.mono_l : ∀ k, (∀ y0 y1 y2 y3 y4 y5, LeO (spec_rePieces.l0 k y0 y1 y2 y3 y4 y5) (spec_rePieces.l0 (k + 1) y0 y1 y2 y3 y4 y5))
 | 0 => fun _ _ _ _ _ _ r h => by simp [spec_rePieces.l0] at h
 | k + 1 => by
  have ih0 := spec_rePieces.mono_l k
  ·intro y0 y1 y2 y3 y4 y5
   unfold spec_rePieces.l0
   repeat' first
   | (with_reducible exact ih0 _ _ _ _ _ _)
   | (with_reducible exact LeO.refl _)
   | (with_reducible exact LeO.none _)
   | (with_reducible refine LeO.ite ?_ ?_)
   | (with_reducible refine LeO.bind ?_ (fun _ => ?_))
   | exact ih0 _ _ _ _ _ _
   | exact LeO.none _
   | refine LeO.ite ?_ ?_
   | refine LeO.bind ?_ (fun _ => ?_)
theorem spec_rePieces.mono : ∀ a0 a1 k, LeO (spec_rePieces.f k a0 a1) (spec_rePieces.f (k + 1) a0 a1) := by
 intro a0 a1 k
 have ih0 := spec_rePieces.mono_l k
 unfold spec_rePieces.f
 repeat' first
   | (with_reducible exact ih0 _ _ _ _ _ _)
   | (with_reducible exact LeO.refl _)
   | (with_reducible exact LeO.none _)
   | (with_reducible refine LeO.ite ?_ ?_)
   | (with_reducible refine LeO.bind ?_ (fun _ => ?_))
   | exact ih0 _ _ _ _ _ _
   | exact LeO.none _
   | refine LeO.ite ?_ ?_
   | refine LeO.bind ?_ (fun _ => ?_)
set_option maxHeartbeats 8000000 in
set_option maxRecDepth 100000 in
theorem spec_rePieces.calls (k : Nat) (A0 : Option Addr) (c0 : Nat) (l0 : List (S60)) (a1 : Int) (r : Int) (w : World) (hr0 : Kd.C k60 w A0 l0.length l0) (hc0 : l0.length ≤ c0) (h : spec_rePieces.f k l0 a1 = some r) :
  Calls Try.prog 39 #[.slice A0 l0.length c0, .int .i64 a1] w fun e w' => e = .returned (.int .i64 r) ∧ Below w.heap.size w w' := by
 have hu60 := Try.underlying60
 have HR0 := Aside0.mk hr0
 have HC0 := Aside0.mk hc0
 clear hr0 hc0
 have HB := Aside0.mk (Below.refl w.heap.size w)
 have H : (spec_rePieces.l0 k l0 a1 1 l0 (l0.length : Int) 0) = some r := h
 clear h
 have H' := Aside0.mk H
 clear H
 go_enter Try.func39, Try.ntmps39
 go_wp2
 go_loopg [5, 10] k (fun kq v5 v10 w' => ∃ (x5_1 : Int) (x10_1 : Int), v5 = .int .i64 x5_1 ∧ v10 = .int .i64 x10_1 ∧ Aside0 (spec_rePieces.l0 kq l0 a1 x5_1 l0 (l0.length : Int) x10_1 = some r) ∧ Aside0 (kq ≤ k) ∧ Aside0 (Below w.heap.size w w'))
 case atStart => exact ⟨(1), (0), (by first | rfl | (simp; done) | (simp [*]; done)), (by first | rfl | (simp; done) | (simp [*]; done)), H', ⟨Nat.le_refl _⟩, ⟨hb_⟩⟩
 case round =>
  clear H'
  try clear p2
  obtain ⟨x5_1, x10_1, rfl, rfl, HA, HK1, HB⟩ := hrel
  cases gk with
  | zero => exact absurd HA.out (by simp [spec_rePieces.l0])
  | succ k1 =>
   have H := HA.out
   clear HA
   simp only [spec_rePieces.l0] at H
   by_cases c3 : x10_1 < (l0.length : Int)
   ·rw [if_pos c3] at H
    have c3b0 : decide (x10_1 < (l0.length : Int)) = true := decide_eq_true c3
    clear c3
    by_cases c4 : 0 ≤ x10_1
    ·rw [if_pos c4] at H
     have c4b0 : decide (0 ≤ x10_1) = true := decide_eq_true c4
     clear c4
     by_cases c5 : x10_1 < (l0.length : Int)
     ·rw [if_pos c5] at H
      have c5b0 : decide (x10_1 < (l0.length : Int)) = true := decide_eq_true c5
      clear c5
      by_cases c6 : 0 ≤ a1
      ·rw [if_pos c6] at H
       have c6b0 : decide (0 ≤ a1) = true := decide_eq_true c6
       clear c6
       by_cases c7 : a1 < (l0.length : Int)
       ·rw [if_pos c7] at H
        have c7b0 : decide (a1 < (l0.length : Int)) = true := decide_eq_true c7
        clear c7
        replace H := bI H
        obtain ⟨t252, A80, H⟩ := H
        replace H : (if t252 = true then (spec_rePieces.l0 k1 l0 a1 (wrap64 (x5_1 + 1)) l0 (l0.length : Int) (wrap64 (x10_1 + 1))) else (spec_rePieces.l0 k1 l0 a1 x5_1 l0 (l0.length : Int) (wrap64 (x10_1 + 1)))) = some r := H
        have A8 := Aside0.mk A80
        clear A80
        by_cases c9 : t252 = true
        ·subst c9
         have H1 : (spec_rePieces.l0 k1 l0 a1 (wrap64 (x5_1 + 1)) l0 (l0.length : Int) (wrap64 (x10_1 + 1))) = some r := by rw [if_pos rfl] at H; exact H
         clear H
         have H := H1
         clear H1
         have H' := Aside0.mk H
         clear H
         have p249 : 0 ≤ (x10_1 : Int) := of_decide_eq_true (by assumption)
         have q249 : x10_1 < (l0.length : Int) := of_decide_eq_true (by assumption)
         obtain ⟨ad249, e249, hx249_0, hx249_1⟩ := at_T60 HR0.out x10_1 p249 q249
         cases e249
         replace hx249_0 := (HB.out.cell (World.block_lt_of_cell? w _ hx249_0)).trans hx249_0
         replace hx249_1 := (HB.out.cell (World.block_lt_of_cell? w _ hx249_1)).trans hx249_1
         replace p249 := eq_true p249
         replace q249 := eq_true q249
         try go_wp2_with (first | ((with_reducible refine gate_dst (N := 7) rfl ?_); refine box_event ?hg (N := 7) ?hd (cs := #[.int .i64 0, .int .i64 0]) (t := 60) ?hr ?_; (case hd => rfl); (case hg => rfl); (case hr => first | (go_simp; done) | (go_simp; rfl)); intro gb250 hg w10 hbox hb; have n0_ := Aside0.mk (below_step hb_ hb); have n1_ := Aside0.mk (hbox); have n2_ := Aside0.mk ((by rw [hg]; exact (below_size hb_) : w.heap.size ≤ gb250)); have n3_ := Aside0.mk ((by rw [hg]; exact (below_size hb_) : w.heap.size ≤ gb250)); clear HB; have HB := n0_; have BK250 := n1_; have GW250 := n2_; have GE250 := n3_; clear n0_ n1_ n2_ n3_; clear hb hbox hg; have hcz11_0 : w10.cell? ⟨gb250, 0, none⟩ = some (.int .i64 0) := bc_ BK250 0; have hcz11_1 : w10.cell? ⟨gb250, 1, none⟩ = some (.int .i64 0) := bc_ BK250 1; have hfz11_0 := blk_frozen BK250.out 0; have hfz11_1 := blk_frozen BK250.out 1))
         have n0_ : Aside0 (((w10.setCell ⟨gb250, 0, none⟩ (.int .i64 ((rd_T60 l0 x10_1).f0))).setCell ⟨gb250, 1, none⟩ (.int .i64 ((rd_T60 l0 x10_1).f1))).heap[gb250]? = some (.cells #[.int .i64 ((rd_T60 l0 x10_1).f0), .int .i64 ((rd_T60 l0 x10_1).f1)] 60 (0, 0))) := ⟨by (with_reducible repeat (first | refine kN ?_ _ | refine kD ?_ | refine kA ?_ _)); refine blk_put (cs := #[.int .i64 ((rd_T60 l0 x10_1).f0), .int .i64 0]) ?_ 1 _ rfl; (with_reducible repeat (first | refine kN ?_ _ | refine kD ?_ | refine kA ?_ _)); refine blk_put (cs := #[.int .i64 0, .int .i64 0]) ?_ 0 _ rfl; (with_reducible repeat (first | refine kN ?_ _ | refine kD ?_ | refine kA ?_ _)); exact BK250.out⟩
         have n1_ : Aside0 (Below w.heap.size w ((w10.setCell ⟨gb250, 0, none⟩ (.int .i64 ((rd_T60 l0 x10_1).f0))).setCell ⟨gb250, 1, none⟩ (.int .i64 ((rd_T60 l0 x10_1).f1)))) := ⟨hs_ GE250.out⟩
         (try clear BK250)
         (try clear HB)
         generalize ((w10.setCell ⟨gb250, 0, none⟩ (.int .i64 ((rd_T60 l0 x10_1).f0))).setCell ⟨gb250, 1, none⟩ (.int .i64 ((rd_T60 l0 x10_1).f1))) = w12 at n0_ n1_ ⊢
         have BK250 := n0_
         have HB := n1_
         clear n0_ n1_
         have n0_ := Aside0.mk (blk_drew BK250.out)
         have n1_ := Aside0.mk (below_drew1 HB.out)
         clear BK250
         clear HB
         have BK250 := n0_
         have HB := n1_
         clear n0_ n1_
         have p251 : 0 ≤ (a1 : Int) := of_decide_eq_true (by assumption)
         have q251 : a1 < (l0.length : Int) := of_decide_eq_true (by assumption)
         obtain ⟨ad251, e251, hx251_0, hx251_1⟩ := at_T60 HR0.out a1 p251 q251
         have hw251_1 := hx251_1
         have hw251_0 := hx251_0
         obtain rfl : ad249 = ad251 := (by injection e251)
         replace hx251_0 := (HB.out.cell (World.block_lt_of_cell? w _ hx251_0)).trans hx251_0
         replace hx251_1 := (HB.out.cell (World.block_lt_of_cell? w _ hx251_1)).trans hx251_1
         replace p251 := eq_true p251
         replace q251 := eq_true q251
         refine start_ (n := 6) (S := fun w' => w'.cell? ⟨gb250, 0, none⟩ = some (.int .i64 ((rd_T60 l0 x10_1).f0)) ∧ w'.cell? ⟨gb250, 1, none⟩ = some (.int .i64 ((rd_T60 l0 x10_1).f1)) ∧ w'.cell? (ad249.add ((a1).toNat * 2)) = some (.int .i64 ((rd_T60 l0 a1).f0)) ∧ w'.cell? ⟨(ad249.add ((a1).toNat * 2)).block, (ad249.add ((a1).toNat * 2)).off + 1, none⟩ = some (.int .i64 ((rd_T60 l0 a1).f1))) (ds := []) #[false, false, false, false, false, false] (by kernel_rfl) rfl rfl ⟨bc_ BK250 0, bc_ BK250 1, ((HB.out.cell (World.block_lt_of_cell? w _ hw251_0)).trans hw251_0), ((HB.out.cell (World.block_lt_of_cell? w _ hw251_1)).trans hw251_1)⟩ (fun hHeld => ?_)
         generalize w12.drew = w13 at BK250 HB hx251_0 hx251_1 hHeld ⊢
         refine pure_ (i := 0) (N := some 14) (v := ?_) (a' := ?_) #[true, false, false, false, false, false] rfl rfl (by kernel_rfl) (fun _ _ _ h => h) (Or.inl ⟨by rfl, ?_⟩) ?_ ?_
         rotate_left
         ·intro w'
          go_simp
          with_reducible rfl
         rotate_left
         ·simp only [Act.put, sT, sZ, sS, i64_w, i32_w]
          rfl
         refine pure_ (i := 1) (N := some 15) (v := ?_) (a' := ?_) #[true, true, false, false, false, false] rfl rfl (by kernel_rfl) (fun _ _ _ h => h) (Or.inl ⟨by rfl, ?_⟩) ?_ ?_
         rotate_left
         ·intro w'
          go_simp
          with_reducible rfl
         rotate_left
         ·simp only [Act.put, sT, sZ, sS, i64_w, i32_w]
          rfl
         refine pure_ (i := 2) (N := some 16) (v := ?_) (a' := ?_) #[true, true, true, false, false, false] rfl rfl (by kernel_rfl) (fun _ _ _ h => h) (Or.inl ⟨by rfl, ?_⟩) ?_ ?_
         rotate_left
         ·intro w'
          go_simp
          with_reducible rfl
         rotate_left
         ·simp only [Act.put, sT, sZ, sS, i64_w, i32_w]
          rfl
         refine take_ (i := 3) (N := some 17) (v := ?_) (a' := ?_) #[true, true, true, true, false, false] rfl rfl (by kernel_rfl) (fun _ _ _ h => h) (Or.inl ⟨by rfl, ?_⟩) hHeld ?_ ?_
         rotate_left
         ·rintro w' ⟨s0, s1, s2, s3⟩
          go_simp
          with_reducible rfl
         rotate_left
         ·simp only [Act.put, sT, sZ, sS, i64_w, i32_w]
          rfl
         refine take_ (i := 4) (N := some 18) (v := ?_) (a' := ?_) #[true, true, true, true, true, false] rfl rfl (by kernel_rfl) (fun _ _ _ h => h) (Or.inl ⟨by rfl, ?_⟩) hHeld ?_ ?_
         rotate_left
         ·rintro w' ⟨s0, s1, s2, s3⟩
          go_simp
          with_reducible rfl
         rotate_left
         ·simp only [Act.put, sT, sZ, sS, i64_w, i32_w]
          rfl
         refine one_ (i := 5) (N := some 19) #[true, true, true, true, true, true] rfl rfl (by kernel_rfl) (by decide) (fun K hK => ?_)
         refine goes_ Try.func64 (by kernel_rfl) rfl #[.agg #[.int .i64 ((rd_T60 l0 a1).f0), .int .i64 ((rd_T60 l0 a1).f1)], .agg #[.int .i64 ((rd_T60 l0 x10_1).f0), .int .i64 ((rd_T60 l0 x10_1).f1)]] (by rfl) rfl rfl ar_ ?_
         with_reducible refine (spec_srCross.calls ((rd_T60 l0 a1).f0) ((rd_T60 l0 a1).f1) ((rd_T60 l0 x10_1).f0) ((rd_T60 l0 x10_1).f1) true _ A8.out).mono ?_
         rintro e w14 ⟨rfl, hb⟩
         refine ⟨_, rfl, ?_⟩
         have n0_ := Aside0.mk (blk_below (g := gb250) (o := .cells #[.int .i64 ((rd_T60 l0 x10_1).f0), .int .i64 ((rd_T60 l0 x10_1).f1)] 60 (0, 0)) (kx_ BK250.out) hb)
         have n1_ := Aside0.mk (below_step (hs_ GE250.out) hb)
         clear BK250
         clear HB
         have BK250 := n0_
         have HB := n1_
         clear n0_ n1_
         (try clear hb)
         (try clear hb2)
         (try clear hk)
         (try clear hi)
         refine hK.out _ _ ⟨bc_ BK250 0, bc_ BK250 1, ((HB.out.cell (World.block_lt_of_cell? w _ hw251_0)).trans hw251_0), ((HB.out.cell (World.block_lt_of_cell? w _ hw251_1)).trans hw251_1)⟩ (fun hHeld => ?_)
         clear hK K
         refine norm_ (a' := ?_) ?_ ?_
         rotate_left
         ·show Act.put _ (some 19) _ = _
          simp only [Act.put, sT, sZ, sS, i64_w, i32_w]
          rfl
         refine done_ (by kernel_rfl) ?_
         try go_wp2
         go_roundg k1
         case measure => have := HK1.out; omega
         case rel => exact ⟨(wrap64 (x5_1 + 1)), (wrap64 (x10_1 + 1)), (by first | rfl | (simp; done) | (simp [*]; done)), (by first | rfl | (simp; done) | (simp [*]; done)), H', ⟨by have := HK1.out; omega⟩, ⟨hs_ GE250.out⟩⟩
        ·replace c9 := Bool.eq_false_iff.mpr c9
         subst c9
         have H1 : (spec_rePieces.l0 k1 l0 a1 x5_1 l0 (l0.length : Int) (wrap64 (x10_1 + 1))) = some r := by rw [if_neg (show ¬ (false = true) by decide)] at H; exact H
         clear H
         have H := H1
         clear H1
         have H' := Aside0.mk H
         clear H
         have p249 : 0 ≤ (x10_1 : Int) := of_decide_eq_true (by assumption)
         have q249 : x10_1 < (l0.length : Int) := of_decide_eq_true (by assumption)
         obtain ⟨ad249, e249, hx249_0, hx249_1⟩ := at_T60 HR0.out x10_1 p249 q249
         cases e249
         replace hx249_0 := (HB.out.cell (World.block_lt_of_cell? w _ hx249_0)).trans hx249_0
         replace hx249_1 := (HB.out.cell (World.block_lt_of_cell? w _ hx249_1)).trans hx249_1
         replace p249 := eq_true p249
         replace q249 := eq_true q249
         try go_wp2_with (first | ((with_reducible refine gate_dst (N := 7) rfl ?_); refine box_event ?hg (N := 7) ?hd (cs := #[.int .i64 0, .int .i64 0]) (t := 60) ?hr ?_; (case hd => rfl); (case hg => rfl); (case hr => first | (go_simp; done) | (go_simp; rfl)); intro gb250 hg w15 hbox hb; have n0_ := Aside0.mk (below_step hb_ hb); have n1_ := Aside0.mk (hbox); have n2_ := Aside0.mk ((by rw [hg]; exact (below_size hb_) : w.heap.size ≤ gb250)); have n3_ := Aside0.mk ((by rw [hg]; exact (below_size hb_) : w.heap.size ≤ gb250)); clear HB; have HB := n0_; have BK250 := n1_; have GW250 := n2_; have GE250 := n3_; clear n0_ n1_ n2_ n3_; clear hb hbox hg; have hcz16_0 : w15.cell? ⟨gb250, 0, none⟩ = some (.int .i64 0) := bc_ BK250 0; have hcz16_1 : w15.cell? ⟨gb250, 1, none⟩ = some (.int .i64 0) := bc_ BK250 1; have hfz16_0 := blk_frozen BK250.out 0; have hfz16_1 := blk_frozen BK250.out 1))
         have n0_ : Aside0 (((w15.setCell ⟨gb250, 0, none⟩ (.int .i64 ((rd_T60 l0 x10_1).f0))).setCell ⟨gb250, 1, none⟩ (.int .i64 ((rd_T60 l0 x10_1).f1))).heap[gb250]? = some (.cells #[.int .i64 ((rd_T60 l0 x10_1).f0), .int .i64 ((rd_T60 l0 x10_1).f1)] 60 (0, 0))) := ⟨by (with_reducible repeat (first | refine kN ?_ _ | refine kD ?_ | refine kA ?_ _)); refine blk_put (cs := #[.int .i64 ((rd_T60 l0 x10_1).f0), .int .i64 0]) ?_ 1 _ rfl; (with_reducible repeat (first | refine kN ?_ _ | refine kD ?_ | refine kA ?_ _)); refine blk_put (cs := #[.int .i64 0, .int .i64 0]) ?_ 0 _ rfl; (with_reducible repeat (first | refine kN ?_ _ | refine kD ?_ | refine kA ?_ _)); exact BK250.out⟩
         have n1_ : Aside0 (Below w.heap.size w ((w15.setCell ⟨gb250, 0, none⟩ (.int .i64 ((rd_T60 l0 x10_1).f0))).setCell ⟨gb250, 1, none⟩ (.int .i64 ((rd_T60 l0 x10_1).f1)))) := ⟨hs_ GE250.out⟩
         (try clear BK250)
         (try clear HB)
         generalize ((w15.setCell ⟨gb250, 0, none⟩ (.int .i64 ((rd_T60 l0 x10_1).f0))).setCell ⟨gb250, 1, none⟩ (.int .i64 ((rd_T60 l0 x10_1).f1))) = w17 at n0_ n1_ ⊢
         have BK250 := n0_
         have HB := n1_
         clear n0_ n1_
         have n0_ := Aside0.mk (blk_drew BK250.out)
         have n1_ := Aside0.mk (below_drew1 HB.out)
         clear BK250
         clear HB
         have BK250 := n0_
         have HB := n1_
         clear n0_ n1_
         have p251 : 0 ≤ (a1 : Int) := of_decide_eq_true (by assumption)
         have q251 : a1 < (l0.length : Int) := of_decide_eq_true (by assumption)
         obtain ⟨ad251, e251, hx251_0, hx251_1⟩ := at_T60 HR0.out a1 p251 q251
         have hw251_1 := hx251_1
         have hw251_0 := hx251_0
         obtain rfl : ad249 = ad251 := (by injection e251)
         replace hx251_0 := (HB.out.cell (World.block_lt_of_cell? w _ hx251_0)).trans hx251_0
         replace hx251_1 := (HB.out.cell (World.block_lt_of_cell? w _ hx251_1)).trans hx251_1
         replace p251 := eq_true p251
         replace q251 := eq_true q251
         refine start_ (n := 6) (S := fun w' => w'.cell? ⟨gb250, 0, none⟩ = some (.int .i64 ((rd_T60 l0 x10_1).f0)) ∧ w'.cell? ⟨gb250, 1, none⟩ = some (.int .i64 ((rd_T60 l0 x10_1).f1)) ∧ w'.cell? (ad249.add ((a1).toNat * 2)) = some (.int .i64 ((rd_T60 l0 a1).f0)) ∧ w'.cell? ⟨(ad249.add ((a1).toNat * 2)).block, (ad249.add ((a1).toNat * 2)).off + 1, none⟩ = some (.int .i64 ((rd_T60 l0 a1).f1))) (ds := []) #[false, false, false, false, false, false] (by kernel_rfl) rfl rfl ⟨bc_ BK250 0, bc_ BK250 1, ((HB.out.cell (World.block_lt_of_cell? w _ hw251_0)).trans hw251_0), ((HB.out.cell (World.block_lt_of_cell? w _ hw251_1)).trans hw251_1)⟩ (fun hHeld => ?_)
         generalize w17.drew = w18 at BK250 HB hx251_0 hx251_1 hHeld ⊢
         refine pure_ (i := 0) (N := some 14) (v := ?_) (a' := ?_) #[true, false, false, false, false, false] rfl rfl (by kernel_rfl) (fun _ _ _ h => h) (Or.inl ⟨by rfl, ?_⟩) ?_ ?_
         rotate_left
         ·intro w'
          go_simp
          with_reducible rfl
         rotate_left
         ·simp only [Act.put, sT, sZ, sS, i64_w, i32_w]
          rfl
         refine pure_ (i := 1) (N := some 15) (v := ?_) (a' := ?_) #[true, true, false, false, false, false] rfl rfl (by kernel_rfl) (fun _ _ _ h => h) (Or.inl ⟨by rfl, ?_⟩) ?_ ?_
         rotate_left
         ·intro w'
          go_simp
          with_reducible rfl
         rotate_left
         ·simp only [Act.put, sT, sZ, sS, i64_w, i32_w]
          rfl
         refine pure_ (i := 2) (N := some 16) (v := ?_) (a' := ?_) #[true, true, true, false, false, false] rfl rfl (by kernel_rfl) (fun _ _ _ h => h) (Or.inl ⟨by rfl, ?_⟩) ?_ ?_
         rotate_left
         ·intro w'
          go_simp
          with_reducible rfl
         rotate_left
         ·simp only [Act.put, sT, sZ, sS, i64_w, i32_w]
          rfl
         refine take_ (i := 3) (N := some 17) (v := ?_) (a' := ?_) #[true, true, true, true, false, false] rfl rfl (by kernel_rfl) (fun _ _ _ h => h) (Or.inl ⟨by rfl, ?_⟩) hHeld ?_ ?_
         rotate_left
         ·rintro w' ⟨s0, s1, s2, s3⟩
          go_simp
          with_reducible rfl
         rotate_left
         ·simp only [Act.put, sT, sZ, sS, i64_w, i32_w]
          rfl
         refine take_ (i := 4) (N := some 18) (v := ?_) (a' := ?_) #[true, true, true, true, true, false] rfl rfl (by kernel_rfl) (fun _ _ _ h => h) (Or.inl ⟨by rfl, ?_⟩) hHeld ?_ ?_
         rotate_left
         ·rintro w' ⟨s0, s1, s2, s3⟩
          go_simp
          with_reducible rfl
         rotate_left
         ·simp only [Act.put, sT, sZ, sS, i64_w, i32_w]
          rfl
         refine one_ (i := 5) (N := some 19) #[true, true, true, true, true, true] rfl rfl (by kernel_rfl) (by decide) (fun K hK => ?_)
         refine goes_ Try.func64 (by kernel_rfl) rfl #[.agg #[.int .i64 ((rd_T60 l0 a1).f0), .int .i64 ((rd_T60 l0 a1).f1)], .agg #[.int .i64 ((rd_T60 l0 x10_1).f0), .int .i64 ((rd_T60 l0 x10_1).f1)]] (by rfl) rfl rfl ar_ ?_
         with_reducible refine (spec_srCross.calls ((rd_T60 l0 a1).f0) ((rd_T60 l0 a1).f1) ((rd_T60 l0 x10_1).f0) ((rd_T60 l0 x10_1).f1) false _ A8.out).mono ?_
         rintro e w19 ⟨rfl, hb⟩
         refine ⟨_, rfl, ?_⟩
         have n0_ := Aside0.mk (blk_below (g := gb250) (o := .cells #[.int .i64 ((rd_T60 l0 x10_1).f0), .int .i64 ((rd_T60 l0 x10_1).f1)] 60 (0, 0)) (kx_ BK250.out) hb)
         have n1_ := Aside0.mk (below_step (hs_ GE250.out) hb)
         clear BK250
         clear HB
         have BK250 := n0_
         have HB := n1_
         clear n0_ n1_
         (try clear hb)
         (try clear hb2)
         (try clear hk)
         (try clear hi)
         refine hK.out _ _ ⟨bc_ BK250 0, bc_ BK250 1, ((HB.out.cell (World.block_lt_of_cell? w _ hw251_0)).trans hw251_0), ((HB.out.cell (World.block_lt_of_cell? w _ hw251_1)).trans hw251_1)⟩ (fun hHeld => ?_)
         clear hK K
         refine norm_ (a' := ?_) ?_ ?_
         rotate_left
         ·show Act.put _ (some 19) _ = _
          simp only [Act.put, sT, sZ, sS, i64_w, i32_w]
          rfl
         refine done_ (by kernel_rfl) ?_
         try go_wp2
         go_roundg k1
         case measure => have := HK1.out; omega
         case rel => exact ⟨(x5_1), (wrap64 (x10_1 + 1)), (by first | rfl | (simp; done) | (simp [*]; done)), (by first | rfl | (simp; done) | (simp [*]; done)), H', ⟨by have := HK1.out; omega⟩, ⟨hs_ GE250.out⟩⟩
       ·rw [if_neg c7] at H
        exact absurd H (by simp)
      ·rw [if_neg c6] at H
       exact absurd H (by simp)
     ·rw [if_neg c5] at H
      exact absurd H (by simp)
    ·rw [if_neg c4] at H
     exact absurd H (by simp)
   ·rw [if_neg c3] at H
    have c3b0 : decide (x10_1 < (l0.length : Int)) = false := decide_eq_false c3
    clear c3
    obtain rfl := oI H
    go_wp2
    go_ret
    exact ⟨by first | rfl | (simp [errW_none, errW_some] <;> rfl) | (simp [*, errW_none, errW_some] <;> rfl), hb_⟩
end Go.Proofs.Ytdjbdpgdhpobfaa.Pr
/- How many chords cross: the program's counts and the reference's pairs are one number. -/
namespace Go.Proofs.Ytdjbdpgdhpobfaa.M
open Go.RowKit Go.Proofs.YtdjbdpgdhpobfaaW.PrintWords Go.Proofs.Ytdjbdpgdhpobfaa.Pr
/-- The rows of pairs that the reference lists. -/
def rowOf (i : Int) (c : Ch) : Int → List Ch → List (List Int)
  | _, [] => []
  | j, d :: r => if crB c d = true then [i, j] :: rowOf i c (j + 1) r else rowOf i c (j + 1) r
def pairsOf : Int → List Ch → List (List Int)
  | _, [] => []
  | i, c :: r => rowOf i c (i + 1) r ++ pairsOf (i + 1) r
theorem rowOf_length (i : Int) (c : Ch) : ∀ (l : List Ch) (j : Int), (rowOf i c j l).length = cnt c l
  | [], j => by simp [rowOf, cnt]
  | d :: r, j => by
    have ih := rowOf_length i c r (j + 1)
    unfold cnt at *
    rw [rowOf, List.countP_cons]
    split
    · rename_i h
      simp [ih, h]
    · rename_i h
      simp [ih, h]
theorem pairsOf_length : ∀ (l : List Ch) (i : Int), (pairsOf i l).length = pairsN l
  | [], i => by simp [pairsOf, pairsN]
  | c :: r, i => by
    rw [pairsOf, pairsN, List.length_append, rowOf_length, pairsOf_length r]
theorem cdPairs_ev (l : List Ch) (hl : l.length ≤ 40) (hv : ∀ c ∈ l, c.f0 < c.f1) : Ev (fun k => spec_cdPairs.f k l) (pairsOf 0 l) := by
  unfold spec_cdPairs.f
  have inner : ∀ (i : Nat) (hi : i < l.length) (r : List (List Int)) (acc : List (List Int)), acc.length ≤ i * 40 → Ev (fun k => spec_cdPairs.l0 k l (acc ++ rowOf i l[i] (i + 1) (l.drop (i + 1))) l (l.length : Int) ((i : Int) + 1)) r →
      Ev (fun k => spec_cdPairs.l1 k l acc (i : Int) ((i : Int) + 1) l (l.length : Int) (i : Int) l[i].f0 l[i].f1) r := by
    intro i hi r acc hacc hr
    have e := Ev.cps (fun k j (a : List (List Int)) => spec_cdPairs.l1 k l a (i : Int) j l (l.length : Int) (i : Int) l[i].f0 l[i].f1)
      (fun k a => spec_cdPairs.l0 k l a l (l.length : Int) ((i : Int) + 1)) l
      (fun rest a => a ++ rowOf i l[i] ((l.length : Int) - rest.length) rest) (fun j a => i + 1 ≤ j ∧ a.length ≤ i * 40 + j)
      (fun a r _ hr => by
        refine Ev.step (fun k => by rw [spec_cdPairs.l1]) ?_
        refine Ev.neg (by omega) ?_
        rw [w64 (x := (i : Int) + 1) (by omega) (by omega)]
        simpa [rowOf] using hr)
      (fun j hj a hp => by
        obtain ⟨hp1, hp2⟩ := hp
        have hrd := rd_ch l j hj
        have hlen : ((l.drop (j + 1)).length : Int) = l.length - (j + 1) := by rw [List.length_drop]; omega
        have hx : ∀ q : Nat, q = (l.drop (j + 1)).length + 1 → (l.length : Int) - (q : Int) = (j : Int) := by intro q hq; omega
        have hcv := hv l[i] (List.getElem_mem hi)
        have hdv := hv l[j] (List.getElem_mem hj)
        by_cases hc : crB l[i] l[j] = true
        · refine ⟨a ++ [[(i : Int), (j : Int)]], ⟨by omega, by simp; omega⟩, ?_, fun r hr2 => ?_⟩
          · rw [List.length_cons, rowOf, if_pos hc, hx _ rfl, show (l.length : Int) - ((l.drop (j + 1)).length : Int) = (j : Int) + 1 by omega]
            simp
          · refine Ev.step (fun k => by rw [spec_cdPairs.l1]) ?_
            refine Ev.pos (by omega) (Ev.pos (by omega) ?_)
            rw [hrd]
            refine Ev.bindc (srCross_eq _ _ hcv hdv) (Ev.pos hc (Ev.pos ?_ ?_))
            · have : i * 40 ≤ 1600 := by omega
              omega
            · rw [w64 (x := (j : Int) + 1) (by omega) (by omega)]
              exact hr2
        · refine ⟨a, ⟨by omega, by omega⟩, ?_, fun r hr2 => ?_⟩
          · rw [List.length_cons, rowOf, if_neg hc, hx _ rfl, show (l.length : Int) - ((l.drop (j + 1)).length : Int) = (j : Int) + 1 by omega]
          · refine Ev.step (fun k => by rw [spec_cdPairs.l1]) ?_
            refine Ev.pos (by omega) (Ev.pos (by omega) ?_)
            rw [hrd]
            refine Ev.bindc (srCross_eq _ _ hcv hdv) (Ev.neg hc ?_)
            rw [w64 (x := (j : Int) + 1) (by omega) (by omega)]
            exact hr2)
      (l.length - (i + 1)) (i + 1) acc r (by omega) ⟨by omega, by omega⟩ (by
        have : (l.length : Int) - ((l.drop (i + 1)).length : Int) = (i : Int) + 1 := by rw [List.length_drop]; omega
        rw [this]
        exact hr)
    rw [show (((i + 1 : Nat)) : Int) = (i : Int) + 1 from by omega] at e
    exact e
  have e := Ev.scan0 (fun k i (acc : List (List Int)) => spec_cdPairs.l0 k l acc l (l.length : Int) i) l (fun rest acc => acc ++ pairsOf ((l.length : Int) - rest.length) rest) (fun i acc => acc.length ≤ i * 40)
    (fun acc hp => by
      refine Ev.step (fun k => by rw [spec_cdPairs.l0]) ?_
      exact Ev.neg (by omega) (Ev.val (by simp [pairsOf])))
    (fun i h acc hp => by
      have hr := rd_ch l i h
      have hcl := cnt_le l[i] (l.drop (i + 1))
      have hdl : (l.drop (i + 1)).length = l.length - (i + 1) := List.length_drop
      have hx : ∀ q : Nat, q = (l.drop (i + 1)).length + 1 → (l.length : Int) - (q : Int) = (i : Int) := by intro q hq; omega
      refine .inl ⟨acc ++ rowOf i l[i] (i + 1) (l.drop (i + 1)), ?_, ?_, fun r hr2 => ?_⟩
      · rw [List.length_append, rowOf_length]; omega
      · rw [List.length_cons, pairsOf, hx _ rfl, show (l.length : Int) - ((l.drop (i + 1)).length : Int) = (i : Int) + 1 by omega, List.append_assoc]
      · refine Ev.step (fun k => by rw [spec_cdPairs.l0]) ?_
        refine Ev.pos (by omega) (Ev.pos (by omega) (Ev.pos (by omega) ?_))
        rw [hr, w64 (x := (i : Int) + 1) (by omega) (by omega)]
        exact inner i h r acc hp hr2)
    [] (by simp)
  simpa using e
theorem rePieces_ev (l : List Ch) (i : Nat) (hi : i < l.length) (hl : l.length ≤ 40) (hv : ∀ c ∈ l, c.f0 < c.f1) : Ev (fun k => spec_rePieces.f k l (i : Int)) (1 + (cnt l[i] l : Int)) := by
  unfold spec_rePieces.f
  have hri := rd_ch l i hi
  have e := Ev.scan0 (fun k j (acc : Int) => spec_rePieces.l0 k l (i : Int) acc l (l.length : Int) j) l (fun rest acc => acc + (cnt l[i] rest : Int)) (fun j acc => 0 ≤ acc ∧ acc ≤ j + 1)
    (fun acc hp => by
      refine Ev.step (fun k => by rw [spec_rePieces.l0]) ?_
      exact Ev.neg (by omega) (Ev.val (by simp [cnt])))
    (fun j h acc hp => by
      have hr := rd_ch l j h
      have hcv := hv l[i] (List.getElem_mem hi)
      have hdv := hv l[j] (List.getElem_mem h)
      by_cases hc : crB l[i] l[j] = true
      · refine .inl ⟨acc + 1, ⟨by omega, by omega⟩, by rw [cnt_pos _ hc]; omega, fun r hr2 => ?_⟩
        refine Ev.step (fun k => by rw [spec_rePieces.l0]) ?_
        refine Ev.pos (by omega) (Ev.pos (by omega) (Ev.pos (by omega) (Ev.pos (by omega) (Ev.pos (by omega) ?_))))
        rw [hr, hri]
        refine Ev.bindc (srCross_eq _ _ hcv hdv) (Ev.pos hc ?_)
        rw [w64 (x := (j : Int) + 1) (by omega) (by omega), w64 (x := acc + 1) (by omega) (by omega)]
        exact hr2
      · refine .inl ⟨acc, ⟨by omega, by omega⟩, by rw [cnt_neg _ hc], fun r hr2 => ?_⟩
        refine Ev.step (fun k => by rw [spec_rePieces.l0]) ?_
        refine Ev.pos (by omega) (Ev.pos (by omega) (Ev.pos (by omega) (Ev.pos (by omega) (Ev.pos (by omega) ?_))))
        rw [hr, hri]
        refine Ev.bindc (srCross_eq _ _ hcv hdv) (Ev.neg hc ?_)
        rw [w64 (x := (j : Int) + 1) (by omega) (by omega)]
        exact hr2)
    1 ⟨by omega, by omega⟩
  exact e
end Go.Proofs.Ytdjbdpgdhpobfaa.M
namespace Go.Proofs.Ytdjbdpgdhpobfaa.Pr
open Go.RowKit Go.Proofs.YtdjbdpgdhpobfaaW.PrintWords Go.Proofs.YtdjbdpgdhpobfaaW.PrintLast Go.Proofs.YtdjbdpgdhpobfaaW.PrintMore
attribute [local go_sem] max2_int min2_int max_two min_two max_three min_three max_four min_four
def impl_parted.l0 : Nat → Int → Int → Int → List (S60) → Int → Int → Option (Int)
 | 0, _, _, _, _, _, _ => none
 | k + 1, x1, x2, x7, x10, x11, x12 => if x12 < x11 then (if 0 ≤ x12 then (if x12 < (x10.length : Int) then ((impl_within.f x1 ((rd_T60 x10 x12).f0) (wrap64 (((rd_T60 x10 x12).f1) - 1))).bind fun t124 => ((impl_within.f x2 ((rd_T60 x10 x12).f0) (wrap64 (((rd_T60 x10 x12).f1) - 1))).bind fun t125 => (if (t124 != t125) = true then (impl_parted.l0 k x1 x2 (wrap64 (x7 + 1)) x10 x11 (wrap64 (x12 + 1))) else (impl_parted.l0 k x1 x2 x7 x10 x11 (wrap64 (x12 + 1)))))) else (none)) else (none)) else (some x7)
def impl_parted.f (k : Nat) (l0 : List (S60)) (a1 : Int) (a2 : Int) : Option (Int) := impl_parted.l0 k a1 a2 0 l0 (l0.length : Int) 0
theorem impl_parted.mono_l : ∀ k, (∀ y0 y1 y2 y3 y4 y5, LeO (impl_parted.l0 k y0 y1 y2 y3 y4 y5) (impl_parted.l0 (k + 1) y0 y1 y2 y3 y4 y5))
 | 0 => fun _ _ _ _ _ _ r h => by simp [impl_parted.l0] at h
 | k + 1 => by
  have ih0 := impl_parted.mono_l k
  ·intro y0 y1 y2 y3 y4 y5
   unfold impl_parted.l0
   repeat' first
   | (with_reducible exact ih0 _ _ _ _ _ _)
   | (with_reducible exact LeO.refl _)
   | (with_reducible exact LeO.none _)
   | (with_reducible refine LeO.ite ?_ ?_)
   | (with_reducible refine LeO.bind ?_ (fun _ => ?_))
   | exact ih0 _ _ _ _ _ _
   | exact LeO.none _
   | refine LeO.ite ?_ ?_
   | refine LeO.bind ?_ (fun _ => ?_)
theorem impl_parted.mono : ∀ a0 a1 a2 k, LeO (impl_parted.f k a0 a1 a2) (impl_parted.f (k + 1) a0 a1 a2) := by
 intro a0 a1 a2 k
 have ih0 := impl_parted.mono_l k
 unfold impl_parted.f
 repeat' first
   | (with_reducible exact ih0 _ _ _ _ _ _)
   | (with_reducible exact LeO.refl _)
   | (with_reducible exact LeO.none _)
   | (with_reducible refine LeO.ite ?_ ?_)
   | (with_reducible refine LeO.bind ?_ (fun _ => ?_))
   | exact ih0 _ _ _ _ _ _
   | exact LeO.none _
   | refine LeO.ite ?_ ?_
   | refine LeO.bind ?_ (fun _ => ?_)
set_option maxHeartbeats 8000000 in
set_option maxRecDepth 100000 in
theorem impl_parted.calls (k : Nat) (A0 : Option Addr) (c0 : Nat) (l0 : List (S60)) (a1 : Int) (a2 : Int) (r : Int) (w : World) (hr0 : Kd.C k60 w A0 l0.length l0) (hc0 : l0.length ≤ c0) (h : impl_parted.f k l0 a1 a2 = some r) :
  Calls Try.prog 32 #[.slice A0 l0.length c0, .int .i64 a1, .int .i64 a2] w fun e w' => e = .returned (.int .i64 r) ∧ Below w.heap.size w w' := by
 have hu60 := Try.underlying60
 have HR0 := Aside0.mk hr0
 have HC0 := Aside0.mk hc0
 clear hr0 hc0
 have HB := Aside0.mk (Below.refl w.heap.size w)
 have H : (impl_parted.l0 k a1 a2 0 l0 (l0.length : Int) 0) = some r := h
 clear h
 have H' := Aside0.mk H
 clear H
 go_enter Try.func32, Try.ntmps32
 go_wp2
 repeat (go_quiet (fail); try go_wp2)
 go_loopg [7, 12] k (fun kq v7 v12 w' => ∃ (x7_1 : Int) (x12_1 : Int), v7 = .int .i64 x7_1 ∧ v12 = .int .i64 x12_1 ∧ Aside0 (impl_parted.l0 kq a1 a2 x7_1 l0 (l0.length : Int) x12_1 = some r) ∧ Aside0 (kq ≤ k) ∧ Aside0 (Below w.heap.size w w'))
 case atStart => exact ⟨(0), (0), (by first | rfl | (simp; done) | (simp [*]; done)), (by first | rfl | (simp; done) | (simp [*]; done)), H', ⟨Nat.le_refl _⟩, ⟨hb_⟩⟩
 case round =>
  clear H'
  try clear p2
  try clear c3
  obtain ⟨x7_1, x12_1, rfl, rfl, HA, HK1, HB⟩ := hrel
  cases gk with
  | zero => exact absurd HA.out (by simp [impl_parted.l0])
  | succ k1 =>
   have H := HA.out
   clear HA
   simp only [impl_parted.l0] at H
   by_cases c4 : x12_1 < (l0.length : Int)
   ·rw [if_pos c4] at H
    have c4b0 : decide (x12_1 < (l0.length : Int)) = true := decide_eq_true c4
    clear c4
    by_cases c5 : 0 ≤ x12_1
    ·rw [if_pos c5] at H
     have c5b0 : decide (0 ≤ x12_1) = true := decide_eq_true c5
     clear c5
     by_cases c6 : x12_1 < (l0.length : Int)
     ·rw [if_pos c6] at H
      have c6b0 : decide (x12_1 < (l0.length : Int)) = true := decide_eq_true c6
      clear c6
      replace H := bI H
      obtain ⟨t124, A70, H⟩ := H
      replace H : ((impl_within.f a2 ((rd_T60 l0 x12_1).f0) (wrap64 (((rd_T60 l0 x12_1).f1) - 1))).bind fun t125 => (if (t124 != t125) = true then (impl_parted.l0 k1 a1 a2 (wrap64 (x7_1 + 1)) l0 (l0.length : Int) (wrap64 (x12_1 + 1))) else (impl_parted.l0 k1 a1 a2 x7_1 l0 (l0.length : Int) (wrap64 (x12_1 + 1))))) = some r := H
      have A7 := Aside0.mk A70
      clear A70
      replace H := bI H
      obtain ⟨t125, A80, H⟩ := H
      replace H : (if (t124 != t125) = true then (impl_parted.l0 k1 a1 a2 (wrap64 (x7_1 + 1)) l0 (l0.length : Int) (wrap64 (x12_1 + 1))) else (impl_parted.l0 k1 a1 a2 x7_1 l0 (l0.length : Int) (wrap64 (x12_1 + 1)))) = some r := H
      have A8 := Aside0.mk A80
      clear A80
      by_cases c9 : (t124 != t125) = true
      ·rw [if_pos c9] at H
       have c9b0 : (t124 != t125) = true := c9
       (try (have c9b1 : decide (t124 = t125) = false := by simpa using c9))
       (try (have c9b2 : (t124 == t125) = false := by simpa using c9))
       (try (have c9b3 : ¬ (t124 = t125) := by simpa using c9))
       clear c9
       have H' := Aside0.mk H
       clear H
       have p122 : 0 ≤ (x12_1 : Int) := of_decide_eq_true (by assumption)
       have q122 : x12_1 < (l0.length : Int) := of_decide_eq_true (by assumption)
       obtain ⟨ad122, e122, hx122_0, hx122_1⟩ := at_T60 HR0.out x12_1 p122 q122
       cases e122
       replace hx122_0 := (HB.out.cell (World.block_lt_of_cell? w _ hx122_0)).trans hx122_0
       replace hx122_1 := (HB.out.cell (World.block_lt_of_cell? w _ hx122_1)).trans hx122_1
       replace p122 := eq_true p122
       replace q122 := eq_true q122
       go_wp2_with (first | ((with_reducible refine gate_dst (N := 9) rfl ?_); refine box_event ?hg (N := 9) ?hd (cs := #[.int .i64 0, .int .i64 0]) (t := 60) ?hr ?_; (case hd => rfl); (case hg => rfl); (case hr => first | (go_simp; done) | (go_simp; rfl)); intro gb123 hg w10 hbox hb; have n0_ := Aside0.mk (below_step hb_ hb); have n1_ := Aside0.mk (hbox); have n2_ := Aside0.mk ((by rw [hg]; exact (below_size hb_) : w.heap.size ≤ gb123)); have n3_ := Aside0.mk ((by rw [hg]; exact (below_size hb_) : w.heap.size ≤ gb123)); clear HB; have HB := n0_; have BK123 := n1_; have GW123 := n2_; have GE123 := n3_; clear n0_ n1_ n2_ n3_; clear hb hbox hg; have hcz11_0 : w10.cell? ⟨gb123, 0, none⟩ = some (.int .i64 0) := bc_ BK123 0; have hcz11_1 : w10.cell? ⟨gb123, 1, none⟩ = some (.int .i64 0) := bc_ BK123 1; have hfz11_0 := blk_frozen BK123.out 0; have hfz11_1 := blk_frozen BK123.out 1) | (go_at_call 40; (with_reducible refine (impl_within.calls a1 ((rd_T60 l0 x12_1).f0) (wrap64 (((rd_T60 l0 x12_1).f1) - 1)) t124 _ A7.out).mono ?_); rintro e w' ⟨rfl, ⟨nd, rfl⟩⟩; (try first | exact ⟨rfl, _, World.drewN_drewN _ _ _⟩ | exact ⟨rfl, _, Eq.trans (World.drewN_drewN _ _ _) (congrArg (World.drewN _) (Nat.add_assoc _ _ _))⟩)) | (go_at_call 40; (with_reducible refine (impl_within.calls a2 ((rd_T60 l0 x12_1).f0) (wrap64 (((rd_T60 l0 x12_1).f1) - 1)) t125 _ A8.out).mono ?_); rintro e w' ⟨rfl, ⟨nd, rfl⟩⟩; (try first | exact ⟨rfl, _, World.drewN_drewN _ _ _⟩ | exact ⟨rfl, _, Eq.trans (World.drewN_drewN _ _ _) (congrArg (World.drewN _) (Nat.add_assoc _ _ _))⟩)))
       repeat (go_quiet (first | ((with_reducible refine gate_dst (N := 9) rfl ?_); refine box_event ?hg (N := 9) ?hd (cs := #[.int .i64 0, .int .i64 0]) (t := 60) ?hr ?_; (case hd => rfl); (case hg => rfl); (case hr => first | (go_simp; done) | (go_simp; rfl)); intro gb123 hg w10 hbox hb; have n0_ := Aside0.mk (below_step hb_ hb); have n1_ := Aside0.mk (hbox); have n2_ := Aside0.mk ((by rw [hg]; exact (below_size hb_) : w.heap.size ≤ gb123)); have n3_ := Aside0.mk ((by rw [hg]; exact (below_size hb_) : w.heap.size ≤ gb123)); clear HB; have HB := n0_; have BK123 := n1_; have GW123 := n2_; have GE123 := n3_; clear n0_ n1_ n2_ n3_; clear hb hbox hg; have hcz11_0 : w10.cell? ⟨gb123, 0, none⟩ = some (.int .i64 0) := bc_ BK123 0; have hcz11_1 : w10.cell? ⟨gb123, 1, none⟩ = some (.int .i64 0) := bc_ BK123 1; have hfz11_0 := blk_frozen BK123.out 0; have hfz11_1 := blk_frozen BK123.out 1) | (go_at_call 40; (with_reducible refine (impl_within.calls a1 ((rd_T60 l0 x12_1).f0) (wrap64 (((rd_T60 l0 x12_1).f1) - 1)) t124 _ A7.out).mono ?_); rintro e w' ⟨rfl, ⟨nd, rfl⟩⟩; (try first | exact ⟨rfl, _, World.drewN_drewN _ _ _⟩ | exact ⟨rfl, _, Eq.trans (World.drewN_drewN _ _ _) (congrArg (World.drewN _) (Nat.add_assoc _ _ _))⟩)) | (go_at_call 40; (with_reducible refine (impl_within.calls a2 ((rd_T60 l0 x12_1).f0) (wrap64 (((rd_T60 l0 x12_1).f1) - 1)) t125 _ A8.out).mono ?_); rintro e w' ⟨rfl, ⟨nd, rfl⟩⟩; (try first | exact ⟨rfl, _, World.drewN_drewN _ _ _⟩ | exact ⟨rfl, _, Eq.trans (World.drewN_drewN _ _ _) (congrArg (World.drewN _) (Nat.add_assoc _ _ _))⟩))); try go_wp2_with (first | ((with_reducible refine gate_dst (N := 9) rfl ?_); refine box_event ?hg (N := 9) ?hd (cs := #[.int .i64 0, .int .i64 0]) (t := 60) ?hr ?_; (case hd => rfl); (case hg => rfl); (case hr => first | (go_simp; done) | (go_simp; rfl)); intro gb123 hg w10 hbox hb; have n0_ := Aside0.mk (below_step hb_ hb); have n1_ := Aside0.mk (hbox); have n2_ := Aside0.mk ((by rw [hg]; exact (below_size hb_) : w.heap.size ≤ gb123)); have n3_ := Aside0.mk ((by rw [hg]; exact (below_size hb_) : w.heap.size ≤ gb123)); clear HB; have HB := n0_; have BK123 := n1_; have GW123 := n2_; have GE123 := n3_; clear n0_ n1_ n2_ n3_; clear hb hbox hg; have hcz11_0 : w10.cell? ⟨gb123, 0, none⟩ = some (.int .i64 0) := bc_ BK123 0; have hcz11_1 : w10.cell? ⟨gb123, 1, none⟩ = some (.int .i64 0) := bc_ BK123 1; have hfz11_0 := blk_frozen BK123.out 0; have hfz11_1 := blk_frozen BK123.out 1) | (go_at_call 40; (with_reducible refine (impl_within.calls a1 ((rd_T60 l0 x12_1).f0) (wrap64 (((rd_T60 l0 x12_1).f1) - 1)) t124 _ A7.out).mono ?_); rintro e w' ⟨rfl, ⟨nd, rfl⟩⟩; (try first | exact ⟨rfl, _, World.drewN_drewN _ _ _⟩ | exact ⟨rfl, _, Eq.trans (World.drewN_drewN _ _ _) (congrArg (World.drewN _) (Nat.add_assoc _ _ _))⟩)) | (go_at_call 40; (with_reducible refine (impl_within.calls a2 ((rd_T60 l0 x12_1).f0) (wrap64 (((rd_T60 l0 x12_1).f1) - 1)) t125 _ A8.out).mono ?_); rintro e w' ⟨rfl, ⟨nd, rfl⟩⟩; (try first | exact ⟨rfl, _, World.drewN_drewN _ _ _⟩ | exact ⟨rfl, _, Eq.trans (World.drewN_drewN _ _ _) (congrArg (World.drewN _) (Nat.add_assoc _ _ _))⟩))))
       go_roundg k1
       case measure => have := HK1.out; omega
       case rel => exact ⟨(wrap64 (x7_1 + 1)), (wrap64 (x12_1 + 1)), (by first | rfl | (simp; done) | (simp [*]; done)), (by first | rfl | (simp; done) | (simp [*]; done)), H', ⟨by have := HK1.out; omega⟩, ⟨hs_ GE123.out⟩⟩
      ·rw [if_neg c9] at H
       have c9b0 : (t124 != t125) = false := by simpa using c9
       (try (have c9b1 : decide (t124 = t125) = true := by simpa using c9))
       (try (have c9b2 : (t124 == t125) = true := by simpa using c9))
       clear c9
       have H' := Aside0.mk H
       clear H
       have p122 : 0 ≤ (x12_1 : Int) := of_decide_eq_true (by assumption)
       have q122 : x12_1 < (l0.length : Int) := of_decide_eq_true (by assumption)
       obtain ⟨ad122, e122, hx122_0, hx122_1⟩ := at_T60 HR0.out x12_1 p122 q122
       cases e122
       replace hx122_0 := (HB.out.cell (World.block_lt_of_cell? w _ hx122_0)).trans hx122_0
       replace hx122_1 := (HB.out.cell (World.block_lt_of_cell? w _ hx122_1)).trans hx122_1
       replace p122 := eq_true p122
       replace q122 := eq_true q122
       go_wp2_with (first | ((with_reducible refine gate_dst (N := 9) rfl ?_); refine box_event ?hg (N := 9) ?hd (cs := #[.int .i64 0, .int .i64 0]) (t := 60) ?hr ?_; (case hd => rfl); (case hg => rfl); (case hr => first | (go_simp; done) | (go_simp; rfl)); intro gb123 hg w12 hbox hb; have n0_ := Aside0.mk (below_step hb_ hb); have n1_ := Aside0.mk (hbox); have n2_ := Aside0.mk ((by rw [hg]; exact (below_size hb_) : w.heap.size ≤ gb123)); have n3_ := Aside0.mk ((by rw [hg]; exact (below_size hb_) : w.heap.size ≤ gb123)); clear HB; have HB := n0_; have BK123 := n1_; have GW123 := n2_; have GE123 := n3_; clear n0_ n1_ n2_ n3_; clear hb hbox hg; have hcz13_0 : w12.cell? ⟨gb123, 0, none⟩ = some (.int .i64 0) := bc_ BK123 0; have hcz13_1 : w12.cell? ⟨gb123, 1, none⟩ = some (.int .i64 0) := bc_ BK123 1; have hfz13_0 := blk_frozen BK123.out 0; have hfz13_1 := blk_frozen BK123.out 1) | (go_at_call 40; (with_reducible refine (impl_within.calls a1 ((rd_T60 l0 x12_1).f0) (wrap64 (((rd_T60 l0 x12_1).f1) - 1)) t124 _ A7.out).mono ?_); rintro e w' ⟨rfl, ⟨nd, rfl⟩⟩; (try first | exact ⟨rfl, _, World.drewN_drewN _ _ _⟩ | exact ⟨rfl, _, Eq.trans (World.drewN_drewN _ _ _) (congrArg (World.drewN _) (Nat.add_assoc _ _ _))⟩)) | (go_at_call 40; (with_reducible refine (impl_within.calls a2 ((rd_T60 l0 x12_1).f0) (wrap64 (((rd_T60 l0 x12_1).f1) - 1)) t125 _ A8.out).mono ?_); rintro e w' ⟨rfl, ⟨nd, rfl⟩⟩; (try first | exact ⟨rfl, _, World.drewN_drewN _ _ _⟩ | exact ⟨rfl, _, Eq.trans (World.drewN_drewN _ _ _) (congrArg (World.drewN _) (Nat.add_assoc _ _ _))⟩)))
       repeat (go_quiet (first | ((with_reducible refine gate_dst (N := 9) rfl ?_); refine box_event ?hg (N := 9) ?hd (cs := #[.int .i64 0, .int .i64 0]) (t := 60) ?hr ?_; (case hd => rfl); (case hg => rfl); (case hr => first | (go_simp; done) | (go_simp; rfl)); intro gb123 hg w12 hbox hb; have n0_ := Aside0.mk (below_step hb_ hb); have n1_ := Aside0.mk (hbox); have n2_ := Aside0.mk ((by rw [hg]; exact (below_size hb_) : w.heap.size ≤ gb123)); have n3_ := Aside0.mk ((by rw [hg]; exact (below_size hb_) : w.heap.size ≤ gb123)); clear HB; have HB := n0_; have BK123 := n1_; have GW123 := n2_; have GE123 := n3_; clear n0_ n1_ n2_ n3_; clear hb hbox hg; have hcz13_0 : w12.cell? ⟨gb123, 0, none⟩ = some (.int .i64 0) := bc_ BK123 0; have hcz13_1 : w12.cell? ⟨gb123, 1, none⟩ = some (.int .i64 0) := bc_ BK123 1; have hfz13_0 := blk_frozen BK123.out 0; have hfz13_1 := blk_frozen BK123.out 1) | (go_at_call 40; (with_reducible refine (impl_within.calls a1 ((rd_T60 l0 x12_1).f0) (wrap64 (((rd_T60 l0 x12_1).f1) - 1)) t124 _ A7.out).mono ?_); rintro e w' ⟨rfl, ⟨nd, rfl⟩⟩; (try first | exact ⟨rfl, _, World.drewN_drewN _ _ _⟩ | exact ⟨rfl, _, Eq.trans (World.drewN_drewN _ _ _) (congrArg (World.drewN _) (Nat.add_assoc _ _ _))⟩)) | (go_at_call 40; (with_reducible refine (impl_within.calls a2 ((rd_T60 l0 x12_1).f0) (wrap64 (((rd_T60 l0 x12_1).f1) - 1)) t125 _ A8.out).mono ?_); rintro e w' ⟨rfl, ⟨nd, rfl⟩⟩; (try first | exact ⟨rfl, _, World.drewN_drewN _ _ _⟩ | exact ⟨rfl, _, Eq.trans (World.drewN_drewN _ _ _) (congrArg (World.drewN _) (Nat.add_assoc _ _ _))⟩))); try go_wp2_with (first | ((with_reducible refine gate_dst (N := 9) rfl ?_); refine box_event ?hg (N := 9) ?hd (cs := #[.int .i64 0, .int .i64 0]) (t := 60) ?hr ?_; (case hd => rfl); (case hg => rfl); (case hr => first | (go_simp; done) | (go_simp; rfl)); intro gb123 hg w12 hbox hb; have n0_ := Aside0.mk (below_step hb_ hb); have n1_ := Aside0.mk (hbox); have n2_ := Aside0.mk ((by rw [hg]; exact (below_size hb_) : w.heap.size ≤ gb123)); have n3_ := Aside0.mk ((by rw [hg]; exact (below_size hb_) : w.heap.size ≤ gb123)); clear HB; have HB := n0_; have BK123 := n1_; have GW123 := n2_; have GE123 := n3_; clear n0_ n1_ n2_ n3_; clear hb hbox hg; have hcz13_0 : w12.cell? ⟨gb123, 0, none⟩ = some (.int .i64 0) := bc_ BK123 0; have hcz13_1 : w12.cell? ⟨gb123, 1, none⟩ = some (.int .i64 0) := bc_ BK123 1; have hfz13_0 := blk_frozen BK123.out 0; have hfz13_1 := blk_frozen BK123.out 1) | (go_at_call 40; (with_reducible refine (impl_within.calls a1 ((rd_T60 l0 x12_1).f0) (wrap64 (((rd_T60 l0 x12_1).f1) - 1)) t124 _ A7.out).mono ?_); rintro e w' ⟨rfl, ⟨nd, rfl⟩⟩; (try first | exact ⟨rfl, _, World.drewN_drewN _ _ _⟩ | exact ⟨rfl, _, Eq.trans (World.drewN_drewN _ _ _) (congrArg (World.drewN _) (Nat.add_assoc _ _ _))⟩)) | (go_at_call 40; (with_reducible refine (impl_within.calls a2 ((rd_T60 l0 x12_1).f0) (wrap64 (((rd_T60 l0 x12_1).f1) - 1)) t125 _ A8.out).mono ?_); rintro e w' ⟨rfl, ⟨nd, rfl⟩⟩; (try first | exact ⟨rfl, _, World.drewN_drewN _ _ _⟩ | exact ⟨rfl, _, Eq.trans (World.drewN_drewN _ _ _) (congrArg (World.drewN _) (Nat.add_assoc _ _ _))⟩))))
       go_roundg k1
       case measure => have := HK1.out; omega
       case rel => exact ⟨(x7_1), (wrap64 (x12_1 + 1)), (by first | rfl | (simp; done) | (simp [*]; done)), (by first | rfl | (simp; done) | (simp [*]; done)), H', ⟨by have := HK1.out; omega⟩, ⟨hs_ GE123.out⟩⟩
     ·rw [if_neg c6] at H
      exact absurd H (by simp)
    ·rw [if_neg c5] at H
     exact absurd H (by simp)
   ·rw [if_neg c4] at H
    have c4b0 : decide (x12_1 < (l0.length : Int)) = false := decide_eq_false c4
    clear c4
    obtain rfl := oI H
    go_wp2
    repeat (go_quiet (fail); try go_wp2)
    go_ret
    exact ⟨by first | rfl | (simp [errW_none, errW_some] <;> rfl) | (simp [*, errW_none, errW_some] <;> rfl), hb_⟩
def spec_reParted.l0 : Nat → Int → Int → Int → List (S60) → Int → Int → Option (Int)
 | 0, _, _, _, _, _, _ => none
 | k + 1, x1, x2, x7, x10, x11, x12 => if x12 < x11 then (if 0 ≤ x12 then (if x12 < (x10.length : Int) then ((spec_l1In.f x1 ((rd_T60 x10 x12).f0) (wrap64 (((rd_T60 x10 x12).f1) - 1))).bind fun t229 => ((spec_l1In.f x2 ((rd_T60 x10 x12).f0) (wrap64 (((rd_T60 x10 x12).f1) - 1))).bind fun t230 => (if (t229 != t230) = true then (spec_reParted.l0 k x1 x2 (wrap64 (x7 + 1)) x10 x11 (wrap64 (x12 + 1))) else (spec_reParted.l0 k x1 x2 x7 x10 x11 (wrap64 (x12 + 1)))))) else (none)) else (none)) else (some x7)
def spec_reParted.f (k : Nat) (l0 : List (S60)) (a1 : Int) (a2 : Int) : Option (Int) := spec_reParted.l0 k a1 a2 0 l0 (l0.length : Int) 0
theorem spec_reParted.mono_l : ∀ k, (∀ y0 y1 y2 y3 y4 y5, LeO (spec_reParted.l0 k y0 y1 y2 y3 y4 y5) (spec_reParted.l0 (k + 1) y0 y1 y2 y3 y4 y5))
 | 0 => fun _ _ _ _ _ _ r h => by simp [spec_reParted.l0] at h
 | k + 1 => by
  have ih0 := spec_reParted.mono_l k
  ·intro y0 y1 y2 y3 y4 y5
   unfold spec_reParted.l0
   repeat' first
   | (with_reducible exact ih0 _ _ _ _ _ _)
   | (with_reducible exact LeO.refl _)
   | (with_reducible exact LeO.none _)
   | (with_reducible refine LeO.ite ?_ ?_)
   | (with_reducible refine LeO.bind ?_ (fun _ => ?_))
   | exact ih0 _ _ _ _ _ _
   | exact LeO.none _
   | refine LeO.ite ?_ ?_
   | refine LeO.bind ?_ (fun _ => ?_)
theorem spec_reParted.mono : ∀ a0 a1 a2 k, LeO (spec_reParted.f k a0 a1 a2) (spec_reParted.f (k + 1) a0 a1 a2) := by
 intro a0 a1 a2 k
 have ih0 := spec_reParted.mono_l k
 unfold spec_reParted.f
 repeat' first
   | (with_reducible exact ih0 _ _ _ _ _ _)
   | (with_reducible exact LeO.refl _)
   | (with_reducible exact LeO.none _)
   | (with_reducible refine LeO.ite ?_ ?_)
   | (with_reducible refine LeO.bind ?_ (fun _ => ?_))
   | exact ih0 _ _ _ _ _ _
   | exact LeO.none _
   | refine LeO.ite ?_ ?_
   | refine LeO.bind ?_ (fun _ => ?_)
set_option maxHeartbeats 8000000 in
set_option maxRecDepth 100000 in
theorem spec_reParted.calls (k : Nat) (A0 : Option Addr) (c0 : Nat) (l0 : List (S60)) (a1 : Int) (a2 : Int) (r : Int) (w : World) (hr0 : Kd.C k60 w A0 l0.length l0) (hc0 : l0.length ≤ c0) (h : spec_reParted.f k l0 a1 a2 = some r) :
  Calls Try.prog 35 #[.slice A0 l0.length c0, .int .i64 a1, .int .i64 a2] w fun e w' => e = .returned (.int .i64 r) ∧ Below w.heap.size w w' := by
 have hu60 := Try.underlying60
 have HR0 := Aside0.mk hr0
 have HC0 := Aside0.mk hc0
 clear hr0 hc0
 have HB := Aside0.mk (Below.refl w.heap.size w)
 have H : (spec_reParted.l0 k a1 a2 0 l0 (l0.length : Int) 0) = some r := h
 clear h
 have H' := Aside0.mk H
 clear H
 go_enter Try.func35, Try.ntmps35
 go_wp2
 repeat (go_quiet (fail); try go_wp2)
 go_loopg [7, 12] k (fun kq v7 v12 w' => ∃ (x7_1 : Int) (x12_1 : Int), v7 = .int .i64 x7_1 ∧ v12 = .int .i64 x12_1 ∧ Aside0 (spec_reParted.l0 kq a1 a2 x7_1 l0 (l0.length : Int) x12_1 = some r) ∧ Aside0 (kq ≤ k) ∧ Aside0 (Below w.heap.size w w'))
 case atStart => exact ⟨(0), (0), (by first | rfl | (simp; done) | (simp [*]; done)), (by first | rfl | (simp; done) | (simp [*]; done)), H', ⟨Nat.le_refl _⟩, ⟨hb_⟩⟩
 case round =>
  clear H'
  try clear p2
  try clear c3
  obtain ⟨x7_1, x12_1, rfl, rfl, HA, HK1, HB⟩ := hrel
  cases gk with
  | zero => exact absurd HA.out (by simp [spec_reParted.l0])
  | succ k1 =>
   have H := HA.out
   clear HA
   simp only [spec_reParted.l0] at H
   by_cases c4 : x12_1 < (l0.length : Int)
   ·rw [if_pos c4] at H
    have c4b0 : decide (x12_1 < (l0.length : Int)) = true := decide_eq_true c4
    clear c4
    by_cases c5 : 0 ≤ x12_1
    ·rw [if_pos c5] at H
     have c5b0 : decide (0 ≤ x12_1) = true := decide_eq_true c5
     clear c5
     by_cases c6 : x12_1 < (l0.length : Int)
     ·rw [if_pos c6] at H
      have c6b0 : decide (x12_1 < (l0.length : Int)) = true := decide_eq_true c6
      clear c6
      replace H := bI H
      obtain ⟨t229, A70, H⟩ := H
      replace H : ((spec_l1In.f a2 ((rd_T60 l0 x12_1).f0) (wrap64 (((rd_T60 l0 x12_1).f1) - 1))).bind fun t230 => (if (t229 != t230) = true then (spec_reParted.l0 k1 a1 a2 (wrap64 (x7_1 + 1)) l0 (l0.length : Int) (wrap64 (x12_1 + 1))) else (spec_reParted.l0 k1 a1 a2 x7_1 l0 (l0.length : Int) (wrap64 (x12_1 + 1))))) = some r := H
      have A7 := Aside0.mk A70
      clear A70
      replace H := bI H
      obtain ⟨t230, A80, H⟩ := H
      replace H : (if (t229 != t230) = true then (spec_reParted.l0 k1 a1 a2 (wrap64 (x7_1 + 1)) l0 (l0.length : Int) (wrap64 (x12_1 + 1))) else (spec_reParted.l0 k1 a1 a2 x7_1 l0 (l0.length : Int) (wrap64 (x12_1 + 1)))) = some r := H
      have A8 := Aside0.mk A80
      clear A80
      by_cases c9 : (t229 != t230) = true
      ·rw [if_pos c9] at H
       have c9b0 : (t229 != t230) = true := c9
       (try (have c9b1 : decide (t229 = t230) = false := by simpa using c9))
       (try (have c9b2 : (t229 == t230) = false := by simpa using c9))
       (try (have c9b3 : ¬ (t229 = t230) := by simpa using c9))
       clear c9
       have H' := Aside0.mk H
       clear H
       have p227 : 0 ≤ (x12_1 : Int) := of_decide_eq_true (by assumption)
       have q227 : x12_1 < (l0.length : Int) := of_decide_eq_true (by assumption)
       obtain ⟨ad227, e227, hx227_0, hx227_1⟩ := at_T60 HR0.out x12_1 p227 q227
       cases e227
       replace hx227_0 := (HB.out.cell (World.block_lt_of_cell? w _ hx227_0)).trans hx227_0
       replace hx227_1 := (HB.out.cell (World.block_lt_of_cell? w _ hx227_1)).trans hx227_1
       replace p227 := eq_true p227
       replace q227 := eq_true q227
       go_wp2_with (first | ((with_reducible refine gate_dst (N := 9) rfl ?_); refine box_event ?hg (N := 9) ?hd (cs := #[.int .i64 0, .int .i64 0]) (t := 60) ?hr ?_; (case hd => rfl); (case hg => rfl); (case hr => first | (go_simp; done) | (go_simp; rfl)); intro gb228 hg w10 hbox hb; have n0_ := Aside0.mk (below_step hb_ hb); have n1_ := Aside0.mk (hbox); have n2_ := Aside0.mk ((by rw [hg]; exact (below_size hb_) : w.heap.size ≤ gb228)); have n3_ := Aside0.mk ((by rw [hg]; exact (below_size hb_) : w.heap.size ≤ gb228)); clear HB; have HB := n0_; have BK228 := n1_; have GW228 := n2_; have GE228 := n3_; clear n0_ n1_ n2_ n3_; clear hb hbox hg; have hcz11_0 : w10.cell? ⟨gb228, 0, none⟩ = some (.int .i64 0) := bc_ BK228 0; have hcz11_1 : w10.cell? ⟨gb228, 1, none⟩ = some (.int .i64 0) := bc_ BK228 1; have hfz11_0 := blk_frozen BK228.out 0; have hfz11_1 := blk_frozen BK228.out 1) | (go_at_call 34; (with_reducible refine (spec_l1In.calls a1 ((rd_T60 l0 x12_1).f0) (wrap64 (((rd_T60 l0 x12_1).f1) - 1)) t229 _ A7.out).mono ?_); rintro e w' ⟨rfl, ⟨nd, rfl⟩⟩; (try first | exact ⟨rfl, _, World.drewN_drewN _ _ _⟩ | exact ⟨rfl, _, Eq.trans (World.drewN_drewN _ _ _) (congrArg (World.drewN _) (Nat.add_assoc _ _ _))⟩)) | (go_at_call 34; (with_reducible refine (spec_l1In.calls a2 ((rd_T60 l0 x12_1).f0) (wrap64 (((rd_T60 l0 x12_1).f1) - 1)) t230 _ A8.out).mono ?_); rintro e w' ⟨rfl, ⟨nd, rfl⟩⟩; (try first | exact ⟨rfl, _, World.drewN_drewN _ _ _⟩ | exact ⟨rfl, _, Eq.trans (World.drewN_drewN _ _ _) (congrArg (World.drewN _) (Nat.add_assoc _ _ _))⟩)))
       repeat (go_quiet (first | ((with_reducible refine gate_dst (N := 9) rfl ?_); refine box_event ?hg (N := 9) ?hd (cs := #[.int .i64 0, .int .i64 0]) (t := 60) ?hr ?_; (case hd => rfl); (case hg => rfl); (case hr => first | (go_simp; done) | (go_simp; rfl)); intro gb228 hg w10 hbox hb; have n0_ := Aside0.mk (below_step hb_ hb); have n1_ := Aside0.mk (hbox); have n2_ := Aside0.mk ((by rw [hg]; exact (below_size hb_) : w.heap.size ≤ gb228)); have n3_ := Aside0.mk ((by rw [hg]; exact (below_size hb_) : w.heap.size ≤ gb228)); clear HB; have HB := n0_; have BK228 := n1_; have GW228 := n2_; have GE228 := n3_; clear n0_ n1_ n2_ n3_; clear hb hbox hg; have hcz11_0 : w10.cell? ⟨gb228, 0, none⟩ = some (.int .i64 0) := bc_ BK228 0; have hcz11_1 : w10.cell? ⟨gb228, 1, none⟩ = some (.int .i64 0) := bc_ BK228 1; have hfz11_0 := blk_frozen BK228.out 0; have hfz11_1 := blk_frozen BK228.out 1) | (go_at_call 34; (with_reducible refine (spec_l1In.calls a1 ((rd_T60 l0 x12_1).f0) (wrap64 (((rd_T60 l0 x12_1).f1) - 1)) t229 _ A7.out).mono ?_); rintro e w' ⟨rfl, ⟨nd, rfl⟩⟩; (try first | exact ⟨rfl, _, World.drewN_drewN _ _ _⟩ | exact ⟨rfl, _, Eq.trans (World.drewN_drewN _ _ _) (congrArg (World.drewN _) (Nat.add_assoc _ _ _))⟩)) | (go_at_call 34; (with_reducible refine (spec_l1In.calls a2 ((rd_T60 l0 x12_1).f0) (wrap64 (((rd_T60 l0 x12_1).f1) - 1)) t230 _ A8.out).mono ?_); rintro e w' ⟨rfl, ⟨nd, rfl⟩⟩; (try first | exact ⟨rfl, _, World.drewN_drewN _ _ _⟩ | exact ⟨rfl, _, Eq.trans (World.drewN_drewN _ _ _) (congrArg (World.drewN _) (Nat.add_assoc _ _ _))⟩))); try go_wp2_with (first | ((with_reducible refine gate_dst (N := 9) rfl ?_); refine box_event ?hg (N := 9) ?hd (cs := #[.int .i64 0, .int .i64 0]) (t := 60) ?hr ?_; (case hd => rfl); (case hg => rfl); (case hr => first | (go_simp; done) | (go_simp; rfl)); intro gb228 hg w10 hbox hb; have n0_ := Aside0.mk (below_step hb_ hb); have n1_ := Aside0.mk (hbox); have n2_ := Aside0.mk ((by rw [hg]; exact (below_size hb_) : w.heap.size ≤ gb228)); have n3_ := Aside0.mk ((by rw [hg]; exact (below_size hb_) : w.heap.size ≤ gb228)); clear HB; have HB := n0_; have BK228 := n1_; have GW228 := n2_; have GE228 := n3_; clear n0_ n1_ n2_ n3_; clear hb hbox hg; have hcz11_0 : w10.cell? ⟨gb228, 0, none⟩ = some (.int .i64 0) := bc_ BK228 0; have hcz11_1 : w10.cell? ⟨gb228, 1, none⟩ = some (.int .i64 0) := bc_ BK228 1; have hfz11_0 := blk_frozen BK228.out 0; have hfz11_1 := blk_frozen BK228.out 1) | (go_at_call 34; (with_reducible refine (spec_l1In.calls a1 ((rd_T60 l0 x12_1).f0) (wrap64 (((rd_T60 l0 x12_1).f1) - 1)) t229 _ A7.out).mono ?_); rintro e w' ⟨rfl, ⟨nd, rfl⟩⟩; (try first | exact ⟨rfl, _, World.drewN_drewN _ _ _⟩ | exact ⟨rfl, _, Eq.trans (World.drewN_drewN _ _ _) (congrArg (World.drewN _) (Nat.add_assoc _ _ _))⟩)) | (go_at_call 34; (with_reducible refine (spec_l1In.calls a2 ((rd_T60 l0 x12_1).f0) (wrap64 (((rd_T60 l0 x12_1).f1) - 1)) t230 _ A8.out).mono ?_); rintro e w' ⟨rfl, ⟨nd, rfl⟩⟩; (try first | exact ⟨rfl, _, World.drewN_drewN _ _ _⟩ | exact ⟨rfl, _, Eq.trans (World.drewN_drewN _ _ _) (congrArg (World.drewN _) (Nat.add_assoc _ _ _))⟩))))
       go_roundg k1
       case measure => have := HK1.out; omega
       case rel => exact ⟨(wrap64 (x7_1 + 1)), (wrap64 (x12_1 + 1)), (by first | rfl | (simp; done) | (simp [*]; done)), (by first | rfl | (simp; done) | (simp [*]; done)), H', ⟨by have := HK1.out; omega⟩, ⟨hs_ GE228.out⟩⟩
      ·rw [if_neg c9] at H
       have c9b0 : (t229 != t230) = false := by simpa using c9
       (try (have c9b1 : decide (t229 = t230) = true := by simpa using c9))
       (try (have c9b2 : (t229 == t230) = true := by simpa using c9))
       clear c9
       have H' := Aside0.mk H
       clear H
       have p227 : 0 ≤ (x12_1 : Int) := of_decide_eq_true (by assumption)
       have q227 : x12_1 < (l0.length : Int) := of_decide_eq_true (by assumption)
       obtain ⟨ad227, e227, hx227_0, hx227_1⟩ := at_T60 HR0.out x12_1 p227 q227
       cases e227
       replace hx227_0 := (HB.out.cell (World.block_lt_of_cell? w _ hx227_0)).trans hx227_0
       replace hx227_1 := (HB.out.cell (World.block_lt_of_cell? w _ hx227_1)).trans hx227_1
       replace p227 := eq_true p227
       replace q227 := eq_true q227
       go_wp2_with (first | ((with_reducible refine gate_dst (N := 9) rfl ?_); refine box_event ?hg (N := 9) ?hd (cs := #[.int .i64 0, .int .i64 0]) (t := 60) ?hr ?_; (case hd => rfl); (case hg => rfl); (case hr => first | (go_simp; done) | (go_simp; rfl)); intro gb228 hg w12 hbox hb; have n0_ := Aside0.mk (below_step hb_ hb); have n1_ := Aside0.mk (hbox); have n2_ := Aside0.mk ((by rw [hg]; exact (below_size hb_) : w.heap.size ≤ gb228)); have n3_ := Aside0.mk ((by rw [hg]; exact (below_size hb_) : w.heap.size ≤ gb228)); clear HB; have HB := n0_; have BK228 := n1_; have GW228 := n2_; have GE228 := n3_; clear n0_ n1_ n2_ n3_; clear hb hbox hg; have hcz13_0 : w12.cell? ⟨gb228, 0, none⟩ = some (.int .i64 0) := bc_ BK228 0; have hcz13_1 : w12.cell? ⟨gb228, 1, none⟩ = some (.int .i64 0) := bc_ BK228 1; have hfz13_0 := blk_frozen BK228.out 0; have hfz13_1 := blk_frozen BK228.out 1) | (go_at_call 34; (with_reducible refine (spec_l1In.calls a1 ((rd_T60 l0 x12_1).f0) (wrap64 (((rd_T60 l0 x12_1).f1) - 1)) t229 _ A7.out).mono ?_); rintro e w' ⟨rfl, ⟨nd, rfl⟩⟩; (try first | exact ⟨rfl, _, World.drewN_drewN _ _ _⟩ | exact ⟨rfl, _, Eq.trans (World.drewN_drewN _ _ _) (congrArg (World.drewN _) (Nat.add_assoc _ _ _))⟩)) | (go_at_call 34; (with_reducible refine (spec_l1In.calls a2 ((rd_T60 l0 x12_1).f0) (wrap64 (((rd_T60 l0 x12_1).f1) - 1)) t230 _ A8.out).mono ?_); rintro e w' ⟨rfl, ⟨nd, rfl⟩⟩; (try first | exact ⟨rfl, _, World.drewN_drewN _ _ _⟩ | exact ⟨rfl, _, Eq.trans (World.drewN_drewN _ _ _) (congrArg (World.drewN _) (Nat.add_assoc _ _ _))⟩)))
       repeat (go_quiet (first | ((with_reducible refine gate_dst (N := 9) rfl ?_); refine box_event ?hg (N := 9) ?hd (cs := #[.int .i64 0, .int .i64 0]) (t := 60) ?hr ?_; (case hd => rfl); (case hg => rfl); (case hr => first | (go_simp; done) | (go_simp; rfl)); intro gb228 hg w12 hbox hb; have n0_ := Aside0.mk (below_step hb_ hb); have n1_ := Aside0.mk (hbox); have n2_ := Aside0.mk ((by rw [hg]; exact (below_size hb_) : w.heap.size ≤ gb228)); have n3_ := Aside0.mk ((by rw [hg]; exact (below_size hb_) : w.heap.size ≤ gb228)); clear HB; have HB := n0_; have BK228 := n1_; have GW228 := n2_; have GE228 := n3_; clear n0_ n1_ n2_ n3_; clear hb hbox hg; have hcz13_0 : w12.cell? ⟨gb228, 0, none⟩ = some (.int .i64 0) := bc_ BK228 0; have hcz13_1 : w12.cell? ⟨gb228, 1, none⟩ = some (.int .i64 0) := bc_ BK228 1; have hfz13_0 := blk_frozen BK228.out 0; have hfz13_1 := blk_frozen BK228.out 1) | (go_at_call 34; (with_reducible refine (spec_l1In.calls a1 ((rd_T60 l0 x12_1).f0) (wrap64 (((rd_T60 l0 x12_1).f1) - 1)) t229 _ A7.out).mono ?_); rintro e w' ⟨rfl, ⟨nd, rfl⟩⟩; (try first | exact ⟨rfl, _, World.drewN_drewN _ _ _⟩ | exact ⟨rfl, _, Eq.trans (World.drewN_drewN _ _ _) (congrArg (World.drewN _) (Nat.add_assoc _ _ _))⟩)) | (go_at_call 34; (with_reducible refine (spec_l1In.calls a2 ((rd_T60 l0 x12_1).f0) (wrap64 (((rd_T60 l0 x12_1).f1) - 1)) t230 _ A8.out).mono ?_); rintro e w' ⟨rfl, ⟨nd, rfl⟩⟩; (try first | exact ⟨rfl, _, World.drewN_drewN _ _ _⟩ | exact ⟨rfl, _, Eq.trans (World.drewN_drewN _ _ _) (congrArg (World.drewN _) (Nat.add_assoc _ _ _))⟩))); try go_wp2_with (first | ((with_reducible refine gate_dst (N := 9) rfl ?_); refine box_event ?hg (N := 9) ?hd (cs := #[.int .i64 0, .int .i64 0]) (t := 60) ?hr ?_; (case hd => rfl); (case hg => rfl); (case hr => first | (go_simp; done) | (go_simp; rfl)); intro gb228 hg w12 hbox hb; have n0_ := Aside0.mk (below_step hb_ hb); have n1_ := Aside0.mk (hbox); have n2_ := Aside0.mk ((by rw [hg]; exact (below_size hb_) : w.heap.size ≤ gb228)); have n3_ := Aside0.mk ((by rw [hg]; exact (below_size hb_) : w.heap.size ≤ gb228)); clear HB; have HB := n0_; have BK228 := n1_; have GW228 := n2_; have GE228 := n3_; clear n0_ n1_ n2_ n3_; clear hb hbox hg; have hcz13_0 : w12.cell? ⟨gb228, 0, none⟩ = some (.int .i64 0) := bc_ BK228 0; have hcz13_1 : w12.cell? ⟨gb228, 1, none⟩ = some (.int .i64 0) := bc_ BK228 1; have hfz13_0 := blk_frozen BK228.out 0; have hfz13_1 := blk_frozen BK228.out 1) | (go_at_call 34; (with_reducible refine (spec_l1In.calls a1 ((rd_T60 l0 x12_1).f0) (wrap64 (((rd_T60 l0 x12_1).f1) - 1)) t229 _ A7.out).mono ?_); rintro e w' ⟨rfl, ⟨nd, rfl⟩⟩; (try first | exact ⟨rfl, _, World.drewN_drewN _ _ _⟩ | exact ⟨rfl, _, Eq.trans (World.drewN_drewN _ _ _) (congrArg (World.drewN _) (Nat.add_assoc _ _ _))⟩)) | (go_at_call 34; (with_reducible refine (spec_l1In.calls a2 ((rd_T60 l0 x12_1).f0) (wrap64 (((rd_T60 l0 x12_1).f1) - 1)) t230 _ A8.out).mono ?_); rintro e w' ⟨rfl, ⟨nd, rfl⟩⟩; (try first | exact ⟨rfl, _, World.drewN_drewN _ _ _⟩ | exact ⟨rfl, _, Eq.trans (World.drewN_drewN _ _ _) (congrArg (World.drewN _) (Nat.add_assoc _ _ _))⟩))))
       go_roundg k1
       case measure => have := HK1.out; omega
       case rel => exact ⟨(x7_1), (wrap64 (x12_1 + 1)), (by first | rfl | (simp; done) | (simp [*]; done)), (by first | rfl | (simp; done) | (simp [*]; done)), H', ⟨by have := HK1.out; omega⟩, ⟨hs_ GE228.out⟩⟩
     ·rw [if_neg c6] at H
      exact absurd H (by simp)
    ·rw [if_neg c5] at H
     exact absurd H (by simp)
   ·rw [if_neg c4] at H
    have c4b0 : decide (x12_1 < (l0.length : Int)) = false := decide_eq_false c4
    clear c4
    obtain rfl := oI H
    go_wp2
    repeat (go_quiet (fail); try go_wp2)
    go_ret
    exact ⟨by first | rfl | (simp [errW_none, errW_some] <;> rfl) | (simp [*, errW_none, errW_some] <;> rfl), hb_⟩
end Go.Proofs.Ytdjbdpgdhpobfaa.Pr
/- How many chords part two arcs: the program's count and the reference's are one number. -/
namespace Go.Proofs.Ytdjbdpgdhpobfaa.M
open Go.RowKit Go.Proofs.YtdjbdpgdhpobfaaW.PrintWords Go.Proofs.Ytdjbdpgdhpobfaa.Pr
def ptB (i j : Int) (c : Ch) : Bool := inB i c.f0 (c.f1 - 1) != inB j c.f0 (c.f1 - 1)
def ptN (i j : Int) (l : List Ch) : Nat := l.countP (ptB i j)
theorem ptN_pos {i j : Int} {d : Ch} (r : List Ch) (h : ptB i j d = true) : ptN i j (d :: r) = ptN i j r + 1 := by
  unfold ptN
  rw [List.countP_cons, if_pos h]
theorem ptN_neg {i j : Int} {d : Ch} (r : List Ch) (h : ¬ ptB i j d = true) : ptN i j (d :: r) = ptN i j r := by
  unfold ptN
  rw [List.countP_cons, if_neg h]
  rfl
theorem ptN_le (i j : Int) (l : List Ch) : ptN i j l ≤ l.length := List.countP_le_length
theorem parted_ev (l : List Ch) (i j : Int) (hl : l.length ≤ 40) (hv : ∀ c ∈ l, 0 ≤ c.f1 ∧ c.f1 ≤ 60) : Ev (fun k => impl_parted.f k l i j) (ptN i j l : Int) := by
  unfold impl_parted.f
  have e := Ev.scan0 (fun k n (acc : Int) => impl_parted.l0 k i j acc l (l.length : Int) n) l (fun rest acc => acc + (ptN i j rest : Int)) (fun n acc => 0 ≤ acc ∧ acc ≤ n)
    (fun acc hp => by
      refine Ev.step (fun k => by rw [impl_parted.l0]) ?_
      exact Ev.neg (by omega) (Ev.val (by simp [ptN])))
    (fun n h acc hp => by
      have hr := rd_ch l n h
      have hvn := hv l[n] (List.getElem_mem h)
      by_cases hc : ptB i j l[n] = true
      · refine .inl ⟨acc + 1, ⟨by omega, by omega⟩, by rw [ptN_pos _ hc]; omega, fun r hr2 => ?_⟩
        refine Ev.step (fun k => by rw [impl_parted.l0]) ?_
        refine Ev.pos (by omega) (Ev.pos (by omega) (Ev.pos (by omega) ?_))
        rw [hr, w64 (x := l[n].f1 - 1) (by omega) (by omega)]
        refine Ev.bindc (within_eq _ _ _) (Ev.bindc (within_eq _ _ _) (Ev.pos hc ?_))
        rw [w64 (x := (n : Int) + 1) (by omega) (by omega), w64 (x := acc + 1) (by omega) (by omega)]
        exact hr2
      · refine .inl ⟨acc, ⟨by omega, by omega⟩, by rw [ptN_neg _ hc], fun r hr2 => ?_⟩
        refine Ev.step (fun k => by rw [impl_parted.l0]) ?_
        refine Ev.pos (by omega) (Ev.pos (by omega) (Ev.pos (by omega) ?_))
        rw [hr, w64 (x := l[n].f1 - 1) (by omega) (by omega)]
        refine Ev.bindc (within_eq _ _ _) (Ev.bindc (within_eq _ _ _) (Ev.neg hc ?_))
        rw [w64 (x := (n : Int) + 1) (by omega) (by omega)]
        exact hr2)
    0 ⟨by omega, by omega⟩
  simpa using e
theorem reParted_ev (l : List Ch) (i j : Int) (hl : l.length ≤ 40) (hv : ∀ c ∈ l, 0 ≤ c.f1 ∧ c.f1 ≤ 60) : Ev (fun k => spec_reParted.f k l i j) (ptN i j l : Int) := by
  unfold spec_reParted.f
  have e := Ev.scan0 (fun k n (acc : Int) => spec_reParted.l0 k i j acc l (l.length : Int) n) l (fun rest acc => acc + (ptN i j rest : Int)) (fun n acc => 0 ≤ acc ∧ acc ≤ n)
    (fun acc hp => by
      refine Ev.step (fun k => by rw [spec_reParted.l0]) ?_
      exact Ev.neg (by omega) (Ev.val (by simp [ptN])))
    (fun n h acc hp => by
      have hr := rd_ch l n h
      have hvn := hv l[n] (List.getElem_mem h)
      by_cases hc : ptB i j l[n] = true
      · refine .inl ⟨acc + 1, ⟨by omega, by omega⟩, by rw [ptN_pos _ hc]; omega, fun r hr2 => ?_⟩
        refine Ev.step (fun k => by rw [spec_reParted.l0]) ?_
        refine Ev.pos (by omega) (Ev.pos (by omega) (Ev.pos (by omega) ?_))
        rw [hr, w64 (x := l[n].f1 - 1) (by omega) (by omega)]
        refine Ev.bindc (l1In_eq _ _ _) (Ev.bindc (l1In_eq _ _ _) (Ev.pos hc ?_))
        rw [w64 (x := (n : Int) + 1) (by omega) (by omega), w64 (x := acc + 1) (by omega) (by omega)]
        exact hr2
      · refine .inl ⟨acc, ⟨by omega, by omega⟩, by rw [ptN_neg _ hc], fun r hr2 => ?_⟩
        refine Ev.step (fun k => by rw [spec_reParted.l0]) ?_
        refine Ev.pos (by omega) (Ev.pos (by omega) (Ev.pos (by omega) ?_))
        rw [hr, w64 (x := l[n].f1 - 1) (by omega) (by omega)]
        refine Ev.bindc (l1In_eq _ _ _) (Ev.bindc (l1In_eq _ _ _) (Ev.neg hc ?_))
        rw [w64 (x := (n : Int) + 1) (by omega) (by omega)]
        exact hr2)
    0 ⟨by omega, by omega⟩
  simpa using e
end Go.Proofs.Ytdjbdpgdhpobfaa.M
/- Sums and parities of chords, for the law of regions in parts. -/
namespace Go.Proofs.Ytdjbdpgdhpobfaa.M
open Go.RowKit Go.Proofs.YtdjbdpgdhpobfaaW.PrintWords Go.Proofs.Ytdjbdpgdhpobfaa.Pr
theorem ptN_comm (i j : Int) (l : List Ch) : ptN i j l = ptN j i l := by
  unfold ptN
  congr 1
  funext c
  unfold ptB
  cases inB i c.f0 (c.f1 - 1) <;> cases inB j c.f0 (c.f1 - 1) <;> rfl
theorem ptN_self (i : Int) (l : List Ch) : ptN i i l = 0 := by
  unfold ptN
  rw [List.countP_eq_zero]
  intro c _
  unfold ptB
  simp
/-- Arcs are parted as shades tell. -/
theorem ptN_parity (i j : Int) : ∀ l : List Ch, (ptN 0 i l + ptN 0 j l + ptN i j l) % 2 = 0
  | [] => rfl
  | c :: l => by
    have ih := ptN_parity i j l
    unfold ptN at ih ⊢
    simp only [List.countP_cons]
    have h : ((if ptB 0 i c = true then 1 else 0) + (if ptB 0 j c = true then 1 else 0) + (if ptB i j c = true then 1 else 0) : Nat) % 2 = 0 := by
      unfold ptB
      cases inB 0 c.f0 (c.f1 - 1) <;> cases inB i c.f0 (c.f1 - 1) <;> cases inB j c.f0 (c.f1 - 1) <;> rfl
    omega
/-- No chord crosses itself. -/
theorem crB_self (c : Ch) : crB c c = false := by
  unfold crB
  exact decide_eq_false (by omega)
theorem cross_sum : ∀ (l pre : List Ch), ((pre ++ l).map fun c => cnt c l).sum = withN l pre + 2 * pairsN l
  | l, pre => by
    have key : ∀ l : List Ch, (l.map fun c => cnt c l).sum = 2 * pairsN l := by
      intro l
      induction l with
      | nil => rfl
      | cons d r ih =>
        have h1 : (r.map fun c => cnt c (d :: r)).sum = (r.map fun c => cnt c r).sum + cnt d r := by
          have gen : ∀ (q : List Ch), (q.map fun c => cnt c (d :: r)).sum = (q.map fun c => cnt c r).sum + cnt d q := by
            intro q
            induction q with
            | nil => simp [cnt]
            | cons e q ihq =>
              simp only [List.map_cons, List.sum_cons, ihq]
              unfold cnt
              simp only [List.countP_cons, crB_comm e d]
              omega
          exact gen r
        have h0 : cnt d (d :: r) = cnt d r := cnt_neg r (by rw [crB_self]; decide)
        rw [List.map_cons, List.sum_cons, h1, h0, ih, pairsN]
        omega
    rw [List.map_append, List.sum_append, key l]
    rfl
/-- The pieces of all chords are as many as chords and twice the crossings. -/
theorem pieces_sum (l : List Ch) : (l.map fun c => 1 + cnt c l).sum = l.length + 2 * pairsN l := by
  have h := cross_sum l []
  rw [List.nil_append] at h
  have h2 : withN l [] = 0 := rfl
  have h3 : ∀ q : List Ch, (q.map fun c => 1 + cnt c l).sum = q.length + (q.map fun c => cnt c l).sum := by
    intro q
    induction q with
    | nil => rfl
    | cons e q ih => simp only [List.map_cons, List.sum_cons, ih, List.length_cons]; omega
  rw [h3, h, h2]
  omega
end Go.Proofs.Ytdjbdpgdhpobfaa.M
/- Rows in order, each element once: sorted and compacted, or put in one after the other. -/
namespace Go.Proofs.Ytdjbdpgdhpobfaa.M
open Go.Lib
set_option linter.unusedSectionVars false
section
variable {α : Type} [Inhabited α] [DecidableEq α] {lt : α → α → Bool}
/-- A strict order in which two elements are the same or one is ahead of the other. -/
structure Ord (lt : α → α → Bool) : Prop where
  irrefl : ∀ x, lt x x = false
  trans : ∀ x y z, lt x y = true → lt y z = true → lt x z = true
  tri : ∀ x y, lt x y = false → lt y x = false → x = y
theorem Ord.asym (h : Ord lt) {x y : α} (h1 : lt x y = true) : lt y x = false := by
  rw [Bool.eq_false_iff]
  intro h2
  have := h.trans _ _ _ h1 h2
  rw [h.irrefl] at this
  cases this
def put (lt : α → α → Bool) : List α → α → List α
  | [], c => [c]
  | x :: r, c => if lt x c = true then x :: put lt r c else if x = c then x :: r else c :: x :: r
theorem mem_put (lt : α → α → Bool) (x c : α) : ∀ l : List α, x ∈ put lt l c ↔ x = c ∨ x ∈ l
  | [] => by simp [put]
  | y :: r => by
    have ih := mem_put lt x c r
    unfold put
    split
    · rw [List.mem_cons, ih, List.mem_cons]
      constructor
      · rintro (h | h | h)
        · exact .inr (.inl h)
        · exact .inl h
        · exact .inr (.inr h)
      · rintro (h | h | h)
        · exact .inr (.inl h)
        · exact .inl h
        · exact .inr (.inr h)
    · split
      · rename_i e
        subst e
        simp
      · simp
theorem length_put (lt : α → α → Bool) (c : α) : ∀ l : List α, (put lt l c).length ≤ l.length + 1
  | [] => by simp [put]
  | y :: r => by
    have ih := length_put lt c r
    unfold put
    split
    · simp; omega
    · split
      · simp
      · simp
def SS (lt : α → α → Bool) (l : List α) : Prop := l.Pairwise fun x y => lt x y = true
theorem ss_put (h : Ord lt) (c : α) : ∀ l : List α, SS lt l → SS lt (put lt l c)
  | [], _ => by simp [put, SS]
  | y :: r, hs => by
    obtain ⟨h1, h2⟩ := List.pairwise_cons.1 hs
    unfold put
    split
    · rename_i hy
      refine List.pairwise_cons.2 ⟨fun z hz => ?_, ss_put h c r h2⟩
      rcases (mem_put lt z c r).1 hz with rfl | hz
      · exact hy
      · exact h1 z hz
    · rename_i hy
      split
      · exact hs
      · rename_i hne
        have hcy : lt c y = true := by
          cases e : lt c y with
          | true => rfl
          | false => exact absurd (h.tri y c (Bool.eq_false_iff.2 hy) e) hne
        refine List.pairwise_cons.2 ⟨fun z hz => ?_, hs⟩
        rcases List.mem_cons.1 hz with rfl | hz
        · exact hcy
        · exact h.trans _ _ _ hcy (h1 z hz)
theorem ss_uniq (h : Ord lt) : ∀ l1 l2 : List α, SS lt l1 → SS lt l2 → (∀ x, x ∈ l1 ↔ x ∈ l2) → l1 = l2
  | [], [], _, _, _ => rfl
  | [], b :: s, _, _, hm => absurd ((hm b).2 (List.mem_cons_self ..)) (by simp)
  | a :: r, [], _, _, hm => absurd ((hm a).1 (List.mem_cons_self ..)) (by simp)
  | a :: r, b :: s, h1, h2, hm => by
    obtain ⟨p1, q1⟩ := List.pairwise_cons.1 h1
    obtain ⟨p2, q2⟩ := List.pairwise_cons.1 h2
    have hab : a = b := by
      rcases List.mem_cons.1 ((hm a).1 (List.mem_cons_self ..)) with e | ha
      · exact e
      · rcases List.mem_cons.1 ((hm b).2 (List.mem_cons_self ..)) with e | hb
        · exact e.symm
        · have x1 := p2 a ha
          have x2 := p1 b hb
          rw [h.asym x1] at x2
          cases x2
    subst hab
    rw [ss_uniq h r s q1 q2 (fun x => ?_)]
    have hx := hm x
    constructor
    · intro hr
      rcases List.mem_cons.1 (hx.1 (List.mem_cons_of_mem _ hr)) with rfl | hs
      · have := p1 x hr
        rw [h.irrefl] at this
        cases this
      · exact hs
    · intro hs
      rcases List.mem_cons.1 (hx.2 (List.mem_cons_of_mem _ hs)) with rfl | hr
      · have := p2 x hs
        rw [h.irrefl] at this
        cases this
      · exact hr
theorem ss_fold (h : Ord lt) : ∀ (xs acc : List α), SS lt acc → SS lt (xs.foldl (put lt) acc)
  | [], _, hs => hs
  | x :: r, acc, hs => ss_fold h r _ (ss_put h x acc hs)
theorem mem_fold (lt : α → α → Bool) (x : α) : ∀ (xs acc : List α), x ∈ xs.foldl (put lt) acc ↔ x ∈ acc ∨ x ∈ xs
  | [], acc => by simp
  | y :: r, acc => by
    rw [List.foldl_cons, mem_fold lt x r, mem_put, List.mem_cons]
    constructor
    · rintro ((h | h) | h)
      · exact .inr (.inl h)
      · exact .inl h
      · exact .inr (.inr h)
    · rintro (h | h | h)
      · exact .inl (.inr h)
      · exact .inl (.inl h)
      · exact .inr h
theorem length_fold (lt : α → α → Bool) : ∀ (xs acc : List α), (xs.foldl (put lt) acc).length ≤ acc.length + xs.length
  | [], acc => by simp
  | y :: r, acc => by
    have h1 := length_fold lt r (put lt acc y)
    have h2 := length_put lt y acc
    rw [List.foldl_cons, List.length_cons]
    omega
/-- Of a row in order: what is kept is in order strictly, and is the same elements. -/
theorem compact_ss (h : Ord lt) (d : Array α) (hd : ∀ i j, i < j → j < d.size → lt d[j]! d[i]! = false) : ∀ m, m < d.size →
    SS lt (compactUpTo d (m + 1)) ∧ (∀ x, x ∈ compactUpTo d (m + 1) ↔ ∃ j, j < m + 1 ∧ d[j]! = x) ∧ ∀ x ∈ compactUpTo d (m + 1), x = d[m]! ∨ lt x d[m]! = true
  | 0, hm => by
    have e : compactUpTo d 1 = [d[0]!] := by
      rw [compactUpTo_succ, if_pos (keeps_lt_one d 0 (by omega))]
      simp [compactUpTo]
    rw [e]
    refine ⟨by simp [SS], fun x => ?_, fun x hx => .inl (by simpa using hx)⟩
    constructor
    · intro hx
      exact ⟨0, by omega, (List.mem_singleton.1 hx).symm⟩
    · rintro ⟨j, hj, rfl⟩
      have : j = 0 := by omega
      subst this
      simp
  | m + 1, hm => by
    obtain ⟨i1, i2, i3⟩ := compact_ss h d hd m (by omega)
    have hs := compactUpTo_succ d (m + 1)
    have hw := hd m (m + 1) (by omega) hm
    by_cases hk : d[m + 1]! = d[m]!
    · have hf : keeps d (m + 1) = false := keeps_neg (by omega) hk
      rw [hf] at hs
      simp only [Bool.false_eq_true, if_false, List.append_nil] at hs
      rw [hs, hk]
      refine ⟨i1, fun x => ?_, i3⟩
      rw [i2]
      constructor
      · rintro ⟨j, hj, e⟩
        exact ⟨j, by omega, e⟩
      · rintro ⟨j, hj, e⟩
        by_cases hjm : j < m + 1
        · exact ⟨j, hjm, e⟩
        · have : j = m + 1 := by omega
          subst this
          exact ⟨m, by omega, by rw [← hk]; exact e⟩
    · have hf : keeps d (m + 1) = true := keeps_pos hk
      rw [hf] at hs
      simp only [if_true] at hs
      rw [hs]
      have hlt : lt d[m]! d[m + 1]! = true := by
        cases e : lt d[m]! d[m + 1]! with
        | true => rfl
        | false => exact absurd (h.tri _ _ hw e) hk
      have hall : ∀ x ∈ compactUpTo d (m + 1), lt x d[m + 1]! = true := fun x hx => by
        rcases i3 x hx with rfl | hx
        · exact hlt
        · exact h.trans _ _ _ hx hlt
      refine ⟨List.pairwise_append.2 ⟨i1, by simp, fun x hx y hy => ?_⟩, fun x => ?_, fun x hx => ?_⟩
      · have : y = d[m + 1]! := by simpa using hy
        subst this
        exact hall x hx
      · rw [List.mem_append, i2]
        constructor
        · rintro (⟨j, hj, e⟩ | hx)
          · exact ⟨j, by omega, e⟩
          · exact ⟨m + 1, by omega, by have : x = d[m + 1]! := by simpa using hx
                                       exact this.symm⟩
        · rintro ⟨j, hj, e⟩
          by_cases hjm : j < m + 1
          · exact .inl ⟨j, hjm, e⟩
          · have : j = m + 1 := by omega
            subst this
            exact .inr (by simpa using e.symm)
      · rcases List.mem_append.1 hx with hx | hx
        · exact .inr (hall x hx)
        · exact .inl (by simpa using hx)
/-- Sorted and compacted: the same as put in one after the other. -/
theorem sort_compact (h : Ord lt) (xs : List α) : compactUpTo (xs.mergeSort fun x y => !(lt y x)).toArray (xs.mergeSort fun x y => !(lt y x)).toArray.size = xs.foldl (put lt) [] := by
  have hsort : (xs.mergeSort fun x y => !(lt y x)).Pairwise fun x y => (!(lt y x)) = true := by
    apply List.pairwise_mergeSort
    · intro a b c h1 h2
      cases e : lt c a with
      | false => rfl
      | true =>
        simp only [Bool.not_eq_true'] at h1 h2
        exfalso
        cases e2 : lt c b with
        | true => rw [h2] at e2; cases e2
        | false =>
          cases e3 : lt b c with
          | true =>
            have := h.trans _ _ _ e3 e
            rw [h1] at this
            cases this
          | false =>
            have := h.tri _ _ e2 e3
            subst this
            rw [h1] at e
            cases e
    · intro a b
      cases e : lt b a with
      | false => rfl
      | true => rw [h.asym e]; rfl
  have hmem : ∀ x, x ∈ (xs.mergeSort fun x y => !(lt y x)) ↔ x ∈ xs := fun x => List.mem_mergeSort
  generalize xs.mergeSort (fun x y => !(lt y x)) = s at hsort hmem
  have hss : SS lt (compactUpTo s.toArray s.toArray.size) ∧ ∀ x, x ∈ compactUpTo s.toArray s.toArray.size ↔ x ∈ s := by
    cases s with
    | nil => exact ⟨by simp [compactUpTo, SS], fun x => by simp [compactUpTo]⟩
    | cons a r =>
      have hc := compact_ss h (a :: r).toArray (fun i j hij hj => by
        have hj' : j < (a :: r).length := by simpa using hj
        have := List.pairwise_iff_getElem.1 hsort i j (by omega) hj' hij
        have e1 : (a :: r).toArray[j]! = (a :: r)[j] := by rw [getElem!_pos (a :: r).toArray j hj]; simp
        have e2 : (a :: r).toArray[i]! = (a :: r)[i]'(by omega) := by rw [getElem!_pos (a :: r).toArray i (by omega)]; simp
        rw [e1, e2]
        simpa using this) r.length (by simp)
      have hsz : (a :: r).toArray.size = r.length + 1 := by simp
      rw [hsz]
      refine ⟨hc.1, fun x => ?_⟩
      rw [hc.2.1]
      constructor
      · rintro ⟨j, hj, e⟩
        rw [getElem!_pos (a :: r).toArray j (by rw [hsz]; exact hj)] at e
        rw [← e]
        simp
      · intro hx
        obtain ⟨j, hj, e⟩ := List.getElem_of_mem hx
        refine ⟨j, by simpa using hj, ?_⟩
        rw [getElem!_pos (a :: r).toArray j (by simpa using hj)]
        simpa using e
  refine ss_uniq h _ _ hss.1 (ss_fold h xs [] (by simp [SS])) (fun x => ?_)
  rw [hss.2, hmem, mem_fold]
  simp
end
end Go.Proofs.Ytdjbdpgdhpobfaa.M
/- What a world is behind a row that is laid anew, and behind blocks that are made. -/
namespace Go.Proofs.Ytdjbdpgdhpobfaa.Pr
open Go.RowKit Go.Sort Go.Proofs.YtdjbdpgdhpobfaaW.PrintWords Go.Proofs.YtdjbdpgdhpobfaaW.PrintLast Go.Proofs.YtdjbdpgdhpobfaaW.PrintMore
theorem blk_putRow {w : World} {g : Nat} {cur : Array Value} {ty : TypeId} {fr : Nat × Nat} (F : Array Value) (hb : w.heap[g]? = some (.cells cur ty fr)) : (putRow id w g 0 F).heap[g]? = some (.cells (putCells id 0 F cur) ty fr) := by
  show (w.heap.modify g (onCells (putCells id 0 F)))[g]? = _
  rw [Array.getElem?_modify, if_pos rfl, hb]
  rfl
theorem below_putRow {w : World} {g base : Nat} (F : Array Value) (hg : base ≤ g) : Below base w (putRow id w g 0 F) :=
  ⟨rfl, rfl, rfl, by rw [show (putRow id w g 0 F).heap.size = w.heap.size from by simp [putRow, mapBlock]]; exact Nat.le_refl _, fun k hk => by
    show (w.heap.modify g (onCells (putCells id 0 F)))[k]? = _
    rw [Array.getElem?_modify, if_neg (by omega)]⟩
theorem below_grow {w : World} {base : Nat} (os : Array Obj) (hb : base ≤ w.heap.size) : Below base w (grow w os) :=
  ⟨rfl, rfl, rfl, by show _ ≤ (w.heap ++ os).size; simp, fun k hk => by
    show (w.heap ++ os)[k]? = _
    rw [Array.getElem?_append_left (by omega)]⟩
theorem kept_putRow {w : World} {g : Nat} {S : Nat → Prop} (F : Array Value) (hg : S g) : Kept w (putRow id w g 0 F) S :=
  ⟨by rw [show (putRow id w g 0 F).heap.size = w.heap.size from by simp [putRow, mapBlock]]; exact Nat.le_refl _, fun k hk hn => by
    show (w.heap.modify g (onCells (putCells id 0 F)))[k]? = _
    rw [Array.getElem?_modify, if_neg (fun e : g = k => hn (e ▸ hg))]⟩
theorem kept_grow {w : World} {S : Nat → Prop} (os : Array Obj) : Kept w (grow w os) S :=
  ⟨by show _ ≤ (w.heap ++ os).size; simp, fun k hk hn => by
    show (w.heap ++ os)[k]? = _
    rw [Array.getElem?_append_left hk]⟩
theorem kept_ahead {w : World} {S : Nat → Prop} (n : Nat) : Kept w (Sort.ahead w n) S := ⟨Nat.le_refl _, fun _ _ _ => rfl⟩
theorem below_ahead {w : World} {base : Nat} (n : Nat) : Below base w (Sort.ahead w n) := ⟨rfl, rfl, rfl, Nat.le_refl _, fun _ _ => rfl⟩
theorem unfrozen {w : World} {g : Nat} {cur : Array Value} {ty : TypeId} (hb : w.heap[g]? = some (.cells cur ty (0, 0))) (j : Nat) : w.frozen? ⟨g, j, none⟩ = false := by
  unfold World.frozen?
  simp [hb]
theorem size_putCells_id (off : Nat) (F c : Array Value) : (putCells id off F c).size = c.size := by simp [putCells]
end Go.Proofs.Ytdjbdpgdhpobfaa.Pr
/- What the comparison of two chords does to the world: it draws, and lays blocks of its own, nothing else. -/
namespace Go.Proofs.Ytdjbdpgdhpobfaa.Pr
open Go.RowKit Go.Proofs.YtdjbdpgdhpobfaaW.PrintWords Go.Proofs.YtdjbdpgdhpobfaaW.PrintLast Go.Proofs.YtdjbdpgdhpobfaaW.PrintMore
def Gr (w w' : World) : Prop := ∃ q os', w' = Sort.grow (w.drewN q) os'
theorem Gr.refl (w : World) : Gr w w := ⟨0, #[], by simp [Sort.grow, World.drewN]⟩
theorem Gr.drewN {w w' : World} (h : Gr w w') (n : Nat) : Gr w (w'.drewN n) := by
  obtain ⟨q, os, rfl⟩ := h
  exact ⟨q + n, os, by simp [Sort.grow, World.drewN, Nat.add_assoc]⟩
theorem Gr.drew {w w' : World} (h : Gr w w') : Gr w w'.drew := h.drewN 1
theorem Gr.alloc {w w' : World} (h : Gr w w') (o : Obj) : Gr w (w'.alloc o) := by
  obtain ⟨q, os, rfl⟩ := h
  exact ⟨q, os ++ #[o], by rw [Sort.alloc_eq_grow, Sort.grow_grow]⟩
theorem two_reads (X : World) (a b : Int) : Kd.C (Kd.int .i64) (X.alloc (.cells #[.int .i64 a, .int .i64 b] 3)) (some ⟨X.heap.size, 0, none⟩) 2 [a, b] := by
  refine ⟨rfl, by simp, fun _ => ⟨_, rfl, fun j p hj => ⟨[.int .i64 p], rfl, rfl, fun i u hu => ?_⟩⟩⟩
  have hi : i = 0 := by
    have := (List.getElem?_eq_some_iff.1 hu).1
    simp at this
    exact this
  subst hi
  obtain rfl := oI hu
  have h0 : (X.alloc (.cells #[.int .i64 a, .int .i64 b] 3)).cell? ⟨X.heap.size, 0, none⟩ = some (.int .i64 a) := by simp
  have h1 : (X.alloc (.cells #[.int .i64 a, .int .i64 b] 3)).cell? ⟨X.heap.size, 1, none⟩ = some (.int .i64 b) := by simp
  match j, hj with
  | 0, hj => (obtain rfl := oI hj; exact h0)
  | 1, hj => (obtain rfl := oI hj; exact h1)
  | j + 2, hj => simp at hj
set_option maxHeartbeats 8000000 in
set_option maxRecDepth 100000 in
theorem compareChords_grow (k : Nat) (x y : S60) (t163 t164 t168 : Int) (w : World) (h1 : cmp_Compare_int.f x.f0 y.f0 = some t163) (h2 : cmp_Compare_int.f x.f1 y.f1 = some t164) (h3 : cmp_Or_int.f k [t163, t164] = some t168) :
    Calls Try.prog 42 #[.agg #[.int .i64 x.f0, .int .i64 x.f1], .agg #[.int .i64 y.f0, .int .i64 y.f1]] w fun e w' => e = .returned (.int .i64 t168) ∧ Gr w w' := by
  have hu60 := Try.underlying60
  have A3 := Aside0.mk h1
  have A4 := Aside0.mk h2
  have A5 := Aside0.mk h3
  clear h1 h2 h3
  go_enter Try.func42, Try.ntmps42
  go_wp2
  obtain ⟨W7, hW7⟩ : ∃ W7, (w.alloc (.cells #[.int .i64 x.f0, .int .i64 x.f1] 60)).alloc (.cells #[.int .i64 y.f0, .int .i64 y.f1] 60) = W7 := ⟨_, rfl⟩
  have G7 := Aside0.mk (show Gr w W7 from hW7 ▸ ((Gr.refl w).alloc _).alloc _)
  have FA0 : W7.cell? ⟨w.heap.size, 0, none⟩ = some (.int .i64 x.f0) := by rw [← hW7]; simp
  have FA1 : W7.cell? ⟨w.heap.size, 1, none⟩ = some (.int .i64 x.f1) := by rw [← hW7]; simp
  have FB0 : W7.cell? ⟨w.heap.size + 1, 0, none⟩ = some (.int .i64 y.f0) := by rw [← hW7]; simp
  have FB1 : W7.cell? ⟨w.heap.size + 1, 1, none⟩ = some (.int .i64 y.f1) := by rw [← hW7]; simp
  rw [hW7]
  clear hW7
  refine start_ (n := 13) (S := fun w' => w'.cell? ⟨w.heap.size, 0, none⟩ = some (.int .i64 x.f0) ∧ w'.cell? ⟨w.heap.size, 1, none⟩ = some (.int .i64 x.f1) ∧ w'.cell? ⟨(w.heap.size + 1), 0, none⟩ = some (.int .i64 y.f0) ∧ w'.cell? ⟨(w.heap.size + 1), 1, none⟩ = some (.int .i64 y.f1)) (ds := []) #[false, false, false, false, false, false, false, false, false, false, false, false, false] (by kernel_rfl) rfl rfl ⟨FA0, FA1, FB0, FB1⟩ (fun hHeld => ?_); refine with_tabW impl_compareChords.tab1 impl_compareChords.bits1 (fun HT_ HW_ => ?_)
  refine pure_ (i := 0) (N := some 5) (v := ?_) (a' := ?_) #[true, false, false, false, false, false, false, false, false, false, false, false, false] rfl rfl (any_of HT_.out (by kernel_rfl)) (fun _ _ _ h => h) (Or.inl ⟨by rfl, ?_⟩) ?_ ?_
  rotate_left
  · intro w'
    go_simp
    with_reducible rfl
  rotate_left
  · simp only [Act.put, sT, sZ, sS, i64_w, i32_w]
    rfl
  refine pure_ (i := 2) (N := some 7) (v := ?_) (a' := ?_) #[true, false, true, false, false, false, false, false, false, false, false, false, false] rfl rfl (any_of HT_.out (by kernel_rfl)) (fun _ _ _ h => h) (Or.inl ⟨by rfl, ?_⟩) ?_ ?_
  rotate_left
  · intro w'
    go_simp
    with_reducible rfl
  rotate_left
  · simp only [Act.put, sT, sZ, sS, i64_w, i32_w]
    rfl
  refine pure_ (i := 5) (N := some 10) (v := ?_) (a' := ?_) #[true, false, true, false, false, true, false, false, false, false, false, false, false] rfl rfl (any_of HT_.out (by kernel_rfl)) (fun _ _ _ h => h) (Or.inl ⟨by rfl, ?_⟩) ?_ ?_
  rotate_left
  · intro w'
    go_simp
    with_reducible rfl
  rotate_left
  · simp only [Act.put, sT, sZ, sS, i64_w, i32_w]
    rfl
  refine pure_ (i := 7) (N := some 12) (v := ?_) (a' := ?_) #[true, false, true, false, false, true, false, true, false, false, false, false, false] rfl rfl (any_of HT_.out (by kernel_rfl)) (fun _ _ _ h => h) (Or.inl ⟨by rfl, ?_⟩) ?_ ?_
  rotate_left
  · intro w'
    go_simp
    with_reducible rfl
  rotate_left
  · simp only [Act.put, sT, sZ, sS, i64_w, i32_w]
    rfl
  refine take_ (i := 1) (N := some 6) (v := ?_) (a' := ?_) #[true, true, true, false, false, true, false, true, false, false, false, false, false] rfl rfl (take_ofW HT_.out HW_.out (by kernel_rfl)) (fun _ _ _ h => h) (Or.inl ⟨by rfl, ?_⟩) hHeld ?_ ?_
  rotate_left
  · rintro w' ⟨s0, s1, s2, s3⟩
    go_simp
    with_reducible rfl
  rotate_left
  · simp only [Act.put, sT, sZ, sS, i64_w, i32_w]
    rfl
  refine take_ (i := 3) (N := some 8) (v := ?_) (a' := ?_) #[true, true, true, true, false, true, false, true, false, false, false, false, false] rfl rfl (take_ofW HT_.out HW_.out (by kernel_rfl)) (fun _ _ _ h => h) (Or.inl ⟨by rfl, ?_⟩) hHeld ?_ ?_
  rotate_left
  · rintro w' ⟨s0, s1, s2, s3⟩
    go_simp
    with_reducible rfl
  rotate_left
  · simp only [Act.put, sT, sZ, sS, i64_w, i32_w]
    rfl
  refine take_ (i := 6) (N := some 11) (v := ?_) (a' := ?_) #[true, true, true, true, false, true, true, true, false, false, false, false, false] rfl rfl (take_ofW HT_.out HW_.out (by kernel_rfl)) (fun _ _ _ h => h) (Or.inl ⟨by rfl, ?_⟩) hHeld ?_ ?_
  rotate_left
  · rintro w' ⟨s0, s1, s2, s3⟩
    go_simp
    with_reducible rfl
  rotate_left
  · simp only [Act.put, sT, sZ, sS, i64_w, i32_w]
    rfl
  refine take_ (i := 8) (N := some 13) (v := ?_) (a' := ?_) #[true, true, true, true, false, true, true, true, true, false, false, false, false] rfl rfl (take_ofW HT_.out HW_.out (by kernel_rfl)) (fun _ _ _ h => h) (Or.inl ⟨by rfl, ?_⟩) hHeld ?_ ?_
  rotate_left
  · rintro w' ⟨s0, s1, s2, s3⟩
    go_simp
    with_reducible rfl
  rotate_left
  · simp only [Act.put, sT, sZ, sS, i64_w, i32_w]
    rfl
  refine one_ (i := 4) (N := some 9) #[true, true, true, true, true, true, true, true, true, false, false, false, false] rfl rfl (one_of HT_.out (by kernel_rfl)) (by decide) (fun K hK => ?_)
  refine goes_ Try.func66 (by kernel_rfl) rfl #[.int .i64 x.f0, .int .i64 y.f0] (by rfl) rfl rfl ar_ ?_
  with_reducible refine (cmp_Compare_int.calls x.f0 y.f0 t163 _ A3.out).mono ?_
  rintro e w' ⟨rfl, ⟨nd1, rfl⟩⟩
  refine ⟨_, rfl, ?_⟩
  refine hK.out _ _ ⟨FA0, FA1, FB0, FB1⟩ (fun hHeld => ?_)
  clear hK K
  refine norm_ (a' := ?_) ?_ ?_
  rotate_left
  · show Act.put _ (some 9) _ = _
    simp only [Act.put, sT, sZ, sS, i64_w, i32_w]
    rfl
  refine one_ (i := 9) (N := some 14) #[true, true, true, true, true, true, true, true, true, true, false, false, false] rfl rfl (one_of HT_.out (by kernel_rfl)) (by decide) (fun K hK => ?_)
  refine goes_ Try.func66 (by kernel_rfl) rfl #[.int .i64 x.f1, .int .i64 y.f1] (by rfl) rfl rfl ar_ ?_
  with_reducible refine (cmp_Compare_int.calls x.f1 y.f1 t164 _ A4.out).mono ?_
  rintro e w' ⟨rfl, ⟨nd, rfl⟩⟩
  refine ⟨_, rfl, ?_⟩
  refine hK.out _ _ ⟨FA0, FA1, FB0, FB1⟩ (fun hHeld => ?_)
  clear hK K
  refine norm_ (a' := ?_) ?_ ?_
  rotate_left
  · show Act.put _ (some 14) _ = _
    simp only [Act.put, sT, sZ, sS, i64_w, i32_w]
    rfl
  refine one_ (i := 10) (N := some 15) #[true, true, true, true, true, true, true, true, true, true, true, false, false] rfl rfl (one_of HT_.out (by kernel_rfl)) (by decide) (fun K hK => ?_)
  have FL : ∀ (X : World) (o : Obj) {ad : Addr} {v : Value}, X.cell? ad = some v → (X.alloc o).cell? ad = some v := fun X o {ad v} h => Lib.cell?_alloc_some _ h
  refine event_step (v := .slice (some ⟨W7.heap.size, 0, none⟩) 2 2) (w1 := ((W7.drew.drewN nd1).drewN nd).alloc (.cells #[.int .i64 t163, .int .i64 t164] 3)) (by rfl) ?hr ?_
  (case hr => first | (go_simp; done) | (go_simp; rfl))
  refine hK.out _ _ ⟨FL _ _ FA0, FL _ _ FA1, FL _ _ FB0, FL _ _ FB1⟩ (fun hHeld => ?_)
  clear hK K
  refine norm_ (a' := ?_) ?_ ?_
  rotate_left
  · show Act.put _ (some 15) _ = _
    simp only [Act.put, sT, sZ, sS, i64_w, i32_w]
    rfl
  refine one_ (i := 11) (N := some 16) #[true, true, true, true, true, true, true, true, true, true, true, true, false] rfl rfl (one_of HT_.out (by kernel_rfl)) (by decide) (fun K hK => ?_)
  refine goes_ Try.func65 (by kernel_rfl) rfl #[.slice (some ⟨W7.heap.size, 0, none⟩) 2 2] (by rfl) rfl rfl ar_ ?_
  refine (cmp_Or_int.calls k (some ⟨W7.heap.size, 0, none⟩) 2 [t163, t164] t168 _ ?side1 (by simp) A5.out).mono ?_
  (case side1 => exact two_reads _ t163 t164)
  rintro e w' ⟨rfl, ⟨nd, rfl⟩⟩
  refine ⟨_, rfl, ?_⟩
  refine hK.out _ _ ⟨FL _ _ FA0, FL _ _ FA1, FL _ _ FB0, FL _ _ FB1⟩ (fun hHeld => ?_)
  clear hK K
  refine norm_ (a' := ?_) ?_ ?_
  rotate_left
  · show Act.put _ (some 16) _ = _
    simp only [Act.put, sT, sZ, sS, i64_w, i32_w]
    rfl
  refine pure_ (i := 12) (N := some 4) (v := ?_) (a' := ?_) #[true, true, true, true, true, true, true, true, true, true, true, true, true] rfl rfl (any_of HT_.out (by kernel_rfl)) (fun _ _ _ h => h) (Or.inl ⟨by rfl, ?_⟩) ?_ ?_
  rotate_left
  · intro w'
    go_simp
    with_reducible rfl
  rotate_left
  · simp only [Act.put, sT, sZ, sS, i64_w, i32_w]
    rfl
  refine done_ (done_of HT_.out (by kernel_rfl)) ?_
  try go_wp2
  go_ret
  exact ⟨rfl, by repeat (first | exact G7.out | apply Gr.drewN | apply Gr.drew | apply Gr.alloc)⟩
end Go.Proofs.Ytdjbdpgdhpobfaa.Pr
/- A row of chords of the call's own, laid open cell by cell and put together again. -/
namespace Go.Proofs.Ytdjbdpgdhpobfaa.Pr
open Go.RowKit Go.Sort Go.Proofs.YtdjbdpgdhpobfaaW.PrintWords Go.Proofs.YtdjbdpgdhpobfaaW.PrintLast Go.Proofs.YtdjbdpgdhpobfaaW.PrintMore
instance : Inhabited S60 := ⟨z60⟩
instance : DecidableEq S60 := fun x y =>
  match x, y with
  | ⟨a, b⟩, ⟨c, d⟩ => if h : a = c ∧ b = d then isTrue (by rw [h.1, h.2]) else isFalse (fun e => h (by injection e with e1 e2; exact ⟨e1, e2⟩))
def encL (x : S60) : List Value := [.int .i64 x.f0, .int .i64 x.f1]
theorem encL_length (x : S60) : (encL x).length = 2 := rfl
/-- The cells of the elements. -/
def RowAt (W : World) (g : Nat) (xs : List S60) : Prop := ∀ i (h : i < xs.length), W.cell? ⟨g, i * 2, none⟩ = some (.int .i64 xs[i].f0) ∧ W.cell? ⟨g, i * 2 + 1, none⟩ = some (.int .i64 xs[i].f1)
theorem holds_of {W : World} {g : Nat} {xs : List S60} (hc : RowAt W g xs) (hf : ∀ j, W.frozen? ⟨g, j, none⟩ = false) : HoldsK encL 2 W g 0 xs.toArray := fun j hj => by
  have hj' : j < xs.length * 2 := by simpa using hj
  rw [Nat.zero_add]
  refine ⟨?_, hf j⟩
  rw [get_flatK _ _ _ _ (by simpa using hj')]
  have hd : j / 2 < xs.length := by omega
  have e : xs.toArray[j / 2]! = xs[j / 2] := by simp [hd]
  rw [e]
  obtain ⟨h1, h2⟩ := hc (j / 2) hd
  rcases Nat.mod_two_eq_zero_or_one j with hm | hm
  · rw [hm]
    have e2 : (⟨g, j, none⟩ : Addr) = ⟨g, j / 2 * 2, none⟩ := by congr 1; omega
    rw [e2]
    exact h1
  · rw [hm]
    have e2 : (⟨g, j, none⟩ : Addr) = ⟨g, j / 2 * 2 + 1, none⟩ := by congr 1; omega
    rw [e2]
    exact h2
theorem row_of_holds {W : World} {g : Nat} {d : Array S60} (h : HoldsK encL 2 W g 0 d) : RowAt W g d.toList := fun i hi => by
  have hi' : i < d.size := by simpa using hi
  have h0 := (HoldsK.cell h hi' (show 0 < 2 by omega)).1
  have h1 := (HoldsK.cell h hi' (show 1 < 2 by omega)).1
  rw [Nat.zero_add, getElem!_pos d i hi'] at h0 h1
  have e : d.toList[i] = d[i] := by simp
  rw [e]
  exact ⟨h0, h1⟩
/-- A row that is the call's own: empty, or a block whose first cells are the elements'. -/
theorem open_own {W : World} {base : Nat} {ok : Nat → Prop} {v : Value} {xs : List S60} (h : Kd.R k60 60 W base ok v xs) :
    (v = .slice none 0 0 ∧ xs = []) ∨ ∃ g cap cur, v = .slice (some ⟨g, 0, none⟩) xs.length cap ∧ ok g ∧ base ≤ g ∧ W.heap[g]? = some (.cells cur 60 (0, 0)) ∧ xs.length ≤ cap ∧ cap ≤ maxLen ∧ cur.size = cap * 2 ∧ RowAt W g xs := by
  obtain ⟨h0, inner, ho, hr⟩ := h
  obtain ⟨hl, hv⟩ := ho
  rcases hv with ⟨rfl, hn⟩ | ⟨g, cap, cur, rfl, hg, hb, hn, hm, hs, ht⟩
  · exact .inl ⟨rfl, List.eq_nil_of_length_eq_zero hn⟩
  · refine .inr ⟨g, cap, cur, rfl, h0 g rfl, hg, hb, hn, hm, hs, fun i hi => ?_⟩
    have hk2 := k60_openM (hr.2 i xs[i] (List.getElem?_eq_getElem hi))
    have hsz : k60.sz = 2 := rfl
    rw [hsz] at hk2 ht
    have e0 : ((inner.drop (i * 2)).take 2)[0]? = some (.int .i64 xs[i].f0) := by rw [hk2]; rfl
    have e1 : ((inner.drop (i * 2)).take 2)[1]? = some (.int .i64 xs[i].f1) := by rw [hk2]; rfl
    rw [List.getElem?_take_of_lt (by omega), List.getElem?_drop] at e0 e1
    have hq : ∀ q, q < xs.length * 2 → W.cell? ⟨g, q, none⟩ = inner[q]? := by
      intro q hq
      rw [blk_cell hb q, ← ht, List.getElem?_take_of_lt hq]
      simp
    exact ⟨by rw [hq _ (by omega)]; simpa using e0, by rw [hq _ (by omega)]; exact e1⟩
theorem shut_own {W : World} {base g cap : Nat} {ok : Nat → Prop} {cur : Array Value} {zs : List S60} (hok : ok g) (hg : base ≤ g) (hb : W.heap[g]? = some (.cells cur 60 (0, 0))) (hn : zs.length ≤ cap) (hm : cap ≤ maxLen) (hs : cur.size = cap * 2)
    (hc : RowAt W g zs) : Kd.R k60 60 W base ok (.slice (some ⟨g, 0, none⟩) zs.length cap) zs := by
  have hle : zs.length * 2 ≤ cur.size := by rw [hs]; exact Nat.mul_le_mul_right 2 hn
  refine ⟨fun k hk => by have : g = k := by simpa [Value.ownBlock] using hk
                         subst this; exact hok, cur.toList.take (zs.length * 2), ⟨?_, .inr ⟨g, cap, cur, rfl, hg, hb, hn, hm, hs, rfl⟩⟩, ?_, fun j p hj => ?_⟩
  · show (cur.toList.take (zs.length * 2)).length = zs.length * 2
    rw [List.length_take]
    exact Nat.min_eq_left (by rw [Array.length_toList]; exact hle)
  · show (cur.toList.take (zs.length * 2)).length = zs.length * 2
    rw [List.length_take]
    exact Nat.min_eq_left (by rw [Array.length_toList]; exact hle)
  · obtain ⟨hjl, rfl⟩ := List.getElem?_eq_some_iff.1 hj
    obtain ⟨h0, h1⟩ := hc j hjl
    rw [blk_cell hb] at h0 h1
    have hsz : k60.sz = 2 := rfl
    rw [hsz]
    have e : ((cur.toList.take (zs.length * 2)).drop (j * 2)).take 2 = [.int .i64 zs[j].f0, .int .i64 zs[j].f1] := by
      apply List.ext_getElem?
      intro q
      match q with
      | 0 =>
        rw [List.getElem?_take_of_lt (by omega), List.getElem?_drop, List.getElem?_take_of_lt (by omega)]
        simpa using h0
      | 1 =>
        rw [List.getElem?_take_of_lt (by omega), List.getElem?_drop, List.getElem?_take_of_lt (by omega)]
        simpa using h1
      | q + 2 =>
        rw [List.getElem?_eq_none (by rw [List.length_take]; omega), List.getElem?_eq_none (by simp)]
    rw [e]
    exact k60_mkM _ _ _ _
end Go.Proofs.Ytdjbdpgdhpobfaa.Pr
namespace Go.Proofs.Ytdjbdpgdhpobfaa.Pr
open Go.RowKit Go.Proofs.YtdjbdpgdhpobfaaW.PrintWords Go.Proofs.YtdjbdpgdhpobfaaW.PrintLast Go.Proofs.YtdjbdpgdhpobfaaW.PrintMore
attribute [local go_sem] max2_int min2_int max_two min_two max_three min_three max_four min_four
theorem eqA60 (d : Nat) (w : World) (x0 y0 : Int) (x1 y1 : Int) :
  (Op.equalIn (d + 2) 60 (.agg #[.int .i64 x0, .int .i64 x1]) (.agg #[.int .i64 y0, .int .i64 y1])).run Try.prog w = .ok (x0 == y0 && (x1 == y1)) w := by
 refine eqA_of Try.underlying60 (by kernel_rfl) ?_
 refine eqf_cons (by rfl) (by go_simp; rfl) (by go_simp; rfl) (by go_simp) ?_
 exact eqf_last (by rfl) (by go_simp; rfl) (by go_simp; rfl) (by go_simp)
end Go.Proofs.Ytdjbdpgdhpobfaa.Pr
/- What slices.Compact does to a row of chords of the call's own: the first of each run is kept. -/
namespace Go.Proofs.Ytdjbdpgdhpobfaa.Pr
open Go.RowKit Go.Sort Go.Lib Go.Proofs.YtdjbdpgdhpobfaaW.PrintWords Go.Proofs.YtdjbdpgdhpobfaaW.PrintLast Go.Proofs.YtdjbdpgdhpobfaaW.PrintMore
attribute [local go_sem high] eqA60
theorem setMany_one (d : Array S60) (i : Nat) (x : S60) (hi : i < d.size) : setMany (flatK encL 2 d) (i * 2) (encL x) = flatK encL 2 (d.setIfInBounds i x) := by
  refine ext_get! (by simp) fun t ht => ?_
  have ht' : t < d.size * 2 := by simpa using ht
  rw [get_setMany _ _ _ t (by simpa using ht'), get_flatK _ _ _ t ht', get_flatK _ _ _ t (by simpa using ht')]
  have hlen : (encL x).length = 2 := rfl
  rw [hlen]
  have hd : t / 2 < d.size := by omega
  by_cases a : t / 2 = i
  · rw [if_pos (by omega)]
    have e : (d.setIfInBounds i x)[t / 2]! = x := by rw [a]; simp [hi]
    rw [e, show t - i * 2 = t % 2 by omega]
  · rw [if_neg (by omega)]
    have e : (d.setIfInBounds i x)[t / 2]! = d[t / 2]! := by
      simp [Array.getElem!_eq_getD, Array.getD, Array.getElem_setIfInBounds, hd, Ne.symm a]
    rw [e]
theorem store_chord {w wr : World} {n blk : Nat} {dk : Array S60} {i : Nat} (hi : i < dk.size) (hwr : wr = putRowK encL 2 (Sort.ahead w n) blk 0 dk) (x : S60) :
    ((wr.drew).setCell ⟨blk, i * 2, none⟩ (.int .i64 x.f0)).setCell ⟨blk, i * 2 + 1, none⟩ (.int .i64 x.f1) = putRowK encL 2 (Sort.ahead w (n + 1)) blk 0 (dk.setIfInBounds i x) := by
  have h1 : wr.drew = putRowK encL 2 (Sort.ahead w (n + 1)) blk 0 dk := by
    have := putRowK_drewN encL 2 w n 1 blk 0 dk
    rw [← hwr] at this
    exact this
  rw [h1]
  have h2 := setCells_putRow (Sort.ahead w (n + 1)) blk 0 (encL x) (i * 2) (flatK encL 2 dk) (by rw [size_flatK]; show i * 2 + 2 ≤ _; omega)
  rw [setMany_one dk i x hi, Nat.zero_add] at h2
  exact h2
theorem eqB {x y : S60} (h : ¬ x = y) : (x.f0 == y.f0 && (x.f1 == y.f1)) = false := by
  rw [Bool.eq_false_iff]
  intro e
  simp only [Bool.and_eq_true, beq_iff_eq] at e
  obtain ⟨a, b⟩ := x
  obtain ⟨c, d⟩ := y
  exact h (by rw [show a = c from e.1, show b = d from e.2])
/-- The end of it: the cells of what is kept. -/
def CompEnd (w : World) (blk : Nat) (d : Array S60) (w' : World) : Prop :=
  ∃ q F, w' = putRow id (Sort.ahead w q) blk 0 F ∧ F.size = d.size * 2 ∧ ∀ j, j < (compactUpTo d d.size).length * 2 → F[j]! = (flatK encL 2 (compactUpTo d d.size).toArray)[j]!
theorem comp_same {w : World} {blk : Nat} {d : Array S60} (hH : HoldsK encL 2 w blk 0 d) (hall : ∀ j, j < d.size → keeps d j = true) (q : Nat) : (compactUpTo d d.size).length = d.size ∧ CompEnd w blk d (w.drewN q) := by
  have e : compactUpTo d d.size = d.toList := by rw [compactUpTo_all d _ hall, range_map_get]
  refine ⟨by rw [e]; simp, q, flatK encL 2 d, ?_, by simp, fun j hj => ?_⟩
  · exact (putRowK_self encL 2 (Sort.ahead w q) blk 0 d (holdsK_ahead encL 2 w q blk 0 d hH)).symm
  · rw [e]
def zerosCh (n : Nat) : List Value := (Builtin.zeroCells (Value.cells (.agg #[.int .i64 0, .int .i64 0])) n).toList
theorem zerosCh_length (n : Nat) : (zerosCh n).length = n * 2 := by simp [zerosCh, Builtin.zeroCells, Value.cells]
theorem run_clear_chord (w : World) (ty : TypeId) (b o n c : Nat) (hn : 0 < n) (hc : ∀ j, j < n * 2 → (w.cell? ⟨b, o + j, none⟩).isSome = true) (hf : ∀ j, j < n * 2 → w.frozen? ⟨b, o + j, none⟩ = false) :
    (Builtin.clear_ #[24] ty #[.slice (some ⟨b, o, none⟩) n c]).run Try.prog w = .ok (.tuple #[]) (w.setCells b o (zerosCh n)) := by
  have hv : ∀ w, (zeroValue 60).run Try.prog w = .ok (.agg #[.int .i64 0, .int .i64 0]) w := Try.zeroValue60
  have hone : ∀ v ∈ zerosCh n, v.oneCell' = true := by
    intro v hv
    simp [zerosCh, Builtin.zeroCells, Value.cells] at hv
    obtain ⟨i, hi, rfl⟩ := hv
    rcases Nat.mod_two_eq_zero_or_one i with h | h <;> simp [h, Value.oneCell']
  have hst := run_storeCells_cells (P := Try.prog) b o (zerosCh n) 0 w (fun j hj => by rw [Nat.add_zero]; exact hc j (by rw [zerosCh_length] at hj; exact hj)) (fun j hj => by rw [Nat.add_zero]; exact hf j (by rw [zerosCh_length] at hj; exact hj)) hone
  simp only [Nat.add_zero] at hst
  obtain ⟨m, rfl⟩ : ∃ m, n = m + 1 := ⟨n - 1, by omega⟩
  unfold zerosCh at hst ⊢
  simp [Builtin.clear_, run_underlying Try.underlying24, hv, hst]
theorem comp_end {w wr : World} {blk q2 kk : Nat} {d dk : Array S60} (hkk : kk ≤ d.size) (W2 : wr = putRowK encL 2 (Sort.ahead w q2) blk 0 dk) (I : CompInv d d.size kk dk) : CompEnd w blk d (wr.setCells blk (kk * 2) (zerosCh (d.size - kk))) := by
  have hsz := I.size
  refine ⟨q2, setMany (flatK encL 2 dk) (kk * 2) (zerosCh (d.size - kk)), ?_, by simp [hsz], fun j hj => ?_⟩
  · have h2 := setCells_putRow (Sort.ahead w q2) blk 0 (zerosCh (d.size - kk)) (kk * 2) (flatK encL 2 dk) (by rw [size_flatK, zerosCh_length]; omega)
    rw [Nat.zero_add] at h2
    rw [W2]
    exact h2
  · rw [I.len] at hj
    have hl : (compactUpTo d d.size).length = kk := I.len
    rw [get_setMany _ _ _ j (by rw [size_flatK]; omega), if_neg (by omega), get_flatK _ _ _ j (by omega), get_flatK _ _ _ j (by simp [hl]; omega)]
    have hlow := I.low (j / 2) (by omega)
    have e : (compactUpTo d d.size).toArray[j / 2]! = dk[j / 2]! := by
      have : j / 2 < (compactUpTo d d.size).length := by omega
      rw [getElem!_pos _ _ (by simpa using this)]
      rw [List.getElem?_eq_getElem this] at hlow
      simpa using oI hlow
    rw [e]
set_option maxHeartbeats 8000000 in
set_option maxRecDepth 1000000 in
theorem compact_chord (blk cap : Nat) (d : Array S60) (w : World) (hH : HoldsK encL 2 w blk 0 d) (hsz : d.size ≤ 4611686018427387904) (hcap : d.size ≤ cap) :
    Calls Try.prog 74 #[.slice (some ⟨blk, 0, none⟩) d.size cap] w fun e w' => e = .returned (.slice (some ⟨blk, 0, none⟩) (compactUpTo d d.size).length cap) ∧ CompEnd w blk d w' := by
  have hu60 := Try.underlying60
  by_cases h2 : d.size < 2
  · obtain ⟨e1, e2⟩ := comp_same hH (fun j hj => keeps_lt_one d j (by omega)) 0
    have E1 := Aside0.mk e1
    have E2 := Aside0.mk e2
    clear e1 e2 hH
    go_enter Try.func74, Try.ntmps74
    go_wp2
    go_ret
    exact ⟨by rw [E1.out]; rfl, E2.out⟩
  · have HH := Aside0.mk hH
    clear hH
    go_enter Try.func74, Try.ntmps74
    go_wp2
    go_loopg [3] d.size (fun g s3 wr => ∃ k q : Nat, Aside0 (1 ≤ k) ∧ Aside0 (k ≤ d.size) ∧ Aside0 (d.size - k ≤ g) ∧ s3 = .int .i64 k ∧ wr = w.drewN q ∧ Aside0 (∀ j, j < k → keeps d j = true))
    case atStart => exact ⟨1, 0, ⟨Nat.le_refl _⟩, ⟨by omega⟩, ⟨by omega⟩, rfl, rfl, ⟨keeps_lt_one d⟩⟩
    case round =>
      obtain ⟨k, q, K1, K2, KG, rfl, rfl, A⟩ := hrel
      have hk1 := K1.out
      have hk := K2.out
      by_cases hlt : k < d.size
      · obtain ⟨c1, f1⟩ := HoldsK.cell HH.out hlt (show 0 < 2 by omega)
        obtain ⟨c2, f2⟩ := HoldsK.cell HH.out hlt (show 1 < 2 by omega)
        obtain ⟨b1, _⟩ := HoldsK.cell HH.out (show k - 1 < d.size by omega) (show 0 < 2 by omega)
        obtain ⟨b2, _⟩ := HoldsK.cell HH.out (show k - 1 < d.size by omega) (show 1 < 2 by omega)
        obtain ⟨x, hx⟩ : ∃ x, d[k]! = x := ⟨_, rfl⟩
        obtain ⟨y, hy⟩ : ∃ y, d[k - 1]! = y := ⟨_, rfl⟩
        rw [hx] at c1 c2
        rw [hy] at b1 b2
        have B := Aside0.mk (show d[k]! = x ∧ d[k - 1]! = y from ⟨hx, hy⟩)
        clear hx hy
        simp only [Nat.zero_add, Nat.add_zero] at c1 c2 b1 b2 f1 f2
        change w.cell? ⟨blk, k * 2, none⟩ = some (.int .i64 x.f0) at c1
        change w.cell? ⟨blk, k * 2 + 1, none⟩ = some (.int .i64 x.f1) at c2
        change w.cell? ⟨blk, (k - 1) * 2, none⟩ = some (.int .i64 y.f0) at b1
        change w.cell? ⟨blk, (k - 1) * 2 + 1, none⟩ = some (.int .i64 y.f1) at b2
        by_cases hdup : x = y
        · subst hdup
          go_wp2_with fail
          go_region
          go_wp2
          clear c1 c2 b1 b2 f1 f2
          go_loopg [3, 5] d.size (fun g s3 s5 wr => ∃ (kk k2 q2 : Nat) (dk : Array S60), s3 = .int .i64 kk ∧ s5 = .int .i64 k2 ∧ Aside0 (1 ≤ k2) ∧ Aside0 (k + k2 ≤ d.size) ∧ Aside0 (d.size - (k + k2) ≤ g) ∧ Aside0 (wr = putRowK encL 2 (Sort.ahead w q2) blk 0 dk) ∧ Aside0 (CompInv d (k + k2) kk dk))
          case atStart => exact ⟨k, 1, q + 1, d, rfl, rfl, ⟨Nat.le_refl _⟩, ⟨by omega⟩, ⟨by omega⟩, ⟨(putRowK_self encL 2 (Sort.ahead w (q + 1)) blk 0 d (holdsK_ahead encL 2 w (q + 1) blk 0 d HH.out)).symm⟩, ⟨CompInv.start A.out (keeps_neg (by omega) (by rw [B.out.1, B.out.2]))⟩⟩
          case round =>
            obtain ⟨kk, k2, q2, dk, rfl, rfl, H1, HLE, HG2, W2, I2⟩ := hrel
            have h1 := H1.out
            have hle := HLE.out
            have hkk := I2.out.lt
            have hds := I2.out.size
            have hHk : HoldsK encL 2 wr blk 0 dk := by rw [W2.out]; exact holdsK_putRowK encL 2 _ blk 0 d dk (holdsK_ahead encL 2 w q2 blk 0 d HH.out) hds
            by_cases hlt2 : k + k2 < d.size
            · obtain ⟨c1, _⟩ := HoldsK.cell hHk (show k + k2 < dk.size by omega) (show 0 < 2 by omega)
              obtain ⟨c2, _⟩ := HoldsK.cell hHk (show k + k2 < dk.size by omega) (show 1 < 2 by omega)
              obtain ⟨b1, _⟩ := HoldsK.cell hHk (show k + k2 - 1 < dk.size by omega) (show 0 < 2 by omega)
              obtain ⟨b2, _⟩ := HoldsK.cell hHk (show k + k2 - 1 < dk.size by omega) (show 1 < 2 by omega)
              obtain ⟨o1, f1⟩ := HoldsK.cell hHk (show kk < dk.size by omega) (show 0 < 2 by omega)
              obtain ⟨o2, f2⟩ := HoldsK.cell hHk (show kk < dk.size by omega) (show 1 < 2 by omega)
              rw [I2.out.high (k + k2) (by omega)] at c1 c2
              rw [I2.out.high (k + k2 - 1) (by omega)] at b1 b2
              obtain ⟨u, hu⟩ : ∃ u, d[k + k2]! = u := ⟨_, rfl⟩
              obtain ⟨v, hv⟩ : ∃ v, d[k + k2 - 1]! = v := ⟨_, rfl⟩
              obtain ⟨o, ho⟩ : ∃ o, dk[kk]! = o := ⟨_, rfl⟩
              rw [hu] at c1 c2
              rw [hv] at b1 b2
              rw [ho] at o1 o2
              have C := Aside0.mk (show d[k + k2]! = u ∧ d[k + k2 - 1]! = v from ⟨hu, hv⟩)
              clear hu hv ho hHk
              simp only [Nat.zero_add, Nat.add_zero] at c1 c2 b1 b2 o1 o2 f1 f2
              rw [show (k + k2) * 2 = k * 2 + k2 * 2 by omega] at c1 c2
              rw [show (k + k2 - 1) * 2 = k * 2 + (k2 - 1) * 2 by omega] at b1 b2
              change wr.cell? ⟨blk, k * 2 + k2 * 2, none⟩ = some (.int .i64 u.f0) at c1
              change wr.cell? ⟨blk, k * 2 + k2 * 2 + 1, none⟩ = some (.int .i64 u.f1) at c2
              change wr.cell? ⟨blk, k * 2 + (k2 - 1) * 2, none⟩ = some (.int .i64 v.f0) at b1
              change wr.cell? ⟨blk, k * 2 + (k2 - 1) * 2 + 1, none⟩ = some (.int .i64 v.f1) at b2
              change wr.cell? ⟨blk, kk * 2, none⟩ = some (.int .i64 o.f0) at o1
              change wr.cell? ⟨blk, kk * 2 + 1, none⟩ = some (.int .i64 o.f1) at o2
              by_cases huv : u = v
              · subst huv
                go_wp2_with fail
                go_region
                go_wp2
                go_roundg (d.size - (k + (k2 + 1)))
                case measure => have := HG2.out; omega
                case rel => exact ⟨kk, k2 + 1, q2 + 1, dk, rfl, by go_num, ⟨by omega⟩, ⟨by omega⟩, ⟨Nat.le_refl _⟩, ⟨by rw [W2.out]; rfl⟩, ⟨I2.out.skip (keeps_neg (by omega) (by rw [C.out.1, C.out.2]))⟩⟩
              · have hb := eqB huv
                have D := Aside0.mk huv
                clear huv
                go_wp2_with fail
                go_region
                go_wp2
                go_roundg (d.size - (k + (k2 + 1)))
                case measure => have := HG2.out; omega
                case rel => exact ⟨kk + 1, k2 + 1, q2 + 1, dk.setIfInBounds kk u, by go_num, by go_num, ⟨by omega⟩, ⟨by omega⟩, ⟨Nat.le_refl _⟩, ⟨store_chord (by omega) W2.out u⟩, ⟨by have := I2.out.keep hlt2 (keeps_pos (by rw [C.out.1, C.out.2]; exact D.out)); rwa [C.out.1] at this⟩⟩
            · have hend : k + k2 = d.size := by omega
              have hfr : ∀ j, j < (d.size - kk) * 2 → (wr.cell? ⟨blk, kk * 2 + j, none⟩).isSome = true ∧ wr.frozen? ⟨blk, kk * 2 + j, none⟩ = false := fun j hj => by
                have := hHk (kk * 2 + j) (by rw [size_flatK]; omega)
                rw [Nat.zero_add] at this
                exact ⟨by rw [this.1]; rfl, this.2⟩
              have hcl : ∀ ty, (Builtin.clear_ #[24] ty #[.slice (some ⟨blk, kk * 2, none⟩) (d.size - kk) (cap - kk)]).run Try.prog wr = .ok (.tuple #[]) (wr.setCells blk (kk * 2) (zerosCh (d.size - kk))) :=
                fun ty => run_clear_chord wr ty blk (kk * 2) (d.size - kk) (cap - kk) (by omega) (fun j hj => (hfr j hj).1) (fun j hj => (hfr j hj).2)
              have hI := I2.out
              rw [hend] at hI
              have E1 := Aside0.mk hI.len
              have E2 := Aside0.mk (comp_end (by omega) W2.out hI)
              clear hHk hfr hI I2 W2
              go_wp2
              go_ret
              exact ⟨by rw [E1.out]; rfl, E2.out⟩
        · have hb := eqB hdup
          have D := Aside0.mk hdup
          clear hdup
          go_wp2_with fail
          go_region
          go_wp2
          go_roundg (d.size - (k + 1))
          case measure => have := KG.out; omega
          case rel =>
            refine ⟨k + 1, q + 1, ⟨by omega⟩, ⟨by omega⟩, ⟨Nat.le_refl _⟩, by go_num, rfl, ⟨fun j hj => ?_⟩⟩
            by_cases e : j = k
            · subst e
              exact keeps_pos (by rw [B.out.1, B.out.2]; exact D.out)
            · exact A.out j (by omega)
      · have hkd : k = d.size := by omega
        subst hkd
        obtain ⟨e1, e2⟩ := comp_same HH.out A.out q
        have E1 := Aside0.mk e1
        have E2 := Aside0.mk e2
        clear e1 e2
        go_wp2
        go_ret
        exact ⟨by rw [E1.out]; rfl, E2.out⟩
end Go.Proofs.Ytdjbdpgdhpobfaa.Pr
/-
  DERIVED: THE SHELF's CONTRACTS AT THIS DUMP, IN PLAIN WORDS (tools/lay-plain.mjs out of 'YtdjbdpgdhpobfaaSortLay.lean', which tools/lay-shelf.mjs wrote): THE SAME DECLARATIONS UNDER THE SAME NAMES: 'import', 'namespace', 'open', 'def', 'theorem' AND NOTHING ELSE: no command of the shelf's: FOR A HAND-IN. Each laying: the table of numbers ('.._ren') and one theorem, a field a fact of the dump's own or the kernel's comparison; each contract: ONE APPLICATION.
-/
namespace Go.Proofs
open Go.Shelf
def Try.sortCh_ren : Go.Shelf.Ren := ⟨fun | 6 => 73 | 15 => 76 | 14 => 75 | 28 => 85 | 29 => 86 | 20 => 77 | 21 => 78 | 22 => 79 | 23 => 80 | 24 => 81 | 25 => 82 | 26 => 83 | 27 => 84 | 46 => 87 | 47 => 88 | 48 => 89 | 49 => 90 | 50 => 91 | 57 => 92 | n => n, fun | 22 => 24 | 24 => 60 | 25 => 62 | 3 => 3 | 39 => 81 | 0 => 0 | 53 => 94 | 55 => 45 | 4 => 4 | 46 => 88 | 45 => 87 | 50 => 27 | 5 => 5 | 9 => 9 | 66 => 96 | 70 => 100 | 76 => 102 | 77 => 103 | n => n, fun | n => n⟩
theorem Try.sortCh : Go.Proofs.SlLaysF0.n6 Try.prog Try.sortCh_ren := {
  mixed := by kernel_rfl
  f6 := ⟨Try.f73.name, by decide, Try.func73.trans (congrArg some (by kernel_rfl))⟩
  f14 := ⟨Try.f75.name, by decide, Try.func75.trans (congrArg some (by kernel_rfl))⟩
  f15 := Try.func76.trans (congrArg some (by kernel_rfl))
  f20 := ⟨Try.f77.name, by decide, Try.func77.trans (congrArg some (by kernel_rfl))⟩
  f21 := ⟨Try.f78.name, by decide, Try.func78.trans (congrArg some (by kernel_rfl))⟩
  f22 := ⟨Try.f79.name, by decide, Try.func79.trans (congrArg some (by kernel_rfl))⟩
  f23 := ⟨Try.f80.name, by decide, Try.func80.trans (congrArg some (by kernel_rfl))⟩
  f24 := ⟨Try.f81.name, by decide, Try.func81.trans (congrArg some (by kernel_rfl))⟩
  f25 := ⟨Try.f82.name, by decide, Try.func82.trans (congrArg some (by kernel_rfl))⟩
  f26 := ⟨Try.f83.name, by decide, Try.func83.trans (congrArg some (by kernel_rfl))⟩
  f27 := ⟨Try.f84.name, by decide, Try.func84.trans (congrArg some (by kernel_rfl))⟩
  f28 := Try.func85.trans (congrArg some (by kernel_rfl))
  f29 := Try.func86.trans (congrArg some (by kernel_rfl))
  f46 := ⟨Try.f87.name, by decide, Try.func87.trans (congrArg some (by kernel_rfl))⟩
  f47 := Try.func88.trans (congrArg some (by kernel_rfl))
  f48 := Try.func89.trans (congrArg some (by kernel_rfl))
  f49 := ⟨Try.f90.name, by decide, Try.func90.trans (congrArg some (by kernel_rfl))⟩
  f50 := ⟨Try.f91.name, by decide, Try.func91.trans (congrArg some (by kernel_rfl))⟩
  f57 := ⟨Try.f92.name, by decide, Try.func92.trans (congrArg some (by kernel_rfl))⟩
  t0 := Try.underlying0
  a0 := Try.isAgg0
  z0 := Try.sizeOf0
  v0 := Try.zeroValue0
  t3 := Try.underlying3
  a3 := Try.isAgg3
  z3 := Try.sizeOf3
  v3 := Try.zeroValue3
  t4 := Try.underlying4
  a4 := Try.isAgg4
  z4 := Try.sizeOf4
  v4 := Try.zeroValue4
  t5 := Try.underlying5
  a5 := Try.isAgg5
  z5 := Try.sizeOf5
  v5 := Try.zeroValue5
  t9 := Try.underlying9
  a9 := Try.isAgg9
  z9 := Try.sizeOf9
  v9 := Try.zeroValue9
  t22 := Try.underlying24
  a22 := Try.isAgg24
  z22 := Try.sizeOf24
  v22 := Try.zeroValue24
  t25 := Try.underlying62
  a25 := Try.isAgg62
  z25 := Try.sizeOf62
  v25 := Try.zeroValue62
  t39 := Try.underlying81
  a39 := Try.isAgg81
  z39 := Try.sizeOf81
  v39 := Try.zeroValue81
  t45 := Try.underlying87
  a45 := Try.isAgg87
  z45 := Try.sizeOf87
  v45 := Try.zeroValue87
  t46 := Try.underlying88
  a46 := Try.isAgg88
  z46 := Try.sizeOf88
  v46 := Try.zeroValue88
  t50 := Try.underlying27
  a50 := Try.isAgg27
  z50 := Try.sizeOf27
  v50 := Try.zeroValue27
  t53 := Try.underlying94
  a53 := Try.isAgg94
  z53 := Try.sizeOf94
  v53 := Try.zeroValue94
  t55 := Try.underlying45
  a55 := Try.isAgg45
  z55 := Try.sizeOf45
  v55 := Try.zeroValue45
  t66 := Try.underlying96
  a66 := Try.isAgg96
  z66 := Try.sizeOf96
  v66 := Try.zeroValue96
  t70 := Try.underlying100
  a70 := Try.isAgg100
  z70 := Try.sizeOf100
  v70 := Try.zeroValue100
  t76 := Try.underlying102
  a76 := Try.isAgg102
  z76 := Try.sizeOf102
  v76 := Try.zeroValue102
  t77 := Try.underlying103
  a77 := Try.isAgg103
  z77 := Try.sizeOf103
  v77 := Try.zeroValue103 }
end Go.Proofs
/- What the program's `ordered` does to a row of chords of the call's own: the row in order, each chord once. -/
namespace Go.Proofs.Ytdjbdpgdhpobfaa.Pr
open Go.RowKit Go.Sort Go.Lib Go.Proofs.YtdjbdpgdhpobfaaW.PrintWords Go.Proofs.YtdjbdpgdhpobfaaW.PrintLast Go.Proofs.YtdjbdpgdhpobfaaW.PrintMore
/-- The sorted row. -/
def sortC (xs : List S60) : List S60 := xs.mergeSort fun x y => !(ltOf M.cmpC) y x
/-- The chords in order, each once. -/
def ordC (xs : List S60) : List S60 := compactUpTo (sortC xs).toArray (sortC xs).toArray.size
theorem ltC_iff (x y : S60) : (ltOf M.cmpC) x y = true ↔ (x.f0 < y.f0 ∨ x.f0 = y.f0 ∧ x.f1 < y.f1) := by
  unfold ltOf M.cmpC
  rw [decide_eq_true_iff]
  split
  · simp; omega
  · split
    · simp; omega
    · split
      · simp; omega
      · split
        · simp; omega
        · simp; omega
theorem ltC_not (x y : S60) : (ltOf M.cmpC) x y = false ↔ ¬ (x.f0 < y.f0 ∨ x.f0 = y.f0 ∧ x.f1 < y.f1) := by
  rw [← ltC_iff, Bool.not_eq_true]
theorem swoC : SWO (ltOf M.cmpC) where
  irrefl x := by rw [ltC_not]; omega
  trans x y z h1 h2 := by rw [ltC_iff] at *; omega
  ntrans x y z h1 h2 := by rw [ltC_not] at *; omega
theorem antC (x y : S60) (h1 : (ltOf M.cmpC) x y = false) (h2 : (ltOf M.cmpC) y x = false) : x = y := by
  rw [ltC_not] at h1 h2
  obtain ⟨a, b⟩ := x
  obtain ⟨c, d⟩ := y
  simp only at h1 h2
  rw [show a = c by omega, show b = d by omega]
theorem compareChords_lays (g size : Nat) (w : World) : Go.Proofs.CmpLays Try.prog 42 #[] encL 2 M.cmpC g 0 size w := fun m os dk hs x y => by
  obtain ⟨k, hk⟩ := M.or_ev (if x.f0 < y.f0 then -1 else if x.f0 > y.f0 then 1 else 0) (if x.f1 < y.f1 then -1 else if x.f1 > y.f1 then 1 else 0)
  have e : (if (if x.f0 < y.f0 then (-1 : Int) else if x.f0 > y.f0 then 1 else 0) = 0 then (if x.f1 < y.f1 then (-1 : Int) else if x.f1 > y.f1 then 1 else 0) else (if x.f0 < y.f0 then -1 else if x.f0 > y.f0 then 1 else 0)) = M.cmpC x y := by
    unfold M.cmpC
    by_cases h1 : x.f0 < y.f0
    · simp [h1]
    · by_cases h2 : x.f0 > y.f0
      · simp [h1, h2]
      · simp [h1, h2]
  have h := compareChords_grow k x y _ _ _ (sortWorldK encL 2 w g 0 m dk os) (M.compare_eq _ _) (M.compare_eq _ _) (hk k (Nat.le_refl k))
  rw [e] at h
  exact h
theorem compactUpTo_length_le (d : Array S60) (m : Nat) : (compactUpTo d m).length ≤ m := by
  unfold compactUpTo
  rw [List.length_map]
  exact Nat.le_trans (List.length_filter_le _ _) (by simp)
theorem sortC_length (xs : List S60) : (sortC xs).length = xs.length := by
  unfold sortC
  exact List.length_mergeSort xs
theorem ordC_length (xs : List S60) : (ordC xs).length ≤ xs.length := by
  unfold ordC
  refine Nat.le_trans (compactUpTo_length_le _ _) ?_
  simp [sortC_length]
theorem ordC_nil : ordC [] = [] := by simp [ordC, sortC, compactUpTo]
set_option maxHeartbeats 2000000 in
theorem compact_none (w : World) : Calls Try.prog 74 #[.slice none 0 0] w fun e w' => e = .returned (.slice none 0 0) ∧ Below w.heap.size w w' := by
  go_enter Try.func74, Try.ntmps74
  go_wp2
  go_ret
  exact ⟨rfl, Below.refl _ _⟩
theorem oneL : ∀ x : S60, ∀ v ∈ encL x, v.oneCell' = true := by
  intro x v hv
  simp [encL] at hv
  rcases hv with rfl | rfl <;> rfl
set_option maxHeartbeats 2000000 in
/-- The sort, at a row of the call's own. -/
theorem sort_chord (g cap : Nat) (xs : List S60) (w : World) (hH : HoldsK encL 2 w g 0 xs.toArray) (hg : g < w.heap.size) (hlen : xs.length < 4611686018427387904) :
    Calls Try.prog 73 #[.slice (some ⟨g, 0, none⟩) xs.length cap, .func (.func 42) #[] #[]] w fun e w' => e = .returned (.tuple #[]) ∧ ∃ n os, w' = sortWorldK encL 2 w g 0 n (sortC xs).toArray os := by
  have h := AnyQ.slices_SortFunc_total Try.sortCh 2 (fun w => Try.isAgg60 w) (fun w => Try.sizeOf60 w) encL encL_length oneL M.cmpC swoC 42 #[] g 0 cap xs.toArray w (enters_of Try.func42 (by kernel_rfl) rfl)
    (compareChords_lays g xs.toArray.size w) hH hg (by simpa using hlen) antC
  exact h
/-- Behind the sort and the compaction the row's first cells are the chords in order, each once. -/
theorem ord_end {w w1 w2 : World} {g cap n base : Nat} {ok : Nat → Prop} {os : Array Obj} {cur : Array Value} {xs : List S60} (hok : ok g) (hg : base ≤ g) (hB : base ≤ w.heap.size) (hb : w.heap[g]? = some (.cells cur 60 (0, 0))) (hn : xs.length ≤ cap) (hm : cap ≤ maxLen) (hs : cur.size = cap * 2)
    (hH : HoldsK encL 2 w g 0 xs.toArray) (e1 : w1 = sortWorldK encL 2 w g 0 n (sortC xs).toArray os) (h2 : CompEnd w1 g (sortC xs).toArray w2) :
    Kd.R k60 60 w2 base ok (.slice (some ⟨g, 0, none⟩) (ordC xs).length cap) (ordC xs) ∧ Below base w w2 ∧ Kept w w2 ok := by
  have hgs : g < w.heap.size := (Array.getElem?_eq_some_iff.1 hb).1
  have hH1 : HoldsK encL 2 w1 g 0 (sortC xs).toArray := by
    rw [e1]
    exact holdsK_sortWorldK_c encL 2 w g 0 xs.toArray (sortC xs).toArray n os hH hgs (by simp [sortC_length])
  have hb1 : w1.heap[g]? = some (.cells (putCells id 0 (flatK encL 2 (sortC xs).toArray) cur) 60 (0, 0)) := by
    rw [e1]
    show ((putRowK encL 2 (Sort.ahead w n) g 0 (sortC xs).toArray).heap ++ os)[g]? = _
    have := blk_putRow (w := Sort.ahead w n) (flatK encL 2 (sortC xs).toArray) hb
    rw [Array.getElem?_append_left (by rw [size_putRowK]; exact hgs)]
    exact this
  have hB1 : Below base w w1 := by
    rw [e1]
    refine ((below_ahead n).trans (below_putRow (flatK encL 2 (sortC xs).toArray) hg)).trans (below_grow os ?_)
    rw [show (putRow id (Sort.ahead w n) g 0 (flatK encL 2 (sortC xs).toArray)).heap.size = w.heap.size from by simp [putRow, mapBlock, Sort.ahead]]
    exact hB
  obtain ⟨q, F, e2, hF, hFj⟩ := h2
  have hb2 : w2.heap[g]? = some (.cells (putCells id 0 F (putCells id 0 (flatK encL 2 (sortC xs).toArray) cur)) 60 (0, 0)) := by
    rw [e2]
    exact blk_putRow (w := Sort.ahead w1 q) F hb1
  have hB2 : Below base w1 w2 := by
    rw [e2]
    exact (below_ahead q).trans (below_putRow F hg)
  have hK1 : Kept w w1 ok := by
    rw [e1]
    exact ((kept_ahead n).then_ (kept_putRow (flatK encL 2 (sortC xs).toArray) hok) (fun _ h => .inl h)).then_ (kept_grow os) (fun _ h => .inl h)
  have hK2 : Kept w1 w2 ok := by
    rw [e2]
    exact (kept_ahead q).then_ (kept_putRow F hok) (fun _ h => .inl h)
  have hholds : Holds id w2 g 0 F := by
    rw [e2]
    exact holds_putRow id (Sort.ahead w1 q) g 0 (flatK encL 2 (sortC xs).toArray) F hH1 (by rw [hF, size_flatK])
  have hle : (ordC xs).length * 2 ≤ F.size := by
    rw [hF]
    have := compactUpTo_length_le (sortC xs).toArray (sortC xs).toArray.size
    show (compactUpTo (sortC xs).toArray (sortC xs).toArray.size).length * 2 ≤ _
    omega
  have hK : HoldsK encL 2 w2 g 0 (ordC xs).toArray := fun j hj => by
    rw [size_flatK] at hj
    have hj' : j < (ordC xs).length * 2 := by simpa using hj
    obtain ⟨c1, f1⟩ := hholds j (by omega)
    refine ⟨?_, f1⟩
    rw [c1]
    exact congrArg some (hFj j hj')
  have hrow := row_of_holds hK
  refine ⟨shut_own hok hg hb2 (Nat.le_trans (ordC_length xs) hn) hm (by rw [size_putCells_id, size_putCells_id, hs]) ?_, hB1.trans hB2, hK1.then_ hK2 (fun _ h => .inl h)⟩
  simpa using hrow
set_option maxHeartbeats 4000000 in
/-- The program's `ordered`, at a row of the call's own. -/
theorem ordered_own (base : Nat) (ok : Nat → Prop) (v : Value) (xs : List S60) (w : World) (hr : Kd.R k60 60 w base ok v xs) (hB : base ≤ w.heap.size) (hlen : xs.length < 4611686018427387904) :
    Calls Try.prog 70 #[v] w fun e w' => ∃ v', e = .returned v' ∧ Kd.R k60 60 w' base ok v' (ordC xs) ∧ Below base w w' ∧ Kept w w' ok := by
  rcases open_own hr with ⟨rfl, rfl⟩ | ⟨g, cap, cur, rfl, hok, hg, hb, hn, hm, hs, hrow⟩
  · have h1 := Aside0.mk (fun (W : World) => AnyF.slices_SortFunc_none Try.sortCh none 0 (.func (.func 42) #[] #[]) W)
    have h2 := Aside0.mk (fun (W : World) => compact_none W)
    have HR := Aside0.mk (show Kd.R k60 60 w base ok (.slice none 0 0) (ordC []) from by rw [ordC_nil]; exact hr)
    have HB := Aside0.mk hB
    clear hr hB hlen
    go_enter Try.func70, Try.ntmps70
    go_wp2_with (first | (go_at_call 73; refine (h1.out _).mono ?_; rintro e w' ⟨rfl, rfl⟩) | (go_at_call 74; refine (h2.out _).mono ?_; rintro e w' ⟨rfl, hb2⟩))
    go_ret
    exact ⟨_, rfl, Kd.R_below HR.out hb2, hb2.mono HB.out, Kept.of_below hb2 _⟩
  · have hH := holds_of hrow (unfrozen hb)
    have hgs : g < w.heap.size := (Array.getElem?_eq_some_iff.1 hb).1
    have h1 := Aside0.mk (sort_chord g cap xs w hH hgs hlen)
    have h2 := Aside0.mk (fun (w1 : World) (n : Nat) (os : Array Obj) (e : w1 = sortWorldK encL 2 w g 0 n (sortC xs).toArray os) =>
      compact_chord g cap (sortC xs).toArray w1 (by rw [e]; exact holdsK_sortWorldK_c encL 2 w g 0 xs.toArray (sortC xs).toArray n os hH hgs (by simp [sortC_length])) (by simp [sortC_length]; omega) (by simp [sortC_length]; exact hn))
    have h3 := Aside0.mk (fun (w1 w2 : World) (n : Nat) (os : Array Obj) (e1 : w1 = sortWorldK encL 2 w g 0 n (sortC xs).toArray os) (h2 : CompEnd w1 g (sortC xs).toArray w2) => ord_end hok hg hB hb hn hm hs hH e1 h2)
    have hsz : (sortC xs).toArray.size = xs.length := by simp [sortC_length]
    rw [hsz] at h2
    have HS := Aside0.mk hsz
    clear hr hok hg hb hn hm hs hrow hH hgs hB hlen hsz
    go_enter Try.func70, Try.ntmps70
    go_wp2_with (first | (go_at_call 73; refine h1.out.mono ?_; rintro e w1 ⟨rfl, n, os, hw1⟩; have HW := Aside0.mk hw1; clear hw1) | (go_at_call 74; refine (h2.out _ n os HW.out).mono ?_; rintro e w2 ⟨rfl, hc⟩))
    go_ret
    obtain ⟨r1, r2⟩ := h3.out _ _ n os HW.out hc
    refine ⟨_, rfl, ?_, r2⟩
    have e : (compactUpTo (sortC xs).toArray xs.length) = ordC xs := by
      unfold ordC
      rw [HS.out]
    rw [e]
    exact r1
def impl_ordered.f (l0 : List (S60)) : Option (List (S60)) := if l0.length < 4611686018427387904 then some (ordC l0) else none
theorem impl_ordered.calls (P0_ : Nat → Prop) (u9000_ : Value) (l0 : List (S60)) (r : List (S60)) (w0 w : World) (hB : Below w0.heap.size w0 w) (ho0 : Kd.R k60 60 w w0.heap.size P0_ u9000_ l0) (h : impl_ordered.f l0 = some r) :
    Calls Try.prog 70 #[u9000_] w fun e w' => ∃ v0_ : Value, e = .returned (v0_) ∧ Kd.R k60 60 w' w0.heap.size (fun k_ => (P0_ k_ ∨ w.heap.size ≤ k_)) v0_ r ∧ Below w0.heap.size w0 w' ∧ Kept w w' (fun k_ => P0_ k_) := by
  unfold impl_ordered.f at h
  by_cases hl : l0.length < 4611686018427387904
  · rw [if_pos hl] at h
    obtain rfl := oI h
    exact (ordered_own w0.heap.size P0_ u9000_ l0 w ho0 hB.size hl).mono fun e w' ⟨v', he, hr, hb, hk⟩ => ⟨v', he, Kd.R_mono hr (fun _ h => .inl h), hB.trans hb, hk⟩
  · rw [if_neg hl] at h
    cases h
end Go.Proofs.Ytdjbdpgdhpobfaa.Pr
