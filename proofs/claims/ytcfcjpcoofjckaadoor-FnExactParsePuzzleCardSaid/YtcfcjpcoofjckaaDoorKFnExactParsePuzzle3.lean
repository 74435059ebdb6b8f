/- The program's ParsePuzzle returns what the reference's returns, for all arguments. (Part 4 of 5.) -/
import Derived.Test.YtcfcjpcoofjckaaDoorRows
import Derived.Stop.LaidErr
import Derived.MakeChecks
import Derived.Laws.Strings
import Derived.Lib.Bytealg
import Derived.Lib.Join
import Derived.Lib.ItoaNum
import Derived.Lib.SplitLaws
import Derived.Lib.IndexBytes
import Derived.Deep.Slices
import Derived.Deep.Fields
import Derived.ChangeSame
import Derived.ChangeShapes
import Derived.Below
import Derived.Carry
import Derived.Lib.SmallJoins
import Derived.RowKit
import Derived.OpenShut
import Derived.Test.YtcfcjpcoofjckaaDoorKFnExactParsePuzzle0
import Derived.Test.YtcfcjpcoofjckaaDoorKFnExactParsePuzzle1
import Derived.Test.YtcfcjpcoofjckaaDoorKFnExactParsePuzzle2
/- What the program's number reads: a numeral without needless signs, or -1. -/
namespace Go.Proofs.YtcfcjpcoofjckaaDoor.Pr
open Go.RowKit Go.Proofs.YtcfcjpcoofjckaaDoorW.PrintWords Go.Proofs.YtcfcjpcoofjckaaDoorW.PrintLast Go.Proofs.YtcfcjpcoofjckaaDoorW.PrintMore
set_option linter.unusedVariables false
set_option linter.unusedSimpArgs false

def numV (s : ByteArray) : Int :=
  match Lib.atoiAll s.data.toList with
  | .ok v => if v < 0 then -1 else if Lib.itoa v = s.data.toList then v else -1
  | _ => -1
def impl_number.f (a0 : ByteArray) : Option (Int) := if a0.size ≤ 140737488355328 then some (numV a0) else none
theorem atoi_below {l : List UInt8} {v : Int} (h : Lib.atoiAll l = .ok v) : v ≤ 9223372036854775807 := by
  unfold Lib.atoiAll at h
  split at h
  · cases h
  · rename_i c r
    dsimp only at h
    split at h
    · cases h
    · cases h
    · rename_i u hu
      split at h
      · cases h
      · split at h
        · cases h
        · injection h with h
          rename_i h1 h2
          split at h
          · omega
          · rename_i hn
            have : ¬ 9223372036854775808 ≤ u := fun e => h1 ⟨hn, e⟩
            omega

set_option maxHeartbeats 1000000 in
theorem impl_number.calls (a0 : ByteArray) (r : Int) (w : World) (h : impl_number.f a0 = some r) (hG : GrW w) :
    Calls Tryd.prog 24 #[.string a0] w fun e w' => e = .returned (.int .i64 r) ∧ Below w.heap.size w w' := by
  unfold impl_number.f at h
  by_cases hs : a0.size ≤ 140737488355328
  · rw [if_pos hs] at h
    obtain rfl := Option.some.inj h
    clear h
    unfold numV
    have HG := Aside0.mk hG
    cases hq : Lib.atoiAll a0.data.toList with
    | ok v =>
      have hv := atoi_below hq
      have HA := Aside0.mk (fun W => Tryd.atoiOk_ a0 (by omega) v hq W)
      clear hq
      have hbel : ∀ {W W' : World}, (W' = W ∨ ∃ t, W' = Lib.bytesWorld W (Tryd.c172_ren.t 5) t) → Below W.heap.size W W' := by
        rintro W W' (rfl | ⟨t, rfl⟩)
        · exact Below.refl _ _
        · exact Lib.bytesWorld_below _ _ _
      have HB := Aside0.mk @hbel
      clear hbel
      by_cases hn : v < 0
      · have e1 : decide (v < 0) = true := decide_eq_true hn
        dsimp only
        rw [if_pos hn]
        clear hG
        go_enter Tryd.func24, Tryd.ntmps24
        go_wp2_with (go_at_call 41; refine (HA.out _).mono ?_; rintro e w1 ⟨rfl, hw⟩; have hb := HB.out hw; clear hw)
        go_ret
        exact ⟨rfl, hb⟩
      · have e1 : decide (v < 0) = false := decide_eq_false hn
        dsimp only
        rw [if_neg hn]
        have HI := Aside0.mk (fun (W : World) (hb : Below w.heap.size w W) => Tryd.itoa_ v (by omega) hv W (HG.out.tab.go hb))
        by_cases he : Lib.itoa v = a0.data.toList
        · rw [if_pos he]
          have hst : (⟨(Lib.itoa v).toArray⟩ : ByteArray) = a0 := by rw [he]
          rw [hst] at HI
          clear hG he hst
          go_enter Tryd.func24, Tryd.ntmps24
          go_wp2_with (first | (go_at_call 41; refine (HA.out _).mono ?_; rintro e w1 ⟨rfl, hw⟩; have hb := HB.out hw; clear hw) | (go_at_call 19; refine (HI.out _ hb).mono ?_; rintro e w2 ⟨rfl, hb2⟩))
          go_ret
          exact ⟨rfl, hb.trans (hb2.mono hb.size)⟩
        · rw [if_neg he]
          obtain ⟨q, hq⟩ : ∃ q : ByteArray, q = ⟨(Lib.itoa v).toArray⟩ := ⟨_, rfl⟩
          have hne : (q.toList == a0.toList) = false := by
            rw [hq]
            apply beq_eq_false_iff_ne.2
            intro e
            rw [ByteArray.toList_eq, ByteArray.toList_eq] at e
            exact he e
          have hne2 : q.toList ≠ a0.toList := beq_eq_false_iff_ne.1 hne
          have hne3 : q ≠ a0 := fun e => hne2 (by rw [e])
          rw [← hq] at HI
          clear hG he hq
          go_enter Tryd.func24, Tryd.ntmps24
          go_wp2_with (first | (go_at_call 41; refine (HA.out _).mono ?_; rintro e w1 ⟨rfl, hw⟩; have hb := HB.out hw; clear hw) | (go_at_call 19; refine (HI.out _ hb).mono ?_; rintro e w2 ⟨rfl, hb2⟩))
          go_ret
          exact ⟨rfl, hb.trans (hb2.mono hb.size)⟩
    | «syntax» =>
      obtain ⟨t, p, ht⟩ := hG.syn
      have HA := Aside0.mk (Tryd.atoiSyn_ a0 (by omega) hq t p w ht)
      clear hq hG ht
      dsimp only
      go_enter Tryd.func24, Tryd.ntmps24
      go_wp2_with (go_at_call 41; refine (HA.out).mono ?_; rintro e w1 ⟨N, rfl, hb⟩)
      go_ret
      exact ⟨rfl, hb⟩
    | range =>
      obtain ⟨t, p, ht⟩ := hG.rng
      have HA := Aside0.mk (Tryd.atoiRng_ a0 (by omega) hq t p w ht)
      clear hq hG ht
      dsimp only
      go_enter Tryd.func24, Tryd.ntmps24
      go_wp2_with (go_at_call 41; refine (HA.out).mono ?_; rintro e w1 ⟨N, rfl, hb⟩)
      go_ret
      exact ⟨rfl, hb⟩
  · rw [if_neg hs] at h; cases h
end Go.Proofs.YtcfcjpcoofjckaaDoor.Pr

/- What the library's Split computes. -/
namespace Go.Proofs.YtcfcjpcoofjckaaDoor.Pr
open Go.RowKit Go.Proofs.YtcfcjpcoofjckaaDoorW.PrintWords Go.Proofs.YtcfcjpcoofjckaaDoorW.PrintLast Go.Proofs.YtcfcjpcoofjckaaDoorW.PrintMore
set_option linter.unusedVariables false
set_option linter.unusedSimpArgs false

def strings_Split.f (a0 : ByteArray) (a1 : ByteArray) : Option (List ByteArray) := if a0.size ≤ 4294967280 ∧ 1 ≤ a1.size ∧ Lib.countB a0 a1 ≤ 4294967280 then some (Lib.splitB a1 0 (Lib.countB a0 a1) a0) else none
theorem strings_Split.calls (a0 : ByteArray) (a1 : ByteArray) (r : List ByteArray) (w : World) (h : strings_Split.f a0 a1 = some r) (hG : GrW w) :
    Calls Tryd.prog 23 #[.string a0, .string a1] w fun e w' => ∃ v0_ : Value, e = .returned (v0_) ∧ Kd.R Kd.string 9 w' w.heap.size (fun _ => True) v0_ r ∧ Below w.heap.size w w' := by
  unfold strings_Split.f at h
  by_cases hs : a0.size ≤ 4294967280 ∧ 1 ≤ a1.size ∧ Lib.countB a0 a1 ≤ 4294967280
  · rw [if_pos hs] at h
    obtain rfl := Option.some.inj h
    obtain ⟨m, hm⟩ := hG.max
    refine (Tryd.split_ a0 a1 m w hm (by omega) hs.2.1).mono fun e w' ⟨he, hw⟩ => ⟨_, he, ?_, hw ▸ below_alloc (Below.refl _ _) _⟩
    subst hw
    have hl : (Lib.splitB a1 0 (Lib.countB a0 a1) a0).length = Lib.countB a0 a1 + 1 := Lib.splitB_all a1 hs.2.1 0 _ a0 rfl
    have hown := own_lit_of (enc := Value.string) w w.heap.size 9 (Lib.splitB a1 0 (Lib.countB a0 a1) a0) (Nat.le_refl _) (by omega)
    rw [hl] at hown
    exact Kd.R_of_own (h1 := fun _ => rfl) (xs := Lib.splitB a1 0 (Lib.countB a0 a1) a0) (by rw [hl]; exact hown) (fun _ _ => trivial)
  · rw [if_neg hs] at h; cases h
end Go.Proofs.YtcfcjpcoofjckaaDoor.Pr

-- Written by a program for this claim.
namespace Go.Proofs.YtcfcjpcoofjckaaDoor.Pr
open Go.RowKit Go.Proofs.YtcfcjpcoofjckaaDoorW.PrintWords Go.Proofs.YtcfcjpcoofjckaaDoorW.PrintLast Go.Proofs.YtcfcjpcoofjckaaDoorW.PrintMore
attribute [local go_sem] max2_int min2_int max_two min_two max_three min_three max_four min_four   -- for this text's walks alone
set_option linter.unusedVariables false
set_option linter.unusedSimpArgs false

/-! ### impl_ParsePuzzle: function 11 -/
def impl_ParsePuzzle.l0 : Nat → List ByteArray → Int → Int → List (S44) → Option ((List (S44)) × Bool)
  | 0, _, _, _, _ => none
  | k + 1, x13, x14, x15, x221000 => if x15 < x14 then (if 0 ≤ x15 then (if x15 < (x13.length : Int) then ((strings_Split.f (rdOf ByteArray.empty x13 x15) (⟨#[46]⟩ : ByteArray)).bind fun t226 => (if (t226.length : Int) = 3 then (if 0 < (t226.length : Int) then ((impl_number.f (rdOf ByteArray.empty t226 0)).bind fun t230 => (if 1 < (t226.length : Int) then ((impl_number.f (rdOf ByteArray.empty t226 1)).bind fun t232 => (if 2 < (t226.length : Int) then ((impl_number.f (rdOf ByteArray.empty t226 2)).bind fun t234 => (if x221000.length < 5864062014805 then (impl_ParsePuzzle.l0 k x13 x14 (wrap64 (x15 + 1)) (x221000 ++ [(⟨t230, t232, t234⟩ : S44)])) else (none))) else (none))) else (none))) else (none)) else (some (([] : List (S44)), false)))) else (none)) else (none)) else ((impl_IsPuzzle.f x221000).bind fun t224 => (if t224 = true then (some (x221000, true)) else (some (([] : List (S44)), false))))
def impl_ParsePuzzle.f (k : Nat) (a0 : ByteArray) : Option ((List (S44)) × Bool) := if a0.toList = ([] : List UInt8) then (some (([] : List (S44)), true)) else ((strings_Split.f a0 (⟨#[44]⟩ : ByteArray)).bind fun t221 => (impl_ParsePuzzle.l0 k t221 (t221.length : Int) 0 ([] : List (S44))))
theorem impl_ParsePuzzle.mono_l : ∀ k, (∀ y0 y1 y2 y3, LeO (impl_ParsePuzzle.l0 k y0 y1 y2 y3) (impl_ParsePuzzle.l0 (k + 1) y0 y1 y2 y3))
  | 0 => fun _ _ _ _ r h => by simp [impl_ParsePuzzle.l0] at h
  | k + 1 => by
    have ih0 := impl_ParsePuzzle.mono_l k
    · intro y0 y1 y2 y3
      unfold impl_ParsePuzzle.l0
      repeat' first
      | (with_reducible exact ih0 _ _ _ _)
      | (with_reducible exact LeO.refl _)
      | (with_reducible exact LeO.none _)
      | (with_reducible refine LeO.ite ?_ ?_)
      | (with_reducible refine LeO.bind ?_ (fun _ => ?_))
      | exact ih0 _ _ _ _
      | exact LeO.none _
      | refine LeO.ite ?_ ?_
      | refine LeO.bind ?_ (fun _ => ?_)
theorem impl_ParsePuzzle.mono : ∀ a0 k, LeO (impl_ParsePuzzle.f k a0) (impl_ParsePuzzle.f (k + 1) a0) := by
  intro a0 k
  have ih0 := impl_ParsePuzzle.mono_l k
  unfold impl_ParsePuzzle.f
  repeat' first
      | (with_reducible exact ih0 _ _ _ _)
      | (with_reducible exact LeO.refl _)
      | (with_reducible exact LeO.none _)
      | (with_reducible refine LeO.ite ?_ ?_)
      | (with_reducible refine LeO.bind ?_ (fun _ => ?_))
      | exact ih0 _ _ _ _
      | exact LeO.none _
      | refine LeO.ite ?_ ?_
      | refine LeO.bind ?_ (fun _ => ?_)
def impl_ParsePuzzle.T10 : Bool × List (List Nat × List Nat) := (true, [([], []), ([0], [0]), ([], []), ([2], [2]), ([3], [3]), ([4], [4]), ([], []), ([6], [6]), ([7], [7]), ([8, 5], [8]), ([], []), ([10], [10]), ([11], [11]), ([12, 9], [12]), ([5, 9, 13], [5, 9, 13]), ([14], [14]), ([1, 15, 13], [1, 15]), ([0, 1, 2, 3, 4, 5, 6, 7, 8, 9, 10, 11, 12, 13, 14, 15, 16], []), ([17, 16, 16, 0, 1, 2, 3, 4, 5, 6, 7, 8, 9, 10, 11, 12, 13, 14, 15, 16], [16, 17])])
def impl_ParsePuzzle.B10 : List Nat := [0, 1, 0, 4, 12, 28, 0, 64, 192, 508, 0, 1024, 3072, 8188, 16380, 32764, 65535, 131071, 262143]
theorem impl_ParsePuzzle.tab10 : rtab .any (opsOf Tryd.f11 10) = impl_ParsePuzzle.T10 := by kernel_rfl
theorem impl_ParsePuzzle.bits10 : waitsOk impl_ParsePuzzle.T10.2 impl_ParsePuzzle.B10 = true := by kernel_rfl
set_option maxHeartbeats 8000000 in
set_option maxRecDepth 100000 in
theorem impl_ParsePuzzle.calls (k : Nat) (a0 : ByteArray) (r1 : List (S44)) (r2 : Bool) (w : World) (h : impl_ParsePuzzle.f k a0 = some (r1, r2)) (hG_ : GrW w) :
    Calls Tryd.prog 11 #[.string a0] w fun e w' => ∃ v0_ : Value, e = .returned (.tuple #[.agg #[v0_], .bool r2]) ∧ Kd.R k44 44 w' w.heap.size (fun _ => True) v0_ r1 ∧ Below w.heap.size w w' := by
  have HG_ := Aside0.mk hG_
  clear hG_
  have hu30 := Tryd.underlying30
  have hu44 := Tryd.underlying44
  have HB := Aside0.mk (Below.refl w.heap.size w)
  have H : (if a0.toList = ([] : List UInt8) then (some (([] : List (S44)), true)) else ((strings_Split.f a0 (⟨#[44]⟩ : ByteArray)).bind fun t221 => (impl_ParsePuzzle.l0 k t221 (t221.length : Int) 0 ([] : List (S44))))) = some (r1, r2) := h
  clear h
  by_cases c2 : a0.toList = ([] : List UInt8)
  · rw [if_pos c2] at H
    have c2b0 : (a0.toList == ([] : List UInt8)) = true := beq_iff_eq.mpr c2
    have c2b1 : (a0.toList != ([] : List UInt8)) = false := bne_eq_false_iff_eq.mpr c2
    clear c2
    simp only [Option.some.injEq, Prod.mk.injEq] at H
    obtain ⟨rfl, rfl⟩ := H
    go_enter Tryd.func11, Tryd.ntmps11
    go_wp2_with (first | ((with_reducible refine gate_dst (N := 2) rfl ?_); refine box_event ?hg (N := 2) ?hd (cs := #[.slice none 0 0]) (t := 30) ?hr ?_; (case hd => rfl); (case hg => rfl); (case hr => first | (go_simp; done) | (go_simp; rfl)); intro gb219 hg w3 hbox hb; have n0_ := Aside0.mk (below_step (by repeat (first | (with_reducible first | exact HB.out | apply below_alloc | apply pw_below_drewN | apply below_drew1) | exact HB.out)) hb); have n1_ := Aside0.mk (hbox); have n2_ := Aside0.mk ((by rw [hg]; exact (below_size (by repeat (first | (with_reducible first | exact HB.out | apply below_alloc | apply pw_below_drewN | apply below_drew1) | exact HB.out))) : w.heap.size ≤ gb219)); have n3_ := Aside0.mk ((by rw [hg]; exact (below_size (by repeat (first | (with_reducible first | exact HB.out | apply below_alloc | apply pw_below_drewN | apply below_drew1) | exact HB.out))) : w.heap.size ≤ gb219)); clear HB; have HB := n0_; have BK219 := n1_; have GW219 := n2_; have GE219 := n3_; clear n0_ n1_ n2_ n3_; clear hb hbox hg) | ((with_reducible refine gate_dst (N := 4) rfl ?_); refine box_event ?hg (N := 4) ?hd (cs := #[.slice none 0 0]) (t := 30) ?hr ?_; (case hd => rfl); (case hg => rfl); (case hr => first | (go_simp; done) | (go_simp; rfl)); intro gb220 hg w4 hbox hb; have n0_ := Aside0.mk (blk_below (g := gb219) (o := .cells #[.slice none 0 0] 30 (0, 0)) (by (with_reducible repeat (first | refine blk_drewN ?_ _ | refine blk_drew ?_ | refine blk_alloc ?_ _)); exact BK219.out) hb); have n1_ := Aside0.mk (below_step (by repeat (first | (with_reducible first | exact HB.out | apply below_alloc | apply pw_below_drewN | apply below_drew1 | refine below_set ?_ GE219.out) | exact HB.out)) hb); have n2_ := Aside0.mk (hbox); have n3_ := Aside0.mk ((by rw [hg]; exact (below_size (by repeat (first | (with_reducible first | exact HB.out | apply below_alloc | apply pw_below_drewN | apply below_drew1 | refine below_set ?_ GE219.out) | exact HB.out))) : w.heap.size ≤ gb220)); have n4_ := Aside0.mk ((by rw [hg]; exact (below_size (by repeat (first | (with_reducible first | exact HB.out | apply below_alloc | apply pw_below_drewN | apply below_drew1 | refine below_set ?_ GE219.out) | exact HB.out))) : w.heap.size ≤ gb220)); have n5_ := Aside0.mk ((by rw [hg]; exact Nat.ne_of_lt (blk_lt (g := gb219) (o := .cells #[.slice none 0 0] 30 (0, 0)) (by (with_reducible repeat (first | refine blk_drewN ?_ _ | refine blk_drew ?_ | refine blk_alloc ?_ _)); exact BK219.out)) : gb219 ≠ gb220)); have n6_ := Aside0.mk ((by rw [hg]; exact Nat.ne_of_gt (blk_lt (g := gb219) (o := .cells #[.slice none 0 0] 30 (0, 0)) (by (with_reducible repeat (first | refine blk_drewN ?_ _ | refine blk_drew ?_ | refine blk_alloc ?_ _)); exact BK219.out)) : gb220 ≠ gb219)); clear BK219; clear HB; have BK219 := n0_; have HB := n1_; have BK220 := n2_; have GW220 := n3_; have GE220 := n4_; have NB219_220 := n5_; have NB220_219 := n6_; clear n0_ n1_ n2_ n3_ n4_ n5_ n6_; clear hb hbox hg; have hnb5 := NB220_219.out; have hnc5 := NB219_220.out; have hcz6_0 : w4.cell? ⟨gb220, 0, none⟩ = some (.slice none 0 0) := (blk_cell BK220.out 0).trans rfl; have hfz6_0 := blk_frozen BK220.out 0; have hcz7_0 : w4.cell? ⟨gb219, 0, none⟩ = some (.slice none 0 0) := (blk_cell BK219.out 0).trans rfl; have hfz7_0 := blk_frozen BK219.out 0))
    refine bodyPost_ret (results_ct rfl _ _ gb219 30 #[.slice none 0 0] (0, 0) _ rfl (by (with_reducible repeat (first | refine blk_drewN ?_ _ | refine blk_drew ?_ | refine blk_alloc ?_ _)); refine blk_put (cs := #[.slice none 0 0]) ?_ 0 _ rfl; (with_reducible repeat (first | refine blk_drewN ?_ _ | refine blk_drew ?_ | refine blk_alloc ?_ _)); refine blk_far ?_ NB219_220.out _; (with_reducible repeat (first | refine blk_drewN ?_ _ | refine blk_drew ?_ | refine blk_alloc ?_ _)); exact BK219.out) Tryd.underlying30 rfl (by kernel_rfl)) rfl ?_
    exact ⟨_, by first | rfl | (simp [errW_none, errW_some] <;> rfl) | (simp [*, errW_none, errW_some] <;> rfl), by first | exact Kd.R_nil _ _ _ _ _ | exact Kd.N_nil _ _ _ _ _ | exact Kd.V_nil _ _ _ _ _ | exact Kd.Q_nil _ _ _ _ _ | exact Kd.S_nil _ _ _ _ _, by repeat (first | (with_reducible first | exact HB.out | apply below_alloc | apply pw_below_drewN | apply below_drew1 | refine below_set ?_ GE219.out | refine below_set ?_ GE220.out) | exact HB.out)⟩
  · rw [if_neg c2] at H
    have c2b0 : (a0.toList == ([] : List UInt8)) = false := beq_eq_false_iff_ne.mpr c2
    have c2b1 : (a0.toList != ([] : List UInt8)) = true := bne_iff_ne.mpr c2
    replace H := Option.bind_eq_some_iff.mp H
    obtain ⟨t221, A80, H⟩ := H
    replace H : (impl_ParsePuzzle.l0 k t221 (t221.length : Int) 0 ([] : List (S44))) = some (r1, r2) := H
    have A8 := Aside0.mk A80
    clear A80
    have H' := Aside0.mk H
    clear H
    go_enter Tryd.func11, Tryd.ntmps11
    go_wp2_with (first | ((with_reducible refine gate_dst (N := 2) rfl ?_); refine box_event ?hg (N := 2) ?hd (cs := #[.slice none 0 0]) (t := 30) ?hr ?_; (case hd => rfl); (case hg => rfl); (case hr => first | (go_simp; done) | (go_simp; rfl)); intro gb219 hg w9 hbox hb; have n0_ := Aside0.mk (below_step (by repeat (first | (with_reducible first | exact HB.out | apply below_alloc | apply pw_below_drewN | apply below_drew1) | exact HB.out)) hb); have n1_ := Aside0.mk (hbox); have n2_ := Aside0.mk ((by rw [hg]; exact (below_size (by repeat (first | (with_reducible first | exact HB.out | apply below_alloc | apply pw_below_drewN | apply below_drew1) | exact HB.out))) : w.heap.size ≤ gb219)); have n3_ := Aside0.mk ((by rw [hg]; exact (below_size (by repeat (first | (with_reducible first | exact HB.out | apply below_alloc | apply pw_below_drewN | apply below_drew1) | exact HB.out))) : w.heap.size ≤ gb219)); clear HB; have HB := n0_; have BK219 := n1_; have GW219 := n2_; have GE219 := n3_; clear n0_ n1_ n2_ n3_; clear hb hbox hg) | ((with_reducible refine gate_dst (N := 4) rfl ?_); refine box_event ?hg (N := 4) ?hd (cs := #[.slice none 0 0]) (t := 30) ?hr ?_; (case hd => rfl); (case hg => rfl); (case hr => first | (go_simp; done) | (go_simp; rfl)); intro gb220 hg w10 hbox hb; have n0_ := Aside0.mk (blk_below (g := gb219) (o := .cells #[.slice none 0 0] 30 (0, 0)) (by (with_reducible repeat (first | refine blk_drewN ?_ _ | refine blk_drew ?_ | refine blk_alloc ?_ _)); exact BK219.out) hb); have n1_ := Aside0.mk (below_step (by repeat (first | (with_reducible first | exact HB.out | apply below_alloc | apply pw_below_drewN | apply below_drew1 | refine below_set ?_ GE219.out) | exact HB.out)) hb); have n2_ := Aside0.mk (hbox); have n3_ := Aside0.mk ((by rw [hg]; exact (below_size (by repeat (first | (with_reducible first | exact HB.out | apply below_alloc | apply pw_below_drewN | apply below_drew1 | refine below_set ?_ GE219.out) | exact HB.out))) : w.heap.size ≤ gb220)); have n4_ := Aside0.mk ((by rw [hg]; exact (below_size (by repeat (first | (with_reducible first | exact HB.out | apply below_alloc | apply pw_below_drewN | apply below_drew1 | refine below_set ?_ GE219.out) | exact HB.out))) : w.heap.size ≤ gb220)); have n5_ := Aside0.mk ((by rw [hg]; exact Nat.ne_of_lt (blk_lt (g := gb219) (o := .cells #[.slice none 0 0] 30 (0, 0)) (by (with_reducible repeat (first | refine blk_drewN ?_ _ | refine blk_drew ?_ | refine blk_alloc ?_ _)); exact BK219.out)) : gb219 ≠ gb220)); have n6_ := Aside0.mk ((by rw [hg]; exact Nat.ne_of_gt (blk_lt (g := gb219) (o := .cells #[.slice none 0 0] 30 (0, 0)) (by (with_reducible repeat (first | refine blk_drewN ?_ _ | refine blk_drew ?_ | refine blk_alloc ?_ _)); exact BK219.out)) : gb220 ≠ gb219)); clear BK219; clear HB; have BK219 := n0_; have HB := n1_; have BK220 := n2_; have GW220 := n3_; have GE220 := n4_; have NB219_220 := n5_; have NB220_219 := n6_; clear n0_ n1_ n2_ n3_ n4_ n5_ n6_; clear hb hbox hg; have hnb11 := NB220_219.out; have hnc11 := NB219_220.out; have hcz12_0 : w10.cell? ⟨gb220, 0, none⟩ = some (.slice none 0 0) := (blk_cell BK220.out 0).trans rfl; have hfz12_0 := blk_frozen BK220.out 0) | ((with_reducible refine gate_callee (f := 23) rfl ?_); refine goesL_ (some 13) rfl rfl Tryd.func23 (by kernel_rfl) rfl #[.string a0, .string (⟨#[44]⟩ : ByteArray)] rfl (by (try simp only [List.map_toArray, List.map_cons, List.map_nil]); first | done | rfl | (simp only [List.length_drop, List.length_take]; rfl)) ?_; (with_reducible refine (strings_Split.calls a0 (⟨#[44]⟩ : ByteArray) t221 _ A8.out (HG_.out.go (by repeat (first | (with_reducible first | exact HB.out | apply below_alloc | apply pw_below_drewN | apply below_drew1 | refine below_set ?_ GE219.out | refine below_set ?_ GE220.out) | exact HB.out)))).mono ?_); rintro e w13 ⟨v222, rfl, ho0, hb⟩; refine ⟨_, rfl, ?_⟩; have n0_ := Aside0.mk (Kd.R_lower ho0 (below_size (by repeat (first | (with_reducible first | exact HB.out | apply below_alloc | apply pw_below_drewN | apply below_drew1 | refine below_set ?_ GE219.out | refine below_set ?_ GE220.out) | exact HB.out)))); have n1_ := Aside0.mk (blk_below (g := gb219) (o := .cells #[.slice none 0 0] 30 (0, 0)) (by (with_reducible repeat (first | refine blk_drewN ?_ _ | refine blk_drew ?_ | refine blk_alloc ?_ _)); refine blk_far ?_ NB219_220.out _; (with_reducible repeat (first | refine blk_drewN ?_ _ | refine blk_drew ?_ | refine blk_alloc ?_ _)); exact BK219.out) hb); have n2_ := Aside0.mk (blk_below (g := gb220) (o := .cells #[.slice none 0 0] 30 (0, 0)) (by (with_reducible repeat (first | refine blk_drewN ?_ _ | refine blk_drew ?_ | refine blk_alloc ?_ _)); refine blk_put (cs := #[.slice none 0 0]) ?_ 0 _ rfl; (with_reducible repeat (first | refine blk_drewN ?_ _ | refine blk_drew ?_ | refine blk_alloc ?_ _)); exact BK220.out) hb); have n3_ := Aside0.mk (below_step (by repeat (first | (with_reducible first | exact HB.out | apply below_alloc | apply pw_below_drewN | apply below_drew1 | refine below_set ?_ GE219.out | refine below_set ?_ GE220.out) | exact HB.out)) hb); clear BK219; clear BK220; clear HB; have HO223 := n0_; have BK219 := n1_; have BK220 := n2_; have HB := n3_; clear n0_ n1_ n2_ n3_; (try clear hb); (try clear hb2); (try clear hk); (try clear hi); (try clear ho0); obtain ⟨Ao14, co14, eo14⟩ := Kd.R_slice HO223.out; subst eo14))
    go_loopg [15] k (fun kq v15 w' => ∃ (x15_1 : Int) (x221000_1 : List (S44)) (u221000 : Value), v15 = .int .i64 x15_1 ∧ Aside0 (impl_ParsePuzzle.l0 kq t221 (t221.length : Int) x15_1 x221000_1 = some (r1, r2)) ∧ Aside0 (kq ≤ k) ∧ Aside0 (Kd.R Kd.string 9 w' w.heap.size (fun _ => True) (.slice Ao14 t221.length co14) t221) ∧ Aside0 (Kd.R k44 44 w' w.heap.size (fun _ => True) u221000 x221000_1) ∧ Aside0 (w'.heap[gb219]? = some (.cells #[(.slice none 0 0)] 30 (0, 0))) ∧ Aside0 (w'.heap[gb220]? = some (.cells #[u221000] 30 (0, 0))) ∧ Aside0 (Below w.heap.size w w'))
    case atStart => exact ⟨(0), (([] : List (S44))), (.slice none 0 0), (by first | rfl | (simp; done) | (simp [*]; done)), H', ⟨Nat.le_refl _⟩, ⟨by (with_reducible repeat (first | apply Kd.R_alloc | apply Kd.R_drewN | apply Kd.R_drew)); exact HO223.out⟩, ⟨by first | exact Kd.R_nil _ _ _ _ _ | exact Kd.N_nil _ _ _ _ _ | exact Kd.V_nil _ _ _ _ _ | exact Kd.Q_nil _ _ _ _ _ | exact Kd.S_nil _ _ _ _ _⟩, ⟨by (with_reducible repeat (first | refine blk_drewN ?_ _ | refine blk_drew ?_ | refine blk_alloc ?_ _)); exact BK219.out⟩, ⟨by (with_reducible repeat (first | refine blk_drewN ?_ _ | refine blk_drew ?_ | refine blk_alloc ?_ _)); exact BK220.out⟩, ⟨by repeat (first | (with_reducible first | exact HB.out | apply below_alloc | apply pw_below_drewN | apply below_drew1 | refine below_set ?_ GE219.out | refine below_set ?_ GE220.out) | exact HB.out)⟩⟩
    case round =>
      clear H'
      try clear c1
      try clear c2
      try clear c2b0
      try clear c2b1
      try clear p2
      try clear c5
      try clear c11
      try clear hcz12_0
      try clear hcz6_0
      try clear hcz7_0
      try clear hfz12_0
      try clear hfz6_0
      try clear hfz7_0
      obtain ⟨x15_1, x221000_1, u221000, rfl, HA, HK1, HO_13, HO_221000, BK219, BK220, HB⟩ := hrel
      cases gk with
      | zero => exact absurd HA.out (by simp [impl_ParsePuzzle.l0])
      | succ k1 =>
        have H := HA.out
        clear HA
        simp only [impl_ParsePuzzle.l0] at H
        by_cases c15 : x15_1 < (t221.length : Int)
        · rw [if_pos c15] at H
          have c15b0 : decide (x15_1 < (t221.length : Int)) = true := decide_eq_true c15
          clear c15
          by_cases c16 : 0 ≤ x15_1
          · rw [if_pos c16] at H
            have c16b0 : decide (0 ≤ x15_1) = true := decide_eq_true c16
            clear c16
            by_cases c17 : x15_1 < (t221.length : Int)
            · rw [if_pos c17] at H
              have c17b0 : decide (x15_1 < (t221.length : Int)) = true := decide_eq_true c17
              clear c17
              replace H := Option.bind_eq_some_iff.mp H
              obtain ⟨t226, A180, H⟩ := H
              replace H : (if (t226.length : Int) = 3 then (if 0 < (t226.length : Int) then ((impl_number.f (rdOf ByteArray.empty t226 0)).bind fun t230 => (if 1 < (t226.length : Int) then ((impl_number.f (rdOf ByteArray.empty t226 1)).bind fun t232 => (if 2 < (t226.length : Int) then ((impl_number.f (rdOf ByteArray.empty t226 2)).bind fun t234 => (if x221000_1.length < 5864062014805 then (impl_ParsePuzzle.l0 k1 t221 (t221.length : Int) (wrap64 (x15_1 + 1)) (x221000_1 ++ [(⟨t230, t232, t234⟩ : S44)])) else (none))) else (none))) else (none))) else (none)) else (some (([] : List (S44)), false))) = some (r1, r2) := H
              have A18 := Aside0.mk A180
              clear A180
              by_cases c19 : (t226.length : Int) = 3
              · rw [if_pos c19] at H
                have c19b0 : ((t226.length : Int) == 3) = true := beq_iff_eq.mpr c19
                have c19b1 : ((t226.length : Int) != 3) = false := bne_eq_false_iff_eq.mpr c19
                clear c19
                by_cases c20 : 0 < (t226.length : Int)
                · rw [if_pos c20] at H
                  have c20b0 : decide (0 < (t226.length : Int)) = true := decide_eq_true c20
                  have c20b1 : decide (0 < t226.length) = true := decide_eq_true (by omega)
                  clear c20
                  replace H := Option.bind_eq_some_iff.mp H
                  obtain ⟨t230, A210, H⟩ := H
                  replace H : (if 1 < (t226.length : Int) then ((impl_number.f (rdOf ByteArray.empty t226 1)).bind fun t232 => (if 2 < (t226.length : Int) then ((impl_number.f (rdOf ByteArray.empty t226 2)).bind fun t234 => (if x221000_1.length < 5864062014805 then (impl_ParsePuzzle.l0 k1 t221 (t221.length : Int) (wrap64 (x15_1 + 1)) (x221000_1 ++ [(⟨t230, t232, t234⟩ : S44)])) else (none))) else (none))) else (none)) = some (r1, r2) := H
                  have A21 := Aside0.mk A210
                  clear A210
                  by_cases c22 : 1 < (t226.length : Int)
                  · rw [if_pos c22] at H
                    have c22b0 : decide (1 < (t226.length : Int)) = true := decide_eq_true c22
                    have c22b1 : decide (1 < t226.length) = true := decide_eq_true (by omega)
                    clear c22
                    replace H := Option.bind_eq_some_iff.mp H
                    obtain ⟨t232, A230, H⟩ := H
                    replace H : (if 2 < (t226.length : Int) then ((impl_number.f (rdOf ByteArray.empty t226 2)).bind fun t234 => (if x221000_1.length < 5864062014805 then (impl_ParsePuzzle.l0 k1 t221 (t221.length : Int) (wrap64 (x15_1 + 1)) (x221000_1 ++ [(⟨t230, t232, t234⟩ : S44)])) else (none))) else (none)) = some (r1, r2) := H
                    have A23 := Aside0.mk A230
                    clear A230
                    by_cases c24 : 2 < (t226.length : Int)
                    · rw [if_pos c24] at H
                      have c24b0 : decide (2 < (t226.length : Int)) = true := decide_eq_true c24
                      have c24b1 : decide (2 < t226.length) = true := decide_eq_true (by omega)
                      clear c24
                      replace H := Option.bind_eq_some_iff.mp H
                      obtain ⟨t234, A250, H⟩ := H
                      replace H : (if x221000_1.length < 5864062014805 then (impl_ParsePuzzle.l0 k1 t221 (t221.length : Int) (wrap64 (x15_1 + 1)) (x221000_1 ++ [(⟨t230, t232, t234⟩ : S44)])) else (none)) = some (r1, r2) := H
                      have A25 := Aside0.mk A250
                      clear A250
                      by_cases c26 : x221000_1.length < 5864062014805
                      · rw [if_pos c26] at H
                        have LMc26 := Aside0.mk c26
                        clear c26
                        obtain ⟨y235, hy235⟩ : ∃ y_ : List (S44), y_ = (x221000_1 ++ [(⟨t230, t232, t234⟩ : S44)]) := ⟨_, rfl⟩
                        replace H : (impl_ParsePuzzle.l0 k1 t221 (t221.length : Int) (wrap64 (x15_1 + 1)) y235) = some (r1, r2) := by first | (rw [hy235]; with_reducible exact H) | (have H2_ := (Option.bind_some _ _).symm.trans H; rw [hy235]; with_reducible exact H2_) | (have H2_ := (Option.bind_some _ _).symm.trans H; with_reducible exact H2_) | with_reducible exact H | (rw [hy235]; exact H) | exact H
                        have Ny235 := Aside0.mk hy235
                        clear hy235
                        have H' := Aside0.mk H
                        clear H
                        have p225 : 0 ≤ (x15_1 : Int) := of_decide_eq_true (by first | (with_reducible assumption) | assumption)
                        have q225 : x15_1 < (t221.length : Int) := of_decide_eq_true (by first | (with_reducible assumption) | assumption)
                        obtain ⟨ad225, e225, hx225_0⟩ := Kd.at_string (Kd.R_reads' HO_13.out).2.2 x15_1 p225 q225
                        cases e225
                        replace p225 := eq_true p225
                        replace q225 := eq_true q225
                        try go_wp2_with (first | ((with_reducible refine gate_callee (f := 23) rfl ?_); refine goesL_ (some 20) rfl rfl Tryd.func23 (by kernel_rfl) rfl #[.string (rdOf ByteArray.empty t221 x15_1), .string (⟨#[46]⟩ : ByteArray)] rfl (by (try simp only [List.map_toArray, List.map_cons, List.map_nil]); first | done | rfl | (simp only [List.length_drop, List.length_take]; rfl)) ?_; (with_reducible refine (strings_Split.calls (rdOf ByteArray.empty t221 x15_1) (⟨#[46]⟩ : ByteArray) t226 _ A18.out (HG_.out.go (by repeat (first | (with_reducible first | exact HB.out | apply below_alloc | apply pw_below_drewN | apply below_drew1 | refine below_set ?_ GE219.out | refine below_set ?_ GE220.out) | exact HB.out)))).mono ?_); rintro e w27 ⟨v227, rfl, ho0, hb⟩; refine ⟨_, rfl, ?_⟩; have n0_ := Aside0.mk (Kd.R_elder' (by (with_reducible repeat (first | apply Kd.R_alloc | apply Kd.R_drewN | apply Kd.R_drew)); exact HO_13.out) (Kd.R_base ho0) hb); have n1_ := Aside0.mk (Kd.R_below (by (with_reducible repeat (first | apply Kd.R_alloc | apply Kd.R_drewN | apply Kd.R_drew)); exact HO_221000.out) hb); have n2_ := Aside0.mk (Kd.R_lower (Kd.R_new' ho0 (Kd.R_lt (by (with_reducible repeat (first | apply Kd.R_alloc | apply Kd.R_drewN | apply Kd.R_drew)); exact HO_13.out))) (below_size (by repeat (first | (with_reducible first | exact HB.out | apply below_alloc | apply pw_below_drewN | apply below_drew1 | refine below_set ?_ GE219.out | refine below_set ?_ GE220.out) | exact HB.out)))); have n3_ := Aside0.mk (blk_below (g := gb219) (o := .cells #[.slice none 0 0] 30 (0, 0)) (by (with_reducible repeat (first | refine blk_drewN ?_ _ | refine blk_drew ?_ | refine blk_alloc ?_ _)); exact BK219.out) hb); have n4_ := Aside0.mk (blk_below (g := gb220) (o := .cells #[u221000] 30 (0, 0)) (by (with_reducible repeat (first | refine blk_drewN ?_ _ | refine blk_drew ?_ | refine blk_alloc ?_ _)); exact BK220.out) hb); have n5_ := Aside0.mk (below_step (by repeat (first | (with_reducible first | exact HB.out | apply below_alloc | apply pw_below_drewN | apply below_drew1 | refine below_set ?_ GE219.out | refine below_set ?_ GE220.out) | exact HB.out)) hb); clear HO_13; clear HO_221000; clear BK219; clear BK220; clear HB; have HO_13 := n0_; have HO_221000 := n1_; have HO228 := n2_; have BK219 := n3_; have BK220 := n4_; have HB := n5_; clear n0_ n1_ n2_ n3_ n4_ n5_; (try clear hb); (try clear hb2); (try clear hk); (try clear hi); (try clear ho0); obtain ⟨Ao28, co28, eo28⟩ := Kd.R_slice HO228.out; subst eo28))
                        have n0_ := Aside0.mk (Kd.R_drew HO_13.out)
                        have n1_ := Aside0.mk (Kd.R_drew HO_221000.out)
                        have n2_ := Aside0.mk (Kd.R_drew HO228.out)
                        have n3_ := Aside0.mk (blk_drew BK219.out)
                        have n4_ := Aside0.mk (blk_drew BK220.out)
                        have n5_ := Aside0.mk (below_drew1 HB.out)
                        clear HO_13
                        clear HO_221000
                        clear HO228
                        clear BK219
                        clear BK220
                        clear HB
                        have HO_13 := n0_
                        have HO_221000 := n1_
                        have HO228 := n2_
                        have BK219 := n3_
                        have BK220 := n4_
                        have HB := n5_
                        clear n0_ n1_ n2_ n3_ n4_ n5_
                        have p229 : 0 ≤ (0 : Int) := (by omega)
                        have q229 : 0 < (t226.length : Int) := of_decide_eq_true (by first | (with_reducible assumption) | assumption)
                        obtain ⟨ad229, e229, hx229_0⟩ := Kd.at_string (Kd.R_reads' HO228.out).2.2 0 p229 q229
                        cases e229
                        have qi229 : (0 < t226.length) = True := eq_true (by omega)
                        (try rw [show ((0 : Int)).toNat = 0 from rfl] at hx229_0)
                        (try rw [Addr.add_zero'] at hx229_0)
                        replace p229 := eq_true p229
                        replace q229 := eq_true q229
                        have p231 : 0 ≤ (1 : Int) := (by omega)
                        have q231 : 1 < (t226.length : Int) := of_decide_eq_true (by first | (with_reducible assumption) | assumption)
                        obtain ⟨ad231, e231, hx231_0⟩ := Kd.at_string (Kd.R_reads' HO228.out).2.2 1 p231 q231
                        obtain rfl : ad229 = ad231 := (by injection e231)
                        (try simp only [show (1 : Int).toNat = 1 from rfl, Nat.reduceMul, Nat.reduceEqDiff, Go.Addr.add, ↓reduceIte] at hx231_0)
                        have qi231 : (1 < t226.length) = True := eq_true (by omega)
                        (try rw [show ((1 : Int)).toNat = 1 from rfl] at hx231_0)
                        replace p231 := eq_true p231
                        replace q231 := eq_true q231
                        have p233 : 0 ≤ (2 : Int) := (by omega)
                        have q233 : 2 < (t226.length : Int) := of_decide_eq_true (by first | (with_reducible assumption) | assumption)
                        obtain ⟨ad233, e233, hx233_0⟩ := Kd.at_string (Kd.R_reads' HO228.out).2.2 2 p233 q233
                        obtain rfl : ad229 = ad233 := (by injection e233)
                        (try simp only [show (2 : Int).toNat = 2 from rfl, Nat.reduceMul, Nat.reduceEqDiff, Go.Addr.add, ↓reduceIte] at hx233_0)
                        have qi233 : (2 < t226.length) = True := eq_true (by omega)
                        (try rw [show ((2 : Int)).toNat = 2 from rfl] at hx233_0)
                        replace p233 := eq_true p233
                        replace q233 := eq_true q233
                        refine start_ (n := 19) (S := fun w' => w'.cell? ⟨gb220, 0, none⟩ = some (u221000) ∧ w'.cell? ad229 = some (.string (rdOf ByteArray.empty t226 0)) ∧ w'.cell? ⟨ad229.block, ad229.off + 1, none⟩ = some (.string (rdOf ByteArray.empty t226 1)) ∧ w'.cell? ⟨ad229.block, ad229.off + 2, none⟩ = some (.string (rdOf ByteArray.empty t226 2))) (ds := [16, 18]) #[false, false, false, false, false, false, false, false, false, false, false, false, false, false, false, false, false, false, false] (by kernel_rfl) rfl rfl ⟨(blk_cell BK220.out 0).trans rfl, hx229_0, hx231_0, hx233_0⟩ (fun hHeld => ?_); refine with_tabW impl_ParsePuzzle.tab10 impl_ParsePuzzle.bits10 (fun HT_ HW_ => ?_)
                        generalize w27.drew = w29 at HO_13 HO_221000 HO228 BK219 BK220 HB hx229_0 hx231_0 hx233_0 hHeld ⊢
                        refine pure_ (i := 0) (N := some 25) (v := ?_) (a' := ?_) #[true, false, false, false, false, false, false, false, false, false, false, false, false, false, false, false, false, false, false] rfl rfl (any_of HT_.out (by kernel_rfl)) (fun _ _ _ h => h) (Or.inl ⟨by rfl, ?_⟩) ?_ ?_
                        rotate_left
                        · intro w'
                          go_simp
                          with_reducible rfl
                        rotate_left
                        · simp only [Act.put, List.setIfInBounds_toArray, List.set_cons_zero, List.set_cons_succ, i64_w, i32_w]
                          rfl
                        refine pure_ (i := 2) (N := some 27) (v := ?_) (a' := ?_) #[true, false, true, false, false, false, false, false, false, false, false, false, false, false, false, false, false, false, false] rfl rfl (any_of HT_.out (by kernel_rfl)) (fun _ _ _ h => h) (Or.inl ⟨by rfl, ?_⟩) ?_ ?_
                        rotate_left
                        · intro w'
                          go_simp
                          with_reducible rfl
                        rotate_left
                        · simp only [Act.put, List.setIfInBounds_toArray, List.set_cons_zero, List.set_cons_succ, i64_w, i32_w]
                          rfl
                        refine pure_ (i := 3) (N := some 28) (v := ?_) (a' := ?_) #[true, false, true, true, false, false, false, false, false, false, false, false, false, false, false, false, false, false, false] rfl rfl (any_of HT_.out (by kernel_rfl)) (fun _ _ _ h => h) (Or.inl ⟨by rfl, ?_⟩) ?_ ?_
                        rotate_left
                        · intro w'
                          go_simp
                          with_reducible rfl
                        rotate_left
                        · simp only [Act.put, List.setIfInBounds_toArray, List.set_cons_zero, List.set_cons_succ, i64_w, i32_w]
                          rfl
                        refine pure_ (i := 6) (N := some 31) (v := ?_) (a' := ?_) #[true, false, true, true, false, false, true, false, false, false, false, false, false, false, false, false, false, false, false] rfl rfl (any_of HT_.out (by kernel_rfl)) (fun _ _ _ h => h) (Or.inl ⟨by rfl, ?_⟩) ?_ ?_
                        rotate_left
                        · intro w'
                          go_simp
                          with_reducible rfl
                        rotate_left
                        · simp only [Act.put, List.setIfInBounds_toArray, List.set_cons_zero, List.set_cons_succ, i64_w, i32_w]
                          rfl
                        refine pure_ (i := 7) (N := some 32) (v := ?_) (a' := ?_) #[true, false, true, true, false, false, true, true, false, false, false, false, false, false, false, false, false, false, false] rfl rfl (any_of HT_.out (by kernel_rfl)) (fun _ _ _ h => h) (Or.inl ⟨by rfl, ?_⟩) ?_ ?_
                        rotate_left
                        · intro w'
                          go_simp
                          with_reducible rfl
                        rotate_left
                        · simp only [Act.put, List.setIfInBounds_toArray, List.set_cons_zero, List.set_cons_succ, i64_w, i32_w]
                          rfl
                        refine pure_ (i := 10) (N := some 35) (v := ?_) (a' := ?_) #[true, false, true, true, false, false, true, true, false, false, true, false, false, false, false, false, false, false, false] rfl rfl (any_of HT_.out (by kernel_rfl)) (fun _ _ _ h => h) (Or.inl ⟨by rfl, ?_⟩) ?_ ?_
                        rotate_left
                        · intro w'
                          go_simp
                          with_reducible rfl
                        rotate_left
                        · simp only [Act.put, List.setIfInBounds_toArray, List.set_cons_zero, List.set_cons_succ, i64_w, i32_w]
                          rfl
                        refine pure_ (i := 11) (N := some 36) (v := ?_) (a' := ?_) #[true, false, true, true, false, false, true, true, false, false, true, true, false, false, false, false, false, false, false] rfl rfl (any_of HT_.out (by kernel_rfl)) (fun _ _ _ h => h) (Or.inl ⟨by rfl, ?_⟩) ?_ ?_
                        rotate_left
                        · intro w'
                          go_simp
                          with_reducible rfl
                        rotate_left
                        · simp only [Act.put, List.setIfInBounds_toArray, List.set_cons_zero, List.set_cons_succ, i64_w, i32_w]
                          rfl
                        refine take_ (i := 1) (N := some 26) (v := ?_) (a' := ?_) #[true, true, true, true, false, false, true, true, false, false, true, true, false, false, false, false, false, false, false] rfl rfl (take_ofW HT_.out HW_.out (by kernel_rfl)) (fun _ _ _ h => h) (Or.inl ⟨by rfl, ?_⟩) hHeld ?_ ?_
                        rotate_left
                        · rintro w' ⟨s0, s1, s2, s3⟩
                          go_simp
                          with_reducible rfl
                        rotate_left
                        · simp only [Act.put, List.setIfInBounds_toArray, List.set_cons_zero, List.set_cons_succ, i64_w, i32_w]
                          rfl
                        refine take_ (i := 4) (N := some 29) (v := ?_) (a' := ?_) #[true, true, true, true, true, false, true, true, false, false, true, true, false, false, false, false, false, false, false] rfl rfl (take_ofW HT_.out HW_.out (by kernel_rfl)) (fun _ _ _ h => h) (Or.inl ⟨by rfl, ?_⟩) hHeld ?_ ?_
                        rotate_left
                        · rintro w' ⟨s0, s1, s2, s3⟩
                          go_simp
                          with_reducible rfl
                        rotate_left
                        · simp only [Act.put, List.setIfInBounds_toArray, List.set_cons_zero, List.set_cons_succ, i64_w, i32_w]
                          rfl
                        refine take_ (i := 8) (N := some 33) (v := ?_) (a' := ?_) #[true, true, true, true, true, false, true, true, true, false, true, true, false, false, false, false, false, false, false] rfl rfl (take_ofW HT_.out HW_.out (by kernel_rfl)) (fun _ _ _ h => h) (Or.inl ⟨by rfl, ?_⟩) hHeld ?_ ?_
                        rotate_left
                        · rintro w' ⟨s0, s1, s2, s3⟩
                          go_simp
                          with_reducible rfl
                        rotate_left
                        · simp only [Act.put, List.setIfInBounds_toArray, List.set_cons_zero, List.set_cons_succ, i64_w, i32_w]
                          rfl
                        refine take_ (i := 12) (N := some 37) (v := ?_) (a' := ?_) #[true, true, true, true, true, false, true, true, true, false, true, true, true, false, false, false, false, false, false] rfl rfl (take_ofW HT_.out HW_.out (by kernel_rfl)) (fun _ _ _ h => h) (Or.inl ⟨by rfl, ?_⟩) hHeld ?_ ?_
                        rotate_left
                        · rintro w' ⟨s0, s1, s2, s3⟩
                          go_simp
                          with_reducible rfl
                        rotate_left
                        · simp only [Act.put, List.setIfInBounds_toArray, List.set_cons_zero, List.set_cons_succ, i64_w, i32_w]
                          rfl
                        refine one_ (i := 5) (N := some 30) #[true, true, true, true, true, true, true, true, true, false, true, true, true, false, false, false, false, false, false] rfl rfl (one_of HT_.out (by kernel_rfl)) (by decide) (fun K hK => ?_)
                        refine goes_ Tryd.func24 (by kernel_rfl) rfl #[.string (rdOf ByteArray.empty t226 0)] (by rfl) rfl rfl (by (try simp only [List.map_toArray, List.map_cons, List.map_nil]); first | done | rfl | (simp only [List.length_drop, List.length_take]; rfl)) ?_
                        with_reducible refine (impl_number.calls (rdOf ByteArray.empty t226 0) t230 _ A21.out (HG_.out.go (by repeat (first | (with_reducible first | exact HB.out | apply below_alloc | apply pw_below_drewN | apply below_drew1 | refine below_set ?_ GE219.out | refine below_set ?_ GE220.out) | exact HB.out)))).mono ?_
                        rintro e w30 ⟨rfl, hb⟩
                        have HS1_ := (hb.cell (World.block_lt_of_cell? _ _ (hHeld.2.1))).trans (hHeld.2.1)
                        have HS2_ := (hb.cell (World.block_lt_of_cell? _ _ (hHeld.2.2.1))).trans (hHeld.2.2.1)
                        have HS3_ := (hb.cell (World.block_lt_of_cell? _ _ (hHeld.2.2.2))).trans (hHeld.2.2.2)
                        refine ⟨_, rfl, ?_⟩
                        have n0_ := Aside0.mk (Kd.R_below (by (with_reducible repeat (first | apply Kd.R_alloc | apply Kd.R_drewN | apply Kd.R_drew)); exact HO_13.out) hb)
                        have n1_ := Aside0.mk (Kd.R_below (by (with_reducible repeat (first | apply Kd.R_alloc | apply Kd.R_drewN | apply Kd.R_drew)); exact HO_221000.out) hb)
                        have n2_ := Aside0.mk (Kd.R_below (by (with_reducible repeat (first | apply Kd.R_alloc | apply Kd.R_drewN | apply Kd.R_drew)); exact HO228.out) hb)
                        have n3_ := Aside0.mk (blk_below (g := gb219) (o := .cells #[.slice none 0 0] 30 (0, 0)) (by (with_reducible repeat (first | refine blk_drewN ?_ _ | refine blk_drew ?_ | refine blk_alloc ?_ _)); exact BK219.out) hb)
                        have n4_ := Aside0.mk (blk_below (g := gb220) (o := .cells #[u221000] 30 (0, 0)) (by (with_reducible repeat (first | refine blk_drewN ?_ _ | refine blk_drew ?_ | refine blk_alloc ?_ _)); exact BK220.out) hb)
                        have n5_ := Aside0.mk (below_step (by repeat (first | (with_reducible first | exact HB.out | apply below_alloc | apply pw_below_drewN | apply below_drew1 | refine below_set ?_ GE219.out | refine below_set ?_ GE220.out) | exact HB.out)) hb)
                        clear HO_13
                        clear HO_221000
                        clear HO228
                        clear BK219
                        clear BK220
                        clear HB
                        have HO_13 := n0_
                        have HO_221000 := n1_
                        have HO228 := n2_
                        have BK219 := n3_
                        have BK220 := n4_
                        have HB := n5_
                        clear n0_ n1_ n2_ n3_ n4_ n5_
                        (try clear hb)
                        (try clear hb2)
                        (try clear hk)
                        (try clear hi)
                        refine hK.out _ _ ⟨(blk_cell BK220.out 0).trans rfl, HS1_, HS2_, HS3_⟩ (fun hHeld => ?_)
                        clear hK K
                        refine norm_ (a' := ?_) ?_ ?_
                        rotate_left
                        · show Act.put _ (some 30) _ = _
                          simp only [Act.put, List.setIfInBounds_toArray, List.set_cons_zero, List.set_cons_succ, i64_w, i32_w]
                          rfl
                        refine one_ (i := 9) (N := some 34) #[true, true, true, true, true, true, true, true, true, true, true, true, true, false, false, false, false, false, false] rfl rfl (one_of HT_.out (by kernel_rfl)) (by decide) (fun K hK => ?_)
                        refine goes_ Tryd.func24 (by kernel_rfl) rfl #[.string (rdOf ByteArray.empty t226 1)] (by rfl) rfl rfl (by (try simp only [List.map_toArray, List.map_cons, List.map_nil]); first | done | rfl | (simp only [List.length_drop, List.length_take]; rfl)) ?_
                        with_reducible refine (impl_number.calls (rdOf ByteArray.empty t226 1) t232 _ A23.out (HG_.out.go (by repeat (first | (with_reducible first | exact HB.out | apply below_alloc | apply pw_below_drewN | apply below_drew1 | refine below_set ?_ GE219.out | refine below_set ?_ GE220.out) | exact HB.out)))).mono ?_
                        rintro e w31 ⟨rfl, hb⟩
                        have HS1_ := (hb.cell (World.block_lt_of_cell? _ _ (hHeld.2.1))).trans (hHeld.2.1)
                        have HS2_ := (hb.cell (World.block_lt_of_cell? _ _ (hHeld.2.2.1))).trans (hHeld.2.2.1)
                        have HS3_ := (hb.cell (World.block_lt_of_cell? _ _ (hHeld.2.2.2))).trans (hHeld.2.2.2)
                        refine ⟨_, rfl, ?_⟩
                        have n0_ := Aside0.mk (Kd.R_below (by (with_reducible repeat (first | apply Kd.R_alloc | apply Kd.R_drewN | apply Kd.R_drew)); exact HO_13.out) hb)
                        have n1_ := Aside0.mk (Kd.R_below (by (with_reducible repeat (first | apply Kd.R_alloc | apply Kd.R_drewN | apply Kd.R_drew)); exact HO_221000.out) hb)
                        have n2_ := Aside0.mk (Kd.R_below (by (with_reducible repeat (first | apply Kd.R_alloc | apply Kd.R_drewN | apply Kd.R_drew)); exact HO228.out) hb)
                        have n3_ := Aside0.mk (blk_below (g := gb219) (o := .cells #[.slice none 0 0] 30 (0, 0)) (by (with_reducible repeat (first | refine blk_drewN ?_ _ | refine blk_drew ?_ | refine blk_alloc ?_ _)); exact BK219.out) hb)
                        have n4_ := Aside0.mk (blk_below (g := gb220) (o := .cells #[u221000] 30 (0, 0)) (by (with_reducible repeat (first | refine blk_drewN ?_ _ | refine blk_drew ?_ | refine blk_alloc ?_ _)); exact BK220.out) hb)
                        have n5_ := Aside0.mk (below_step (by repeat (first | (with_reducible first | exact HB.out | apply below_alloc | apply pw_below_drewN | apply below_drew1 | refine below_set ?_ GE219.out | refine below_set ?_ GE220.out) | exact HB.out)) hb)
                        clear HO_13
                        clear HO_221000
                        clear HO228
                        clear BK219
                        clear BK220
                        clear HB
                        have HO_13 := n0_
                        have HO_221000 := n1_
                        have HO228 := n2_
                        have BK219 := n3_
                        have BK220 := n4_
                        have HB := n5_
                        clear n0_ n1_ n2_ n3_ n4_ n5_
                        (try clear hb)
                        (try clear hb2)
                        (try clear hk)
                        (try clear hi)
                        refine hK.out _ _ ⟨(blk_cell BK220.out 0).trans rfl, HS1_, HS2_, HS3_⟩ (fun hHeld => ?_)
                        clear hK K
                        refine norm_ (a' := ?_) ?_ ?_
                        rotate_left
                        · show Act.put _ (some 34) _ = _
                          simp only [Act.put, List.setIfInBounds_toArray, List.set_cons_zero, List.set_cons_succ, i64_w, i32_w]
                          rfl
                        refine one_ (i := 13) (N := some 38) #[true, true, true, true, true, true, true, true, true, true, true, true, true, true, false, false, false, false, false] rfl rfl (one_of HT_.out (by kernel_rfl)) (by decide) (fun K hK => ?_)
                        refine goes_ Tryd.func24 (by kernel_rfl) rfl #[.string (rdOf ByteArray.empty t226 2)] (by rfl) rfl rfl (by (try simp only [List.map_toArray, List.map_cons, List.map_nil]); first | done | rfl | (simp only [List.length_drop, List.length_take]; rfl)) ?_
                        with_reducible refine (impl_number.calls (rdOf ByteArray.empty t226 2) t234 _ A25.out (HG_.out.go (by repeat (first | (with_reducible first | exact HB.out | apply below_alloc | apply pw_below_drewN | apply below_drew1 | refine below_set ?_ GE219.out | refine below_set ?_ GE220.out) | exact HB.out)))).mono ?_
                        rintro e w32 ⟨rfl, hb⟩
                        have HS1_ := (hb.cell (World.block_lt_of_cell? _ _ (hHeld.2.1))).trans (hHeld.2.1)
                        have HS2_ := (hb.cell (World.block_lt_of_cell? _ _ (hHeld.2.2.1))).trans (hHeld.2.2.1)
                        have HS3_ := (hb.cell (World.block_lt_of_cell? _ _ (hHeld.2.2.2))).trans (hHeld.2.2.2)
                        refine ⟨_, rfl, ?_⟩
                        have n0_ := Aside0.mk (Kd.R_below (by (with_reducible repeat (first | apply Kd.R_alloc | apply Kd.R_drewN | apply Kd.R_drew)); exact HO_13.out) hb)
                        have n1_ := Aside0.mk (Kd.R_below (by (with_reducible repeat (first | apply Kd.R_alloc | apply Kd.R_drewN | apply Kd.R_drew)); exact HO_221000.out) hb)
                        have n2_ := Aside0.mk (Kd.R_below (by (with_reducible repeat (first | apply Kd.R_alloc | apply Kd.R_drewN | apply Kd.R_drew)); exact HO228.out) hb)
                        have n3_ := Aside0.mk (blk_below (g := gb219) (o := .cells #[.slice none 0 0] 30 (0, 0)) (by (with_reducible repeat (first | refine blk_drewN ?_ _ | refine blk_drew ?_ | refine blk_alloc ?_ _)); exact BK219.out) hb)
                        have n4_ := Aside0.mk (blk_below (g := gb220) (o := .cells #[u221000] 30 (0, 0)) (by (with_reducible repeat (first | refine blk_drewN ?_ _ | refine blk_drew ?_ | refine blk_alloc ?_ _)); exact BK220.out) hb)
                        have n5_ := Aside0.mk (below_step (by repeat (first | (with_reducible first | exact HB.out | apply below_alloc | apply pw_below_drewN | apply below_drew1 | refine below_set ?_ GE219.out | refine below_set ?_ GE220.out) | exact HB.out)) hb)
                        clear HO_13
                        clear HO_221000
                        clear HO228
                        clear BK219
                        clear BK220
                        clear HB
                        have HO_13 := n0_
                        have HO_221000 := n1_
                        have HO228 := n2_
                        have BK219 := n3_
                        have BK220 := n4_
                        have HB := n5_
                        clear n0_ n1_ n2_ n3_ n4_ n5_
                        (try clear hb)
                        (try clear hb2)
                        (try clear hk)
                        (try clear hi)
                        refine hK.out _ _ ⟨(blk_cell BK220.out 0).trans rfl, HS1_, HS2_, HS3_⟩ (fun hHeld => ?_)
                        clear hK K
                        refine norm_ (a' := ?_) ?_ ?_
                        rotate_left
                        · show Act.put _ (some 38) _ = _
                          simp only [Act.put, List.setIfInBounds_toArray, List.set_cons_zero, List.set_cons_succ, i64_w, i32_w]
                          rfl
                        refine pure_ (i := 14) (N := some 39) (v := ?_) (a' := ?_) #[true, true, true, true, true, true, true, true, true, true, true, true, true, true, true, false, false, false, false] rfl rfl (any_of HT_.out (by kernel_rfl)) (fun _ _ _ h => h) (Or.inl ⟨by rfl, ?_⟩) ?_ ?_
                        rotate_left
                        · intro w'
                          go_simp
                          with_reducible rfl
                        rotate_left
                        · simp only [Act.put, List.setIfInBounds_toArray, List.set_cons_zero, List.set_cons_succ, i64_w, i32_w]
                          rfl
                        refine one_ (i := 15) (N := some 40) #[true, true, true, true, true, true, true, true, true, true, true, true, true, true, true, true, false, false, false] rfl rfl (one_of HT_.out (by kernel_rfl)) (by decide) (fun K hK => ?_)
                        refine value_ (w1 := ?_) (v := ?_) (by rfl) rfl ?_ ?_
                        rotate_left 2
                        · go_simp
                          constructor
                          · rfl
                          · rfl
                        refine hK.out _ _ ⟨(blk_cell (blk_alloc BK220.out _) 0).trans rfl, (World.cell?_alloc_lt _ _ _ (World.block_lt_of_cell? _ _ (hHeld.2.1))).trans (hHeld.2.1), (World.cell?_alloc_lt _ _ _ (World.block_lt_of_cell? _ _ (hHeld.2.2.1))).trans (hHeld.2.2.1), (World.cell?_alloc_lt _ _ _ (World.block_lt_of_cell? _ _ (hHeld.2.2.2))).trans (hHeld.2.2.2)⟩ (fun hHeld => ?_)
                        clear hK K
                        refine norm_ (a' := ?_) ?_ ?_
                        rotate_left
                        · show Act.put _ (some 40) _ = _
                          simp only [Act.put, List.setIfInBounds_toArray, List.set_cons_zero, List.set_cons_succ, i64_w, i32_w]
                          rfl
                        refine last_ (i := 16) (N := some 41) #[true, true, true, true, true, true, true, true, true, true, true, true, true, true, true, true, true, false, false] rfl rfl (one_of HT_.out (by kernel_rfl)) (by decide) (fun K hK => ?_)
                        refine Kd.R_append_step k44 (w0 := w) w.heap.size (by rfl) (.tmp 26) (.tmp 40) 28 44 (.agg #[(.int .i64 0), (.int .i64 0), (.int .i64 0)]) 24 rfl Tryd.underlying28 info44 rfl (by decide) (by omega) u221000 x221000_1 (⟨t230, t232, t234⟩ : S44) [.int .i64 t230, .int .i64 t232, .int .i64 t234] (fun _ => True) (fun _ => False) rfl rfl ?aP (fun _ hk => hk.elim) ?aF ?aO ?aB ?aS ?aL ?_
                        (case aP => exact k44_mkM _ _ _ (⟨t230, t232, t234⟩ : S44))
                        (case aB => exact (by repeat (first | (with_reducible first | exact HB.out | apply below_alloc | apply pw_below_drewN | apply below_drew1 | refine below_set ?_ GE219.out | refine below_set ?_ GE220.out) | exact HB.out)))
                        (case aF => exact (fun _ _ => trivial))
                        (case aO => exact (by (with_reducible repeat (first | apply Kd.R_alloc | apply Kd.R_drewN | apply Kd.R_drew)); exact HO_221000.out))
                        (case aS => exact (below_size (by repeat (first | (with_reducible first | exact HB.out | apply below_alloc | apply pw_below_drewN | apply below_drew1 | refine below_set ?_ GE219.out | refine below_set ?_ GE220.out) | exact HB.out))))
                        (case aL => have := LMc26.out; omega)
                        intro v236 w33 ho hb hg hat
                        rw [← Ny235.out] at ho
                        have n0_ := Aside0.mk (Kd.R_over' (by (with_reducible repeat (first | apply Kd.R_alloc | apply Kd.R_drewN | apply Kd.R_drew)); exact HO_13.out) (Kd.R_typed (by (with_reducible repeat (first | apply Kd.R_alloc | apply Kd.R_drewN | apply Kd.R_drew)); exact HO_221000.out)) (by decide) hg)
                        have n1_ := Aside0.mk (blk_grown (g := gb219) (o := .cells #[.slice none 0 0] 30 (0, 0)) (by (with_reducible repeat (first | refine blk_drewN ?_ _ | refine blk_drew ?_ | refine blk_alloc ?_ _)); exact BK219.out) hg (Kd.R_ne HO_221000.out BK219.out (by decide)))
                        have n2_ := Aside0.mk (blk_grown (g := gb220) (o := .cells #[u221000] 30 (0, 0)) (by (with_reducible repeat (first | refine blk_drewN ?_ _ | refine blk_drew ?_ | refine blk_alloc ?_ _)); exact BK220.out) hg (Kd.R_ne HO_221000.out BK220.out (by decide)))
                        have n3_ := Aside0.mk (Kd.R_over' (by (with_reducible repeat (first | apply Kd.R_alloc | apply Kd.R_drewN | apply Kd.R_drew)); exact HO228.out) (Kd.R_typed (by (with_reducible repeat (first | apply Kd.R_alloc | apply Kd.R_drewN | apply Kd.R_drew)); exact HO_221000.out)) (by decide) hg)
                        have n4_ := Aside0.mk (hb)
                        have n5_ := Aside0.mk (ho)
                        clear HO_13
                        clear BK219
                        clear BK220
                        clear HO228
                        clear HB
                        clear HO_221000
                        have HO_13 := n0_
                        have BK219 := n1_
                        have BK220 := n2_
                        have HO228 := n3_
                        have HB := n4_
                        have HO237 := n5_
                        clear n0_ n1_ n2_ n3_ n4_ n5_
                        clear ho hb hg hat
                        obtain ⟨Ao34, co34, eo34⟩ := Kd.R_slice HO237.out
                        (first | subst eo34 | (injection eo34 with f1_ f2_ f3_; have f4_ := f1_.symm; have f5_ := f3_.symm; clear f1_ f2_ f3_; subst f4_; subst f5_))
                        refine hK.out _ _ ?_
                        clear hK K
                        refine norm_ (a' := ?_) ?_ ?_
                        rotate_left
                        · show Act.put _ (some 41) _ = _
                          simp only [Act.put, List.setIfInBounds_toArray, List.set_cons_zero, List.set_cons_succ, i64_w, i32_w]
                          rfl
                        refine pure_ (i := 17) (N := some 42) (v := ?_) (a' := ?_) #[true, true, true, true, true, true, true, true, true, true, true, true, true, true, true, true, true, true, false] rfl rfl (any_of HT_.out (by kernel_rfl)) (fun _ _ _ h => h) (Or.inl ⟨by rfl, ?_⟩) ?_ ?_
                        rotate_left
                        · intro w'
                          go_simp
                          with_reducible rfl
                        rotate_left
                        · simp only [Act.put, List.setIfInBounds_toArray, List.set_cons_zero, List.set_cons_succ, i64_w, i32_w]
                          rfl
                        refine last_ (i := 18) (N := none) #[true, true, true, true, true, true, true, true, true, true, true, true, true, true, true, true, true, true, true] rfl rfl (one_of HT_.out (by kernel_rfl)) (by decide) (fun K hK => ?_)
                        have hs35 : w33.cell? ⟨gb220, 0, none⟩ = some (u221000) := (blk_cell BK220.out 0).trans rfl
                        have hfs35 := blk_frozen BK220.out 0
                        have hns35_0 := NB219_220.out
                        have hms35_0 := NB220_219.out
                        refine skip_ (w1 := ?_) (by rfl) rfl ?_ ?_
                        rotate_left
                        · go_simp
                          rfl
                        refine hK.out _ _ ?_
                        clear hK K
                        refine done_ (done_of HT_.out (by kernel_rfl)) ?_
                        try go_wp2
                        go_roundg k1
                        case measure => have := HK1.out; omega
                        case rel => exact ⟨(wrap64 (x15_1 + 1)), (y235), (.slice Ao34 y235.length co34), (by first | rfl | (simp; done) | (simp [*]; done)), H', ⟨by have := HK1.out; omega⟩, ⟨by (with_reducible repeat (first | apply Kd.R_alloc | apply Kd.R_drewN | apply Kd.R_drew)); exact Kd.R_mono (Kd.R_far (p := ⟨gb220, 0, none⟩) (Kd.R_types HO_13.out BK220.out (by decide)) (fun _ hk => hk.2) (.slice Ao34 y235.length co34)) (fun _ hk => trivial)⟩, ⟨by (with_reducible repeat (first | apply Kd.R_alloc | apply Kd.R_drewN | apply Kd.R_drew)); exact Kd.R_mono (Kd.R_far (p := ⟨gb220, 0, none⟩) (Kd.R_types HO237.out BK220.out (by decide)) (fun _ hk => hk.2) (.slice Ao34 y235.length co34)) (fun _ hk => trivial)⟩, ⟨by (with_reducible repeat (first | refine blk_drewN ?_ _ | refine blk_drew ?_ | refine blk_alloc ?_ _)); refine blk_far ?_ NB219_220.out _; (with_reducible repeat (first | refine blk_drewN ?_ _ | refine blk_drew ?_ | refine blk_alloc ?_ _)); exact BK219.out⟩, ⟨by (with_reducible repeat (first | refine blk_drewN ?_ _ | refine blk_drew ?_ | refine blk_alloc ?_ _)); refine blk_put (cs := #[u221000]) ?_ 0 _ rfl; (with_reducible repeat (first | refine blk_drewN ?_ _ | refine blk_drew ?_ | refine blk_alloc ?_ _)); exact BK220.out⟩, ⟨by repeat (first | (with_reducible first | exact HB.out | apply below_alloc | apply pw_below_drewN | apply below_drew1 | refine below_set ?_ GE219.out | refine below_set ?_ GE220.out) | exact HB.out)⟩⟩
                      · rw [if_neg c26] at H
                        exact absurd H (by simp)
                    · rw [if_neg c24] at H
                      exact absurd H (by simp)
                  · rw [if_neg c22] at H
                    exact absurd H (by simp)
                · rw [if_neg c20] at H
                  exact absurd H (by simp)
              · rw [if_neg c19] at H
                have c19b0 : ((t226.length : Int) == 3) = false := beq_eq_false_iff_ne.mpr c19
                have c19b1 : ((t226.length : Int) != 3) = true := bne_iff_ne.mpr c19
                simp only [Option.some.injEq, Prod.mk.injEq] at H
                obtain ⟨rfl, rfl⟩ := H
                have p225 : 0 ≤ (x15_1 : Int) := of_decide_eq_true (by first | (with_reducible assumption) | assumption)
                have q225 : x15_1 < (t221.length : Int) := of_decide_eq_true (by first | (with_reducible assumption) | assumption)
                obtain ⟨ad225, e225, hx225_0⟩ := Kd.at_string (Kd.R_reads' HO_13.out).2.2 x15_1 p225 q225
                cases e225
                replace p225 := eq_true p225
                replace q225 := eq_true q225
                go_wp2_with (first | ((with_reducible refine gate_callee (f := 23) rfl ?_); refine goesL_ (some 20) rfl rfl Tryd.func23 (by kernel_rfl) rfl #[.string (rdOf ByteArray.empty t221 x15_1), .string (⟨#[46]⟩ : ByteArray)] rfl (by (try simp only [List.map_toArray, List.map_cons, List.map_nil]); first | done | rfl | (simp only [List.length_drop, List.length_take]; rfl)) ?_; (with_reducible refine (strings_Split.calls (rdOf ByteArray.empty t221 x15_1) (⟨#[46]⟩ : ByteArray) t226 _ A18.out (HG_.out.go (by repeat (first | (with_reducible first | exact HB.out | apply below_alloc | apply pw_below_drewN | apply below_drew1 | refine below_set ?_ GE219.out | refine below_set ?_ GE220.out) | exact HB.out)))).mono ?_); rintro e w36 ⟨v227, rfl, ho0, hb⟩; refine ⟨_, rfl, ?_⟩; have n0_ := Aside0.mk (Kd.R_elder' (by (with_reducible repeat (first | apply Kd.R_alloc | apply Kd.R_drewN | apply Kd.R_drew)); exact HO_13.out) (Kd.R_base ho0) hb); have n1_ := Aside0.mk (Kd.R_below (by (with_reducible repeat (first | apply Kd.R_alloc | apply Kd.R_drewN | apply Kd.R_drew)); exact HO_221000.out) hb); have n2_ := Aside0.mk (Kd.R_lower (Kd.R_new' ho0 (Kd.R_lt (by (with_reducible repeat (first | apply Kd.R_alloc | apply Kd.R_drewN | apply Kd.R_drew)); exact HO_13.out))) (below_size (by repeat (first | (with_reducible first | exact HB.out | apply below_alloc | apply pw_below_drewN | apply below_drew1 | refine below_set ?_ GE219.out | refine below_set ?_ GE220.out) | exact HB.out)))); have n3_ := Aside0.mk (blk_below (g := gb219) (o := .cells #[.slice none 0 0] 30 (0, 0)) (by (with_reducible repeat (first | refine blk_drewN ?_ _ | refine blk_drew ?_ | refine blk_alloc ?_ _)); exact BK219.out) hb); have n4_ := Aside0.mk (blk_below (g := gb220) (o := .cells #[u221000] 30 (0, 0)) (by (with_reducible repeat (first | refine blk_drewN ?_ _ | refine blk_drew ?_ | refine blk_alloc ?_ _)); exact BK220.out) hb); have n5_ := Aside0.mk (below_step (by repeat (first | (with_reducible first | exact HB.out | apply below_alloc | apply pw_below_drewN | apply below_drew1 | refine below_set ?_ GE219.out | refine below_set ?_ GE220.out) | exact HB.out)) hb); clear HO_13; clear HO_221000; clear BK219; clear BK220; clear HB; have HO_13 := n0_; have HO_221000 := n1_; have HO228 := n2_; have BK219 := n3_; have BK220 := n4_; have HB := n5_; clear n0_ n1_ n2_ n3_ n4_ n5_; (try clear hb); (try clear hb2); (try clear hk); (try clear hi); (try clear ho0); obtain ⟨Ao37, co37, eo37⟩ := Kd.R_slice HO228.out; subst eo37; have hnb38 := NB219_220.out; have hnc38 := NB220_219.out; have hcz39_0 : w36.cell? ⟨gb219, 0, none⟩ = some (.slice none 0 0) := (blk_cell BK219.out 0).trans rfl; have hfz39_0 := blk_frozen BK219.out 0))
                refine bodyPost_ret (results_ct rfl _ _ gb219 30 #[.slice none 0 0] (0, 0) _ rfl (by (with_reducible repeat (first | refine blk_drewN ?_ _ | refine blk_drew ?_ | refine blk_alloc ?_ _)); refine blk_put (cs := #[.slice none 0 0]) ?_ 0 _ rfl; (with_reducible repeat (first | refine blk_drewN ?_ _ | refine blk_drew ?_ | refine blk_alloc ?_ _)); exact BK219.out) Tryd.underlying30 rfl (by kernel_rfl)) rfl ?_
                exact ⟨_, by first | rfl | (simp [errW_none, errW_some] <;> rfl) | (simp [*, errW_none, errW_some] <;> rfl), by first | exact Kd.R_nil _ _ _ _ _ | exact Kd.N_nil _ _ _ _ _ | exact Kd.V_nil _ _ _ _ _ | exact Kd.Q_nil _ _ _ _ _ | exact Kd.S_nil _ _ _ _ _, by repeat (first | (with_reducible first | exact HB.out | apply below_alloc | apply pw_below_drewN | apply below_drew1 | refine below_set ?_ GE219.out | refine below_set ?_ GE220.out) | exact HB.out)⟩
            · rw [if_neg c17] at H
              exact absurd H (by simp)
          · rw [if_neg c16] at H
            exact absurd H (by simp)
        · rw [if_neg c15] at H
          have c15b0 : decide (x15_1 < (t221.length : Int)) = false := decide_eq_false c15
          clear c15
          replace H := Option.bind_eq_some_iff.mp H
          obtain ⟨t224, A400, H⟩ := H
          replace H : (if t224 = true then (some (x221000_1, true)) else (some (([] : List (S44)), false))) = some (r1, r2) := H
          have A40 := Aside0.mk A400
          clear A400
          by_cases c41 : t224 = true
          · subst c41
            have H1 : (some (x221000_1, true)) = some (r1, r2) := by rw [if_pos rfl] at H; exact H
            clear H
            have H := H1
            clear H1
            simp only [Option.some.injEq, Prod.mk.injEq] at H
            obtain ⟨rfl, rfl⟩ := H
            have hnb42 := NB220_219.out
            have hnc42 := NB219_220.out
            have hcz43_0 : wr.cell? ⟨gb220, 0, none⟩ = some (u221000) := (blk_cell BK220.out 0).trans rfl
            have hfz43_0 := blk_frozen BK220.out 0
            obtain ⟨Ao44, co44, eo44⟩ := Kd.R_slice HO_221000.out
            subst eo44
            go_wp2_with (first | ((with_reducible refine gate_callee (f := 18) rfl ?_); refine goesL_ (some 45) rfl rfl Tryd.func18 (by kernel_rfl) rfl #[.agg #[.slice Ao44 x221000_1.length co44]] rfl (by (try simp only [List.map_toArray, List.map_cons, List.map_nil]); first | done | rfl | (simp only [List.length_drop, List.length_take]; rfl)) ?_; (with_reducible refine (impl_IsPuzzle.calls _ _ x221000_1 true _ ?side1 ?side2 A40.out).mono ?_); (case side1 => repeat (first | exact (Kd.R_reads' HO_221000.out).2.2 | (with_reducible refine Kd.C_alloc ?_ _) | (with_reducible refine Kd.C_drewN ?_ _) | (with_reducible refine Kd.C_drew ?_))); (case side2 => exact (Kd.R_reads' HO_221000.out).2.1); rintro e w45 ⟨rfl, hb⟩; refine ⟨_, rfl, ?_⟩; have n0_ := Aside0.mk (Kd.R_below (by (with_reducible repeat (first | apply Kd.R_alloc | apply Kd.R_drewN | apply Kd.R_drew)); exact HO_13.out) hb); have n1_ := Aside0.mk (Kd.R_below (by (with_reducible repeat (first | apply Kd.R_alloc | apply Kd.R_drewN | apply Kd.R_drew)); exact HO_221000.out) hb); have n2_ := Aside0.mk (blk_below (g := gb219) (o := .cells #[.slice none 0 0] 30 (0, 0)) (by (with_reducible repeat (first | refine blk_drewN ?_ _ | refine blk_drew ?_ | refine blk_alloc ?_ _)); exact BK219.out) hb); have n3_ := Aside0.mk (blk_below (g := gb220) (o := .cells #[.slice Ao44 x221000_1.length co44] 30 (0, 0)) (by (with_reducible repeat (first | refine blk_drewN ?_ _ | refine blk_drew ?_ | refine blk_alloc ?_ _)); exact BK220.out) hb); have n4_ := Aside0.mk (below_step (by repeat (first | (with_reducible first | exact HB.out | apply below_alloc | apply pw_below_drewN | apply below_drew1 | refine below_set ?_ GE219.out | refine below_set ?_ GE220.out) | exact HB.out)) hb); clear HO_13; clear HO_221000; clear BK219; clear BK220; clear HB; have HO_13 := n0_; have HO_221000 := n1_; have BK219 := n2_; have BK220 := n3_; have HB := n4_; clear n0_ n1_ n2_ n3_ n4_; (try clear hb); (try clear hb2); (try clear hk); (try clear hi); have hcz46_0 : w45.cell? ⟨gb220, 0, none⟩ = some (.slice Ao44 x221000_1.length co44) := (blk_cell BK220.out 0).trans rfl; have hfz46_0 := blk_frozen BK220.out 0; have hcz47_0 : w45.cell? ⟨gb219, 0, none⟩ = some (.slice none 0 0) := (blk_cell BK219.out 0).trans rfl; have hfz47_0 := blk_frozen BK219.out 0))
            refine bodyPost_ret (results_ct rfl _ _ gb219 30 #[.slice Ao44 x221000_1.length co44] (0, 0) _ rfl (by (with_reducible repeat (first | refine blk_drewN ?_ _ | refine blk_drew ?_ | refine blk_alloc ?_ _)); refine blk_put (cs := #[.slice none 0 0]) ?_ 0 _ rfl; (with_reducible repeat (first | refine blk_drewN ?_ _ | refine blk_drew ?_ | refine blk_alloc ?_ _)); exact BK219.out) Tryd.underlying30 rfl (by kernel_rfl)) rfl ?_
            exact ⟨_, by first | rfl | (simp [errW_none, errW_some] <;> rfl) | (simp [*, errW_none, errW_some] <;> rfl), by (with_reducible repeat (first | apply Kd.R_alloc | apply Kd.R_drewN | apply Kd.R_drew)); exact Kd.R_mono (Kd.R_far (p := ⟨gb219, 0, none⟩) (Kd.R_types HO_221000.out BK219.out (by decide)) (fun _ hk => hk.2) (.slice Ao44 x221000_1.length co44)) (fun _ hk => trivial), by repeat (first | (with_reducible first | exact HB.out | apply below_alloc | apply pw_below_drewN | apply below_drew1 | refine below_set ?_ GE219.out | refine below_set ?_ GE220.out) | exact HB.out)⟩
          · replace c41 := Bool.eq_false_iff.mpr c41
            subst c41
            have H1 : (some (([] : List (S44)), false)) = some (r1, r2) := by rw [if_neg (show ¬ (false = true) by decide)] at H; exact H
            clear H
            have H := H1
            clear H1
            simp only [Option.some.injEq, Prod.mk.injEq] at H
            obtain ⟨rfl, rfl⟩ := H
            have hnb48 := NB220_219.out
            have hnc48 := NB219_220.out
            have hcz49_0 : wr.cell? ⟨gb220, 0, none⟩ = some (u221000) := (blk_cell BK220.out 0).trans rfl
            have hfz49_0 := blk_frozen BK220.out 0
            obtain ⟨Ao50, co50, eo50⟩ := Kd.R_slice HO_221000.out
            subst eo50
            go_wp2_with (first | ((with_reducible refine gate_callee (f := 18) rfl ?_); refine goesL_ (some 45) rfl rfl Tryd.func18 (by kernel_rfl) rfl #[.agg #[.slice Ao50 x221000_1.length co50]] rfl (by (try simp only [List.map_toArray, List.map_cons, List.map_nil]); first | done | rfl | (simp only [List.length_drop, List.length_take]; rfl)) ?_; (with_reducible refine (impl_IsPuzzle.calls _ _ x221000_1 false _ ?side1 ?side2 A40.out).mono ?_); (case side1 => repeat (first | exact (Kd.R_reads' HO_221000.out).2.2 | (with_reducible refine Kd.C_alloc ?_ _) | (with_reducible refine Kd.C_drewN ?_ _) | (with_reducible refine Kd.C_drew ?_))); (case side2 => exact (Kd.R_reads' HO_221000.out).2.1); rintro e w51 ⟨rfl, hb⟩; refine ⟨_, rfl, ?_⟩; have n0_ := Aside0.mk (Kd.R_below (by (with_reducible repeat (first | apply Kd.R_alloc | apply Kd.R_drewN | apply Kd.R_drew)); exact HO_13.out) hb); have n1_ := Aside0.mk (Kd.R_below (by (with_reducible repeat (first | apply Kd.R_alloc | apply Kd.R_drewN | apply Kd.R_drew)); exact HO_221000.out) hb); have n2_ := Aside0.mk (blk_below (g := gb219) (o := .cells #[.slice none 0 0] 30 (0, 0)) (by (with_reducible repeat (first | refine blk_drewN ?_ _ | refine blk_drew ?_ | refine blk_alloc ?_ _)); exact BK219.out) hb); have n3_ := Aside0.mk (blk_below (g := gb220) (o := .cells #[.slice Ao50 x221000_1.length co50] 30 (0, 0)) (by (with_reducible repeat (first | refine blk_drewN ?_ _ | refine blk_drew ?_ | refine blk_alloc ?_ _)); exact BK220.out) hb); have n4_ := Aside0.mk (below_step (by repeat (first | (with_reducible first | exact HB.out | apply below_alloc | apply pw_below_drewN | apply below_drew1 | refine below_set ?_ GE219.out | refine below_set ?_ GE220.out) | exact HB.out)) hb); clear HO_13; clear HO_221000; clear BK219; clear BK220; clear HB; have HO_13 := n0_; have HO_221000 := n1_; have BK219 := n2_; have BK220 := n3_; have HB := n4_; clear n0_ n1_ n2_ n3_ n4_; (try clear hb); (try clear hb2); (try clear hk); (try clear hi); have hcz52_0 : w51.cell? ⟨gb219, 0, none⟩ = some (.slice none 0 0) := (blk_cell BK219.out 0).trans rfl; have hfz52_0 := blk_frozen BK219.out 0))
            refine bodyPost_ret (results_ct rfl _ _ gb219 30 #[.slice none 0 0] (0, 0) _ rfl (by (with_reducible repeat (first | refine blk_drewN ?_ _ | refine blk_drew ?_ | refine blk_alloc ?_ _)); refine blk_put (cs := #[.slice none 0 0]) ?_ 0 _ rfl; (with_reducible repeat (first | refine blk_drewN ?_ _ | refine blk_drew ?_ | refine blk_alloc ?_ _)); exact BK219.out) Tryd.underlying30 rfl (by kernel_rfl)) rfl ?_
            exact ⟨_, by first | rfl | (simp [errW_none, errW_some] <;> rfl) | (simp [*, errW_none, errW_some] <;> rfl), by first | exact Kd.R_nil _ _ _ _ _ | exact Kd.N_nil _ _ _ _ _ | exact Kd.V_nil _ _ _ _ _ | exact Kd.Q_nil _ _ _ _ _ | exact Kd.S_nil _ _ _ _ _, by repeat (first | (with_reducible first | exact HB.out | apply below_alloc | apply pw_below_drewN | apply below_drew1 | refine below_set ?_ GE219.out | refine below_set ?_ GE220.out) | exact HB.out)⟩

end Go.Proofs.YtcfcjpcoofjckaaDoor.Pr

-- Written by a program for this claim.
namespace Go.Proofs.YtcfcjpcoofjckaaDoor.Pr
open Go.RowKit Go.Proofs.YtcfcjpcoofjckaaDoorW.PrintWords Go.Proofs.YtcfcjpcoofjckaaDoorW.PrintLast Go.Proofs.YtcfcjpcoofjckaaDoorW.PrintMore
attribute [local go_sem] max2_int min2_int max_two min_two max_three min_three max_four min_four   -- for this text's walks alone
set_option linter.unusedVariables false
set_option linter.unusedSimpArgs false

/-! ### laws_markClueS: function 25 -/
def laws_markClueS.l0 : Nat → List (S44) → Int → Int → Option (Int × (List (S44)))
  | 0, _, _, _ => none
  | k + 1, x0, x1, x5 => if x5 < (x0.length : Int) then (if 0 ≤ x5 then ((some (x0.set (x5 : Int).toNat (⟨x1, (rd_T44 x0 x5).f1, (rd_T44 x0 x5).f2⟩ : S44) : List (S44))).bind fun y238 => ((some (y238.set (x5 : Int).toNat (⟨(rd_T44 y238 x5).f0, wrap64 (x1 + 1), (rd_T44 y238 x5).f2⟩ : S44) : List (S44))).bind fun y239 => (laws_markClueS.l0 k (y239.set (x5 : Int).toNat (⟨(rd_T44 y239 x5).f0, (rd_T44 y239 x5).f1, wrap64 ((wrap64 (x1 + 1)) + 1)⟩ : S44)) (wrap64 ((wrap64 ((wrap64 (x1 + 1)) + 1)) + 1)) (wrap64 (x5 + 1))))) else (none)) else (some (x1, x0))
def laws_markClueS.f (k : Nat) (l0 : List (S44)) (a1 : Int) : Option (Int × (List (S44))) := laws_markClueS.l0 k l0 a1 0
theorem laws_markClueS.mono_l : ∀ k, (∀ y0 y1 y2, LeO (laws_markClueS.l0 k y0 y1 y2) (laws_markClueS.l0 (k + 1) y0 y1 y2))
  | 0 => fun _ _ _ r h => by simp [laws_markClueS.l0] at h
  | k + 1 => by
    have ih0 := laws_markClueS.mono_l k
    · intro y0 y1 y2
      unfold laws_markClueS.l0
      repeat' first
      | (with_reducible exact ih0 _ _ _)
      | (with_reducible exact LeO.refl _)
      | (with_reducible exact LeO.none _)
      | (with_reducible refine LeO.ite ?_ ?_)
      | (with_reducible refine LeO.bind ?_ (fun _ => ?_))
      | exact ih0 _ _ _
      | exact LeO.none _
      | refine LeO.ite ?_ ?_
      | refine LeO.bind ?_ (fun _ => ?_)
theorem laws_markClueS.mono : ∀ a0 a1 k, LeO (laws_markClueS.f k a0 a1) (laws_markClueS.f (k + 1) a0 a1) := by
  intro a0 a1 k
  have ih0 := laws_markClueS.mono_l k
  unfold laws_markClueS.f
  repeat' first
      | (with_reducible exact ih0 _ _ _)
      | (with_reducible exact LeO.refl _)
      | (with_reducible exact LeO.none _)
      | (with_reducible refine LeO.ite ?_ ?_)
      | (with_reducible refine LeO.bind ?_ (fun _ => ?_))
      | exact ih0 _ _ _
      | exact LeO.none _
      | refine LeO.ite ?_ ?_
      | refine LeO.bind ?_ (fun _ => ?_)
set_option maxHeartbeats 8000000 in
set_option maxRecDepth 100000 in
theorem laws_markClueS.calls (k : Nat) (P0_ : Nat → Prop) (u9000_ : Value) (l0 : List (S44)) (a1 : Int) (r1 : Int) (r2 : List (S44)) (w0 w : World) (hB : Below w0.heap.size w0 w) (ho0 : Kd.R k44 44 w w0.heap.size P0_ u9000_ l0) (h : laws_markClueS.f k l0 a1 = some (r1, r2)) :
    Calls Tryd.prog 25 #[u9000_, .int .i64 a1] w fun e w' => e = .returned (.int .i64 r1) ∧ Kd.R k44 44 w' w0.heap.size (fun k_ => (P0_ k_ ∨ w.heap.size ≤ k_)) u9000_ r2 ∧ Below w0.heap.size w0 w' ∧ Kept w w' (fun k_ => P0_ k_) := by
  have HO0 := Aside0.mk (show Kd.R k44 44 w w0.heap.size (fun k_ => (P0_ k_ ∨ w.heap.size ≤ k_)) u9000_ l0 from Kd.R_mono ho0 (fun k_ hk => (.inl hk)))
  have HK := Aside0.mk (Kept.refl w (fun k_ => P0_ k_))
  have HW0 := Aside0.mk hB.size
  have HB := Aside0.mk hB
  clear hB
  have H : (laws_markClueS.l0 k l0 a1 0) = some (r1, r2) := h
  clear h
  have H' := Aside0.mk H
  clear H
  go_enter Tryd.func25, Tryd.ntmps25
  go_wp2
  go_loopg [1, 5] k (fun kq v1 v5 w' => ∃ (x0_1 : List (S44)) (x1_1 : Int) (x5_1 : Int), v1 = .int .i64 x1_1 ∧ v5 = .int .i64 x5_1 ∧ Aside0 (laws_markClueS.l0 kq x0_1 x1_1 x5_1 = some (r1, r2)) ∧ Aside0 (kq ≤ k) ∧ Aside0 (Kd.R k44 44 w' w0.heap.size (fun k_ => (P0_ k_ ∨ w.heap.size ≤ k_)) u9000_ x0_1) ∧ Aside0 (Kept w w' (fun k_ => P0_ k_)) ∧ Aside0 (Below w0.heap.size w0 w'))
  case atStart => exact ⟨(l0), (a1), (0), (by first | rfl | (simp; done) | (simp [*]; done)), (by first | rfl | (simp; done) | (simp [*]; done)), H', ⟨Nat.le_refl _⟩, ⟨by (with_reducible repeat (first | apply Kd.R_alloc | apply Kd.R_drewN | apply Kd.R_drew)); exact HO0.out⟩, ⟨by repeat (first | (with_reducible first | exact HK.out | apply Kept.alloc | apply Kept.drewN | apply Kept.drew) | exact HK.out)⟩, ⟨by repeat (first | (with_reducible first | exact HB.out | apply below_alloc | apply pw_below_drewN | apply below_drew1) | exact HB.out)⟩⟩
  case round =>
    clear H'
    try clear c2
    try clear p2
    obtain ⟨x0_1, x1_1, x5_1, rfl, rfl, HA, HK1, HO_0, HK, HB⟩ := hrel
    cases gk with
    | zero => exact absurd HA.out (by simp [laws_markClueS.l0])
    | succ k1 =>
      have H := HA.out
      clear HA
      simp only [laws_markClueS.l0] at H
      by_cases c3 : x5_1 < (x0_1.length : Int)
      · rw [if_pos c3] at H
        have c3b0 : decide (x5_1 < (x0_1.length : Int)) = true := decide_eq_true c3
        clear c3
        by_cases c4 : 0 ≤ x5_1
        · rw [if_pos c4] at H
          have c4b0 : decide (0 ≤ x5_1) = true := decide_eq_true c4
          clear c4
          obtain ⟨y238, hy238⟩ : ∃ y_ : List (S44), y_ = (x0_1.set (x5_1 : Int).toNat (⟨x1_1, (rd_T44 x0_1 x5_1).f1, (rd_T44 x0_1 x5_1).f2⟩ : S44)) := ⟨_, rfl⟩
          replace H : ((some (y238.set (x5_1 : Int).toNat (⟨(rd_T44 y238 x5_1).f0, wrap64 (x1_1 + 1), (rd_T44 y238 x5_1).f2⟩ : S44) : List (S44))).bind fun y239 => (laws_markClueS.l0 k1 (y239.set (x5_1 : Int).toNat (⟨(rd_T44 y239 x5_1).f0, (rd_T44 y239 x5_1).f1, wrap64 ((wrap64 (x1_1 + 1)) + 1)⟩ : S44)) (wrap64 ((wrap64 ((wrap64 (x1_1 + 1)) + 1)) + 1)) (wrap64 (x5_1 + 1)))) = some (r1, r2) := by first | (rw [hy238]; with_reducible exact H) | (have H2_ := (Option.bind_some _ _).symm.trans H; rw [hy238]; with_reducible exact H2_) | (have H2_ := (Option.bind_some _ _).symm.trans H; with_reducible exact H2_) | with_reducible exact H | (rw [hy238]; exact H) | exact H
          have Ny238 := Aside0.mk hy238
          clear hy238
          obtain ⟨y239, hy239⟩ : ∃ y_ : List (S44), y_ = (y238.set (x5_1 : Int).toNat (⟨(rd_T44 y238 x5_1).f0, wrap64 (x1_1 + 1), (rd_T44 y238 x5_1).f2⟩ : S44)) := ⟨_, rfl⟩
          replace H : (laws_markClueS.l0 k1 (y239.set (x5_1 : Int).toNat (⟨(rd_T44 y239 x5_1).f0, (rd_T44 y239 x5_1).f1, wrap64 ((wrap64 (x1_1 + 1)) + 1)⟩ : S44)) (wrap64 ((wrap64 ((wrap64 (x1_1 + 1)) + 1)) + 1)) (wrap64 (x5_1 + 1))) = some (r1, r2) := by first | (rw [hy239]; with_reducible exact H) | (have H2_ := (Option.bind_some _ _).symm.trans H; rw [hy239]; with_reducible exact H2_) | (have H2_ := (Option.bind_some _ _).symm.trans H; with_reducible exact H2_) | with_reducible exact H | (rw [hy239]; exact H) | exact H
          have Ny239 := Aside0.mk hy239
          clear hy239
          obtain ⟨y240, hy240⟩ : ∃ y_ : List (S44), y_ = (y239.set (x5_1 : Int).toNat (⟨(rd_T44 y239 x5_1).f0, (rd_T44 y239 x5_1).f1, wrap64 ((wrap64 (x1_1 + 1)) + 1)⟩ : S44)) := ⟨_, rfl⟩
          replace H : (laws_markClueS.l0 k1 y240 (wrap64 ((wrap64 ((wrap64 (x1_1 + 1)) + 1)) + 1)) (wrap64 (x5_1 + 1))) = some (r1, r2) := by first | (rw [hy240]; with_reducible exact H) | (have H2_ := (Option.bind_some _ _).symm.trans H; rw [hy240]; with_reducible exact H2_) | (have H2_ := (Option.bind_some _ _).symm.trans H; with_reducible exact H2_) | with_reducible exact H | (rw [hy240]; exact H) | exact H
          have Ny240 := Aside0.mk hy240
          clear hy240
          have H' := Aside0.mk H
          clear H
          obtain ⟨Ao8, co8, eo8⟩ := Kd.R_slice HO_0.out
          subst eo8
          have p5 : 0 ≤ (x5_1 : Int) := of_decide_eq_true (by first | (with_reducible assumption) | assumption)
          have q5 : (x5_1 : Int) < ((x0_1.length : Int) : Int) := of_decide_eq_true (by first | (with_reducible assumption) | assumption)
          obtain ⟨go5, co5, eo5, gb5, gl5, cl5, HG5⟩ := Kd.R_form HO_0.out (by omega)
          (first | cases eo5 | (injection eo5 with ea_ en_ ec_; (first | subst ea_ | (injection ea_ with ea_; subst ea_)); subst ec_; clear en_))
          have GB5 := Aside0.mk gb5
          have GG5 := Aside0.mk HG5
          clear gb5 gl5 HG5
          have HMgo5 := Aside0.mk (show (P0_ go5 ∨ w.heap.size ≤ go5) from (HO_0.out.1 _ rfl))
          obtain ⟨ce5, hcl5, hM5, hcc5, hfr5⟩ := Kd.R_elem HO_0.out z44 (x5_1 : Int) p5 q5
          obtain rfl := k44_openM hM5
          have hx5_0 : wr.cell? ⟨go5, (x5_1 : Int).toNat * 3, none⟩ = some (.int .i64 ((rd_T44 x0_1 x5_1).f0)) := hcc5 0 _ rfl
          have hx5_1 : wr.cell? ⟨go5, (x5_1 : Int).toNat * 3 + 1, none⟩ = some (.int .i64 ((rd_T44 x0_1 x5_1).f1)) := hcc5 1 _ rfl
          have hx5_2 : wr.cell? ⟨go5, (x5_1 : Int).toNat * 3 + 2, none⟩ = some (.int .i64 ((rd_T44 x0_1 x5_1).f2)) := hcc5 2 _ rfl
          have hf5_0 : wr.frozen? ⟨go5, (x5_1 : Int).toNat * 3, none⟩ = false := hfr5 0
          have hf5_1 : wr.frozen? ⟨go5, (x5_1 : Int).toNat * 3 + 1, none⟩ = false := hfr5 1
          have hf5_2 : wr.frozen? ⟨go5, (x5_1 : Int).toNat * 3 + 2, none⟩ = false := hfr5 2
          clear hcl5 hcc5 hfr5 hM5
          replace p5 := eq_true p5
          replace q5 := eq_true q5
          have HX9 := Aside0.mk (show Kd.R k44 44 wr w0.heap.size (fun k_ => (P0_ k_ ∨ w.heap.size ≤ k_)) (.slice (some ⟨go5, 0, none⟩) x0_1.length co8) x0_1 from (by (with_reducible repeat (first | apply Kd.R_alloc | apply Kd.R_drewN | apply Kd.R_drew)); exact HO_0.out))
          obtain ⟨ce9, hcl9, hM9, hcc9, hfr9⟩ := Kd.R_elem HX9.out z44 (x5_1 : Int) (of_decide_eq_true (by first | (with_reducible assumption) | assumption)) (by have h_ : (x5_1 : Int) < ((x0_1.length : Int) : Int) := of_decide_eq_true (by first | (with_reducible assumption) | assumption); first | exact h_ | (have e_ := (Kd.R_reads' HO_0.out).1; omega) | simpa using h_)
          obtain rfl := k44_openM hM9
          have HP9 := Kd.R_seg HX9.out (x5_1 : Int) (of_decide_eq_true (by first | (with_reducible assumption) | assumption)) (by have h_ : (x5_1 : Int) < ((x0_1.length : Int) : Int) := of_decide_eq_true (by first | (with_reducible assumption) | assumption); first | exact h_ | (have e_ := (Kd.R_reads' HO_0.out).1; omega) | simpa using h_) (seg := [.int .i64 x1_1]) (j := 0) hcl9 hcc9 (show 1 ≤ 3 from by decide) (x' := (⟨x1_1, (rd_T44 x0_1 x5_1).f1, (rd_T44 x0_1 x5_1).f2⟩ : S44)) (k44_mkM _ _ _ (⟨x1_1, (rd_T44 x0_1 x5_1).f1, (rd_T44 x0_1 x5_1).f2⟩ : S44) ) (fun _ hk => hk)
          have hx9_0 := hcc9 0 _ rfl
          (try simp only [show (k44).sz = 3 from rfl, Nat.mul_one, Nat.add_zero] at hx9_0)
          have hf9_0 := hfr9 0
          (try simp only [show (k44).sz = 3 from rfl, Nat.mul_one, Nat.add_zero] at hf9_0)
          clear hcl9 hcc9 hfr9 hM9
          go_wp2_with (first | ((with_reducible refine gate_store (t := 3) (p := 16) rfl ?_); refine store_event (t := 3) (p := 16) (v := ?vo_w10) (w1 := (wr.setCell ⟨go5, (x5_1 : Int).toNat * 3, none⟩ (.int .i64 x1_1))) ?hg ?ho ?hn ?hr ?_; (case ho => rfl); (case hg => rfl); (case hn => rfl); (case hr => first | (go_simp; done) | (go_simp; rfl)); intro w10 hw; have hg : wr.grownBy w10 (some go5) := (by rw [hw]; exact HP9.2); have hp_ : Kd.R k44 44 w10 w0.heap.size (fun k_ => (P0_ k_ ∨ w.heap.size ≤ k_)) (.slice (some ⟨go5, 0, none⟩) x0_1.length co8) y238 := (by rw [hw, Ny238.out]; exact HP9.1); clear HP9; have n0_ := Aside0.mk (hp_); have n1_ := Aside0.mk ((by rw [hw]; exact below_set (HB.out) GB5.out : Below w0.heap.size w0 w10)); have n2_ := Aside0.mk (Kept.of_grown (S := (fun k_ => P0_ k_)) hg (by repeat (first | (with_reducible first | exact HK.out | apply Kept.alloc | apply Kept.drewN | apply Kept.drew) | exact HK.out)) (fun k_ e_ => (HO_0.out.1 k_ e_))); clear HO_0; clear HB; clear HK; have HO_0 := n0_; have HB := n1_; have HK := n2_; clear n0_ n1_ n2_; clear hg hw hp_; have p6 : 0 ≤ (x5_1 : Int) := of_decide_eq_true (by first | (with_reducible assumption) | assumption); have q6 : (x5_1 : Int) < ((x0_1.length : Int) : Int) := of_decide_eq_true (by first | (with_reducible assumption) | assumption); obtain ⟨ce6, hcl6, hM6, hcc6, hfr6⟩ := Kd.R_elem HO_0.out z44 (x5_1 : Int) p6 q6; obtain rfl := k44_openM hM6; have hx6_0 : w10.cell? ⟨go5, (x5_1 : Int).toNat * 3, none⟩ = some (.int .i64 ((rd_T44 y238 x5_1).f0)) := hcc6 0 _ rfl; have hx6_1 : w10.cell? ⟨go5, (x5_1 : Int).toNat * 3 + 1, none⟩ = some (.int .i64 ((rd_T44 y238 x5_1).f1)) := hcc6 1 _ rfl; have hx6_2 : w10.cell? ⟨go5, (x5_1 : Int).toNat * 3 + 2, none⟩ = some (.int .i64 ((rd_T44 y238 x5_1).f2)) := hcc6 2 _ rfl; have hf6_0 : w10.frozen? ⟨go5, (x5_1 : Int).toNat * 3, none⟩ = false := hfr6 0; have hf6_1 : w10.frozen? ⟨go5, (x5_1 : Int).toNat * 3 + 1, none⟩ = false := hfr6 1; have hf6_2 : w10.frozen? ⟨go5, (x5_1 : Int).toNat * 3 + 2, none⟩ = false := hfr6 2; clear hcl6 hcc6 hfr6 hM6; replace p6 := eq_true p6; replace q6 := eq_true q6; have HX11 := Aside0.mk (show Kd.R k44 44 w10 w0.heap.size (fun k_ => (P0_ k_ ∨ w.heap.size ≤ k_)) (.slice (some ⟨go5, 0, none⟩) x0_1.length co8) y238 from (by (with_reducible repeat (first | apply Kd.R_alloc | apply Kd.R_drewN | apply Kd.R_drew)); exact HO_0.out)); obtain ⟨ce11, hcl11, hM11, hcc11, hfr11⟩ := Kd.R_elem HX11.out z44 (x5_1 : Int) (of_decide_eq_true (by first | (with_reducible assumption) | assumption)) (by have h_ : (x5_1 : Int) < ((x0_1.length : Int) : Int) := of_decide_eq_true (by first | (with_reducible assumption) | assumption); first | exact h_ | (have e_ := (Kd.R_reads' HO_0.out).1; omega) | simpa using h_); obtain rfl := k44_openM hM11; have HP11 := Kd.R_seg HX11.out (x5_1 : Int) (of_decide_eq_true (by first | (with_reducible assumption) | assumption)) (by have h_ : (x5_1 : Int) < ((x0_1.length : Int) : Int) := of_decide_eq_true (by first | (with_reducible assumption) | assumption); first | exact h_ | (have e_ := (Kd.R_reads' HO_0.out).1; omega) | simpa using h_) (seg := [.int .i64 (wrap64 (x1_1 + 1))]) (j := 1) hcl11 hcc11 (show 2 ≤ 3 from by decide) (x' := (⟨(rd_T44 y238 x5_1).f0, wrap64 (x1_1 + 1), (rd_T44 y238 x5_1).f2⟩ : S44)) (k44_mkM _ _ _ (⟨(rd_T44 y238 x5_1).f0, wrap64 (x1_1 + 1), (rd_T44 y238 x5_1).f2⟩ : S44) ) (fun _ hk => hk); have hx11_1 := hcc11 1 _ rfl; (try simp only [show (k44).sz = 3 from rfl, Nat.mul_one, Nat.add_zero] at hx11_1); have hf11_1 := hfr11 1; (try simp only [show (k44).sz = 3 from rfl, Nat.mul_one, Nat.add_zero] at hf11_1); clear hcl11 hcc11 hfr11 hM11) | ((with_reducible refine gate_store (t := 3) (p := 23) rfl ?_); refine store_event (t := 3) (p := 23) (v := ?vo_w12) (w1 := (w10.setCell ⟨go5, (x5_1 : Int).toNat * 3 + 1, none⟩ (.int .i64 (wrap64 (x1_1 + 1))))) ?hg ?ho ?hn ?hr ?_; (case ho => rfl); (case hg => rfl); (case hn => rfl); (case hr => first | (go_simp; done) | (go_simp; rfl)); intro w12 hw; have hg : w10.grownBy w12 (some go5) := (by rw [hw]; exact HP11.2); have hp_ : Kd.R k44 44 w12 w0.heap.size (fun k_ => (P0_ k_ ∨ w.heap.size ≤ k_)) (.slice (some ⟨go5, 0, none⟩) x0_1.length co8) y239 := (by rw [hw, Ny239.out]; exact HP11.1); clear HP11; have n0_ := Aside0.mk (hp_); have n1_ := Aside0.mk ((by rw [hw]; exact below_set (HB.out) GB5.out : Below w0.heap.size w0 w12)); have n2_ := Aside0.mk (Kept.of_grown (S := (fun k_ => P0_ k_)) hg (by repeat (first | (with_reducible first | exact HK.out | apply Kept.alloc | apply Kept.drewN | apply Kept.drew) | exact HK.out)) (fun k_ e_ => (HO_0.out.1 k_ e_))); clear HO_0; clear HB; clear HK; have HO_0 := n0_; have HB := n1_; have HK := n2_; clear n0_ n1_ n2_; clear hg hw hp_; have p7 : 0 ≤ (x5_1 : Int) := of_decide_eq_true (by first | (with_reducible assumption) | assumption); have q7 : (x5_1 : Int) < ((x0_1.length : Int) : Int) := of_decide_eq_true (by first | (with_reducible assumption) | assumption); obtain ⟨ce7, hcl7, hM7, hcc7, hfr7⟩ := Kd.R_elem HO_0.out z44 (x5_1 : Int) p7 q7; obtain rfl := k44_openM hM7; have hx7_0 : w12.cell? ⟨go5, (x5_1 : Int).toNat * 3, none⟩ = some (.int .i64 ((rd_T44 y239 x5_1).f0)) := hcc7 0 _ rfl; have hx7_1 : w12.cell? ⟨go5, (x5_1 : Int).toNat * 3 + 1, none⟩ = some (.int .i64 ((rd_T44 y239 x5_1).f1)) := hcc7 1 _ rfl; have hx7_2 : w12.cell? ⟨go5, (x5_1 : Int).toNat * 3 + 2, none⟩ = some (.int .i64 ((rd_T44 y239 x5_1).f2)) := hcc7 2 _ rfl; have hf7_0 : w12.frozen? ⟨go5, (x5_1 : Int).toNat * 3, none⟩ = false := hfr7 0; have hf7_1 : w12.frozen? ⟨go5, (x5_1 : Int).toNat * 3 + 1, none⟩ = false := hfr7 1; have hf7_2 : w12.frozen? ⟨go5, (x5_1 : Int).toNat * 3 + 2, none⟩ = false := hfr7 2; clear hcl7 hcc7 hfr7 hM7; replace p7 := eq_true p7; replace q7 := eq_true q7; have HX13 := Aside0.mk (show Kd.R k44 44 w12 w0.heap.size (fun k_ => (P0_ k_ ∨ w.heap.size ≤ k_)) (.slice (some ⟨go5, 0, none⟩) x0_1.length co8) y239 from (by (with_reducible repeat (first | apply Kd.R_alloc | apply Kd.R_drewN | apply Kd.R_drew)); exact HO_0.out)); obtain ⟨ce13, hcl13, hM13, hcc13, hfr13⟩ := Kd.R_elem HX13.out z44 (x5_1 : Int) (of_decide_eq_true (by first | (with_reducible assumption) | assumption)) (by have h_ : (x5_1 : Int) < ((x0_1.length : Int) : Int) := of_decide_eq_true (by first | (with_reducible assumption) | assumption); first | exact h_ | (have e_ := (Kd.R_reads' HO_0.out).1; omega) | simpa using h_); obtain rfl := k44_openM hM13; have HP13 := Kd.R_seg HX13.out (x5_1 : Int) (of_decide_eq_true (by first | (with_reducible assumption) | assumption)) (by have h_ : (x5_1 : Int) < ((x0_1.length : Int) : Int) := of_decide_eq_true (by first | (with_reducible assumption) | assumption); first | exact h_ | (have e_ := (Kd.R_reads' HO_0.out).1; omega) | simpa using h_) (seg := [.int .i64 (wrap64 ((wrap64 (x1_1 + 1)) + 1))]) (j := 2) hcl13 hcc13 (show 3 ≤ 3 from by decide) (x' := (⟨(rd_T44 y239 x5_1).f0, (rd_T44 y239 x5_1).f1, wrap64 ((wrap64 (x1_1 + 1)) + 1)⟩ : S44)) (k44_mkM _ _ _ (⟨(rd_T44 y239 x5_1).f0, (rd_T44 y239 x5_1).f1, wrap64 ((wrap64 (x1_1 + 1)) + 1)⟩ : S44) ) (fun _ hk => hk); have hx13_2 := hcc13 2 _ rfl; (try simp only [show (k44).sz = 3 from rfl, Nat.mul_one, Nat.add_zero] at hx13_2); have hf13_2 := hfr13 2; (try simp only [show (k44).sz = 3 from rfl, Nat.mul_one, Nat.add_zero] at hf13_2); clear hcl13 hcc13 hfr13 hM13) | ((with_reducible refine gate_store (t := 3) (p := 30) rfl ?_); refine store_event (t := 3) (p := 30) (v := ?vo_w14) (w1 := (w12.setCell ⟨go5, (x5_1 : Int).toNat * 3 + 2, none⟩ (.int .i64 (wrap64 ((wrap64 (x1_1 + 1)) + 1))))) ?hg ?ho ?hn ?hr ?_; (case ho => rfl); (case hg => rfl); (case hn => rfl); (case hr => first | (go_simp; done) | (go_simp; rfl)); intro w14 hw; have hg : w12.grownBy w14 (some go5) := (by rw [hw]; exact HP13.2); have hp_ : Kd.R k44 44 w14 w0.heap.size (fun k_ => (P0_ k_ ∨ w.heap.size ≤ k_)) (.slice (some ⟨go5, 0, none⟩) x0_1.length co8) y240 := (by rw [hw, Ny240.out]; exact HP13.1); clear HP13; have n0_ := Aside0.mk (hp_); have n1_ := Aside0.mk ((by rw [hw]; exact below_set (HB.out) GB5.out : Below w0.heap.size w0 w14)); have n2_ := Aside0.mk (Kept.of_grown (S := (fun k_ => P0_ k_)) hg (by repeat (first | (with_reducible first | exact HK.out | apply Kept.alloc | apply Kept.drewN | apply Kept.drew) | exact HK.out)) (fun k_ e_ => (HO_0.out.1 k_ e_))); clear HO_0; clear HB; clear HK; have HO_0 := n0_; have HB := n1_; have HK := n2_; clear n0_ n1_ n2_; clear hg hw hp_))
          go_roundg k1
          case measure => have := HK1.out; omega
          case rel => exact ⟨(y240), (wrap64 ((wrap64 ((wrap64 (x1_1 + 1)) + 1)) + 1)), (wrap64 (x5_1 + 1)), (by first | rfl | (simp; done) | (simp [*]; done)), (by first | rfl | (simp; done) | (simp [*]; done)), H', ⟨by have := HK1.out; omega⟩, ⟨by (with_reducible repeat (first | apply Kd.R_alloc | apply Kd.R_drewN | apply Kd.R_drew)); exact HO_0.out⟩, ⟨by repeat (first | (with_reducible first | exact HK.out | apply Kept.alloc | apply Kept.drewN | apply Kept.drew) | exact HK.out)⟩, ⟨by repeat (first | (with_reducible first | exact HB.out | apply below_alloc | apply pw_below_drewN | apply below_drew1) | exact HB.out)⟩⟩
        · rw [if_neg c4] at H
          exact absurd H (by simp)
      · rw [if_neg c3] at H
        have c3b0 : decide (x5_1 < (x0_1.length : Int)) = false := decide_eq_false c3
        clear c3
        simp only [Option.some.injEq, Prod.mk.injEq] at H
        obtain ⟨rfl, rfl⟩ := H
        obtain ⟨Ao15, co15, eo15⟩ := Kd.R_slice HO_0.out
        subst eo15
        go_wp2
        go_ret
        exact ⟨by first | rfl | (simp [errW_none, errW_some] <;> rfl) | (simp [*, errW_none, errW_some] <;> rfl), by (with_reducible repeat (first | apply Kd.R_alloc | apply Kd.R_drewN | apply Kd.R_drew)); exact HO_0.out, by repeat (first | (with_reducible first | exact HB.out | apply below_alloc | apply pw_below_drewN | apply below_drew1) | exact HB.out), by repeat (first | (with_reducible first | exact HK.out | apply Kept.alloc | apply Kept.drewN | apply Kept.drew) | exact HK.out)⟩

end Go.Proofs.YtcfcjpcoofjckaaDoor.Pr

-- Written by a program for this claim.
namespace Go.Proofs.YtcfcjpcoofjckaaDoor.Pr
open Go.RowKit Go.Proofs.YtcfcjpcoofjckaaDoorW.PrintWords Go.Proofs.YtcfcjpcoofjckaaDoorW.PrintLast Go.Proofs.YtcfcjpcoofjckaaDoorW.PrintMore
attribute [local go_sem] max2_int min2_int max_two min_two max_three min_three max_four min_four   -- for this text's walks alone
set_option linter.unusedVariables false
set_option linter.unusedSimpArgs false

/-! ### laws_markPuzzle: function 12 -/
def laws_markPuzzle.f (k : Nat) (l0_0 : List (S44)) (a1 : Int) : Option (Int × (List (S44))) := (laws_markClueS.f k l0_0 a1).bind fun bt242 => (some (bt242.1, bt242.2))
theorem laws_markPuzzle.mono : ∀ a0 a1 k, LeO (laws_markPuzzle.f k a0 a1) (laws_markPuzzle.f (k + 1) a0 a1) := by
  intro a0 a1 k
  unfold laws_markPuzzle.f
  repeat' first
      | (with_reducible exact laws_markClueS.mono _ _ _)
      | (with_reducible exact LeO.refl _)
      | (with_reducible exact LeO.none _)
      | (with_reducible refine LeO.ite ?_ ?_)
      | (with_reducible refine LeO.bind ?_ (fun _ => ?_))
      | exact laws_markClueS.mono _ _ _
      | exact LeO.none _
      | refine LeO.ite ?_ ?_
      | refine LeO.bind ?_ (fun _ => ?_)
set_option maxHeartbeats 8000000 in
set_option maxRecDepth 100000 in
theorem laws_markPuzzle.calls (k : Nat) (P0_0_ : Nat → Prop) (u9000_ : Value) (l0_0 : List (S44)) (a1 : Int) (r1 : Int) (r2 : List (S44)) (w0 w : World) (hB : Below w0.heap.size w0 w) (ho0_0 : Kd.R k44 44 w w0.heap.size P0_0_ u9000_ l0_0) (h : laws_markPuzzle.f k l0_0 a1 = some (r1, r2)) :
    Calls Tryd.prog 12 #[.agg #[u9000_], .int .i64 a1] w fun e w' => e = .returned (.int .i64 r1) ∧ Kd.R k44 44 w' w0.heap.size (fun k_ => (P0_0_ k_ ∨ w.heap.size ≤ k_)) u9000_ r2 ∧ Below w0.heap.size w0 w' ∧ Kept w w' (fun k_ => P0_0_ k_) := by
  have hu30 := Tryd.underlying30
  have HO0_0 := Aside0.mk (show Kd.R k44 44 w w0.heap.size (fun k_ => (P0_0_ k_ ∨ w.heap.size ≤ k_)) u9000_ l0_0 from Kd.R_mono ho0_0 (fun k_ hk => (.inl hk)))
  have HK := Aside0.mk (Kept.refl w (fun k_ => P0_0_ k_))
  have HW0 := Aside0.mk hB.size
  have HB := Aside0.mk hB
  clear hB
  have H : ((laws_markClueS.f k l0_0 a1).bind fun bt242 => (some (bt242.1, bt242.2))) = some (r1, r2) := h
  clear h
  replace H := Option.bind_eq_some_iff.mp H
  obtain ⟨⟨t242, t243⟩, A30, H⟩ := H
  replace H : (some (t242, t243)) = some (r1, r2) := H
  have A3 := Aside0.mk A30
  clear A30
  simp only [Option.some.injEq, Prod.mk.injEq] at H
  obtain ⟨rfl, rfl⟩ := H
  obtain ⟨Ao4, co4, eo4⟩ := Kd.R_slice HO0_0.out
  subst eo4
  go_enter Tryd.func12, Tryd.ntmps12
  go_wp2_with (first | ((with_reducible refine gate_dst (N := 2) rfl ?_); refine box_event ?hg (N := 2) ?hd (cs := #[.slice Ao4 l0_0.length co4]) (t := 30) ?hr ?_; (case hd => rfl); (case hg => rfl); (case hr => first | (go_simp; done) | (go_simp; rfl)); intro gb241 hg w5 hbox hb; have n0_ := Aside0.mk (Kd.R_below (by (with_reducible repeat (first | apply Kd.R_alloc | apply Kd.R_drewN | apply Kd.R_drew)); exact HO0_0.out) hb); have n1_ := Aside0.mk (Kept.below (S := (fun k_ => P0_0_ k_)) (by repeat (first | (with_reducible first | exact HK.out | apply Kept.alloc | apply Kept.drewN | apply Kept.drew) | exact HK.out)) hb); have n2_ := Aside0.mk (below_step (by repeat (first | (with_reducible first | exact HB.out | apply below_alloc | apply pw_below_drewN | apply below_drew1) | exact HB.out)) hb); have n3_ := Aside0.mk (hbox); have n4_ := Aside0.mk ((by rw [hg]; exact (by first | exact HK.out.1 | exact (show Kept w _ (fun k_ => P0_0_ k_) from by repeat (first | (with_reducible first | exact HK.out | apply Kept.alloc | apply Kept.drewN | apply Kept.drew) | exact HK.out)).1) : w.heap.size ≤ gb241)); have n5_ := Aside0.mk ((by rw [hg]; exact (below_size (by repeat (first | (with_reducible first | exact HB.out | apply below_alloc | apply pw_below_drewN | apply below_drew1) | exact HB.out))) : w0.heap.size ≤ gb241)); clear HO0_0; clear HK; clear HB; have HO0_0 := n0_; have HK := n1_; have HB := n2_; have BK241 := n3_; have GW241 := n4_; have GE241 := n5_; clear n0_ n1_ n2_ n3_ n4_ n5_; clear hb hbox hg; have hcz6_0 : w5.cell? ⟨gb241, 0, none⟩ = some (.slice Ao4 l0_0.length co4) := (blk_cell BK241.out 0).trans rfl; have hfz6_0 := blk_frozen BK241.out 0) | ((with_reducible refine gate_callee (f := 25) rfl ?_); refine goesL_ (some 8) rfl rfl Tryd.func25 (by kernel_rfl) rfl #[.slice Ao4 l0_0.length co4, .int .i64 a1] rfl (by (try simp only [List.map_toArray, List.map_cons, List.map_nil]); first | done | rfl | (simp only [List.length_drop, List.length_take]; rfl)) ?_; (with_reducible refine (laws_markClueS.calls k (fun k_ => some k_ = (.slice Ao4 l0_0.length co4 : Value).ownBlock) (.slice Ao4 l0_0.length co4) l0_0 a1 t242 t243 w0 _ ?side1 ?side2 A3.out).mono ?_); (case side1 => repeat (first | (with_reducible first | exact HB.out | apply below_alloc | apply pw_below_drewN | apply below_drew1 | refine below_set ?_ GE241.out) | exact HB.out)); (case side2 => exact Kd.R_tight rfl HO0_0.out); rintro e w7 ⟨rfl, hy0, hb, hkp⟩; refine ⟨_, rfl, ?_⟩; have n0_ := Aside0.mk (Kd.R_reok rfl hy0 (fun k_ e_ => HO0_0.out.1 k_ e_)); have n1_ := Aside0.mk (blk_kept (by (with_reducible repeat (first | refine blk_drewN ?_ _ | refine blk_drew ?_ | refine blk_alloc ?_ _)); exact BK241.out) hkp (fun hs_ => (fun e_ => (Kd.R_ne HO0_0.out BK241.out (by decide)) e_) hs_)); have n2_ := Aside0.mk (Kept.then_ (S := (fun k_ => P0_0_ k_)) (by repeat (first | (with_reducible first | exact HK.out | apply Kept.alloc | apply Kept.drewN | apply Kept.drew | refine Kept.setCell ?_ (.inr GW241.out) _) | exact HK.out)) hkp (fun k_ hs_ => (fun e_ => (HO0_0.out.1 k_ e_.symm)) hs_)); have n3_ := Aside0.mk (hb); clear HO0_0; clear BK241; clear HK; clear HB; have HO0_0 := n0_; have BK241 := n1_; have HK := n2_; have HB := n3_; clear n0_ n1_ n2_ n3_; (try clear hb); (try clear hkp); (try clear hy0)))
  go_ret
  exact ⟨by first | rfl | (simp [errW_none, errW_some] <;> rfl) | (simp [*, errW_none, errW_some] <;> rfl), by (with_reducible repeat (first | apply Kd.R_alloc | apply Kd.R_drewN | apply Kd.R_drew)); exact HO0_0.out, by repeat (first | (with_reducible first | exact HB.out | apply below_alloc | apply pw_below_drewN | apply below_drew1 | refine below_set ?_ GE241.out) | exact HB.out), by repeat (first | (with_reducible first | exact HK.out | apply Kept.alloc | apply Kept.drewN | apply Kept.drew | refine Kept.setCell ?_ (.inr GW241.out) _) | exact HK.out)⟩

end Go.Proofs.YtcfcjpcoofjckaaDoor.Pr

-- Written by a program for this claim.
namespace Go.Proofs.YtcfcjpcoofjckaaDoor.Pr
open Go.RowKit Go.Proofs.YtcfcjpcoofjckaaDoorW.PrintWords Go.Proofs.YtcfcjpcoofjckaaDoorW.PrintLast Go.Proofs.YtcfcjpcoofjckaaDoorW.PrintMore
attribute [local go_sem] max2_int min2_int max_two min_two max_three min_three max_four min_four   -- for this text's walks alone
set_option linter.unusedVariables false
set_option linter.unusedSimpArgs false

/-! ### laws_heldClueS: function 26 -/
def laws_heldClueS.l0 : Nat → List (S44) → Int → Int → Option (Int)
  | 0, _, _, _ => none
  | k + 1, x0, x1, x5 => if x5 < (x0.length : Int) then (if 0 ≤ x5 then (if ((rd_T44 x0 x5).f0) = x1 then (if ((rd_T44 x0 x5).f1) = (wrap64 (x1 + 1)) then (if ((rd_T44 x0 x5).f2) = (wrap64 ((wrap64 (x1 + 1)) + 1)) then (laws_heldClueS.l0 k x0 (wrap64 ((wrap64 ((wrap64 (x1 + 1)) + 1)) + 1)) (wrap64 (x5 + 1))) else (some (-1))) else (some (-1))) else (some (-1))) else (none)) else (some x1)
def laws_heldClueS.f (k : Nat) (l0 : List (S44)) (a1 : Int) : Option (Int) := laws_heldClueS.l0 k l0 a1 0
theorem laws_heldClueS.mono_l : ∀ k, (∀ y0 y1 y2, LeO (laws_heldClueS.l0 k y0 y1 y2) (laws_heldClueS.l0 (k + 1) y0 y1 y2))
  | 0 => fun _ _ _ r h => by simp [laws_heldClueS.l0] at h
  | k + 1 => by
    have ih0 := laws_heldClueS.mono_l k
    · intro y0 y1 y2
      unfold laws_heldClueS.l0
      repeat' first
      | (with_reducible exact ih0 _ _ _)
      | (with_reducible exact LeO.refl _)
      | (with_reducible exact LeO.none _)
      | (with_reducible refine LeO.ite ?_ ?_)
      | (with_reducible refine LeO.bind ?_ (fun _ => ?_))
      | exact ih0 _ _ _
      | exact LeO.none _
      | refine LeO.ite ?_ ?_
      | refine LeO.bind ?_ (fun _ => ?_)
theorem laws_heldClueS.mono : ∀ a0 a1 k, LeO (laws_heldClueS.f k a0 a1) (laws_heldClueS.f (k + 1) a0 a1) := by
  intro a0 a1 k
  have ih0 := laws_heldClueS.mono_l k
  unfold laws_heldClueS.f
  repeat' first
      | (with_reducible exact ih0 _ _ _)
      | (with_reducible exact LeO.refl _)
      | (with_reducible exact LeO.none _)
      | (with_reducible refine LeO.ite ?_ ?_)
      | (with_reducible refine LeO.bind ?_ (fun _ => ?_))
      | exact ih0 _ _ _
      | exact LeO.none _
      | refine LeO.ite ?_ ?_
      | refine LeO.bind ?_ (fun _ => ?_)
set_option maxHeartbeats 8000000 in
set_option maxRecDepth 100000 in
theorem laws_heldClueS.calls (k : Nat) (A0 : Option Addr) (c0 : Nat) (l0 : List (S44)) (a1 : Int) (r : Int) (w : World) (hr0 : Kd.C k44 w A0 l0.length l0) (hc0 : l0.length ≤ c0) (h : laws_heldClueS.f k l0 a1 = some r) :
    Calls Tryd.prog 26 #[.slice A0 l0.length c0, .int .i64 a1] w fun e w' => e = .returned (.int .i64 r) ∧ Drawn0 w w' := by
  have HR0 := Aside0.mk hr0
  have HC0 := Aside0.mk hc0
  clear hr0 hc0
  have H : (laws_heldClueS.l0 k l0 a1 0) = some r := h
  clear h
  have H' := Aside0.mk H
  clear H
  go_enter Tryd.func26, Tryd.ntmps26
  go_wp2
  go_loopg [1, 5] k (fun kq v1 v5 w' => ∃ (x1_1 : Int) (x5_1 : Int), v1 = .int .i64 x1_1 ∧ v5 = .int .i64 x5_1 ∧ Aside0 (laws_heldClueS.l0 kq l0 x1_1 x5_1 = some r) ∧ Aside0 (kq ≤ k) ∧ Drawn0 w w')
  case atStart => exact ⟨(a1), (0), (by first | rfl | (simp; done) | (simp [*]; done)), (by first | rfl | (simp; done) | (simp [*]; done)), H', ⟨Nat.le_refl _⟩, by repeat (first | exact Drawn0.refl _ | apply Drawn0.step)⟩
  case round =>
    clear H'
    try clear c2
    try clear p2
    obtain ⟨x1_1, x5_1, rfl, rfl, HA, HK1, ⟨m1, rfl⟩⟩ := hrel
    cases gk with
    | zero => exact absurd HA.out (by simp [laws_heldClueS.l0])
    | succ k1 =>
      have H := HA.out
      clear HA
      simp only [laws_heldClueS.l0] at H
      by_cases c3 : x5_1 < (l0.length : Int)
      · rw [if_pos c3] at H
        have c3b0 : decide (x5_1 < (l0.length : Int)) = true := decide_eq_true c3
        clear c3
        by_cases c4 : 0 ≤ x5_1
        · rw [if_pos c4] at H
          have c4b0 : decide (0 ≤ x5_1) = true := decide_eq_true c4
          clear c4
          by_cases c5 : ((rd_T44 l0 x5_1).f0) = x1_1
          · rw [if_pos c5] at H
            have c5b0 : (((rd_T44 l0 x5_1).f0) == x1_1) = true := beq_iff_eq.mpr c5
            have c5b1 : (((rd_T44 l0 x5_1).f0) != x1_1) = false := bne_eq_false_iff_eq.mpr c5
            clear c5
            by_cases c6 : ((rd_T44 l0 x5_1).f1) = (wrap64 (x1_1 + 1))
            · rw [if_pos c6] at H
              have c6b0 : (((rd_T44 l0 x5_1).f1) == (wrap64 (x1_1 + 1))) = true := beq_iff_eq.mpr c6
              have c6b1 : (((rd_T44 l0 x5_1).f1) != (wrap64 (x1_1 + 1))) = false := bne_eq_false_iff_eq.mpr c6
              clear c6
              by_cases c7 : ((rd_T44 l0 x5_1).f2) = (wrap64 ((wrap64 (x1_1 + 1)) + 1))
              · rw [if_pos c7] at H
                have c7b0 : (((rd_T44 l0 x5_1).f2) == (wrap64 ((wrap64 (x1_1 + 1)) + 1))) = true := beq_iff_eq.mpr c7
                have c7b1 : (((rd_T44 l0 x5_1).f2) != (wrap64 ((wrap64 (x1_1 + 1)) + 1))) = false := bne_eq_false_iff_eq.mpr c7
                clear c7
                have H' := Aside0.mk H
                clear H
                have p244 : 0 ≤ (x5_1 : Int) := of_decide_eq_true (by first | (with_reducible assumption) | assumption)
                have q244 : x5_1 < (l0.length : Int) := of_decide_eq_true (by first | (with_reducible assumption) | assumption)
                obtain ⟨ad244, e244, hx244_0, hx244_1, hx244_2⟩ := at_T44 HR0.out x5_1 p244 q244
                cases e244
                replace p244 := eq_true p244
                replace q244 := eq_true q244
                have p245 : 0 ≤ (x5_1 : Int) := of_decide_eq_true (by first | (with_reducible assumption) | assumption)
                have q245 : x5_1 < (l0.length : Int) := of_decide_eq_true (by first | (with_reducible assumption) | assumption)
                obtain ⟨ad245, e245, hx245_0, hx245_1, hx245_2⟩ := at_T44 HR0.out x5_1 p245 q245
                obtain rfl : ad244 = ad245 := (by injection e245)
                replace p245 := eq_true p245
                replace q245 := eq_true q245
                have p246 : 0 ≤ (x5_1 : Int) := of_decide_eq_true (by first | (with_reducible assumption) | assumption)
                have q246 : x5_1 < (l0.length : Int) := of_decide_eq_true (by first | (with_reducible assumption) | assumption)
                obtain ⟨ad246, e246, hx246_0, hx246_1, hx246_2⟩ := at_T44 HR0.out x5_1 p246 q246
                obtain rfl : ad244 = ad246 := (by injection e246)
                replace p246 := eq_true p246
                replace q246 := eq_true q246
                go_wp2
                go_roundg k1
                case measure => have := HK1.out; omega
                case rel => exact ⟨(wrap64 ((wrap64 ((wrap64 (x1_1 + 1)) + 1)) + 1)), (wrap64 (x5_1 + 1)), (by first | rfl | (simp; done) | (simp [*]; done)), (by first | rfl | (simp; done) | (simp [*]; done)), H', ⟨by have := HK1.out; omega⟩, by repeat (first | exact Drawn0.refl _ | apply Drawn0.step)⟩
              · rw [if_neg c7] at H
                have c7b0 : (((rd_T44 l0 x5_1).f2) == (wrap64 ((wrap64 (x1_1 + 1)) + 1))) = false := beq_eq_false_iff_ne.mpr c7
                have c7b1 : (((rd_T44 l0 x5_1).f2) != (wrap64 ((wrap64 (x1_1 + 1)) + 1))) = true := bne_iff_ne.mpr c7
                obtain rfl := Option.some.inj H
                have p244 : 0 ≤ (x5_1 : Int) := of_decide_eq_true (by first | (with_reducible assumption) | assumption)
                have q244 : x5_1 < (l0.length : Int) := of_decide_eq_true (by first | (with_reducible assumption) | assumption)
                obtain ⟨ad244, e244, hx244_0, hx244_1, hx244_2⟩ := at_T44 HR0.out x5_1 p244 q244
                cases e244
                replace p244 := eq_true p244
                replace q244 := eq_true q244
                have p245 : 0 ≤ (x5_1 : Int) := of_decide_eq_true (by first | (with_reducible assumption) | assumption)
                have q245 : x5_1 < (l0.length : Int) := of_decide_eq_true (by first | (with_reducible assumption) | assumption)
                obtain ⟨ad245, e245, hx245_0, hx245_1, hx245_2⟩ := at_T44 HR0.out x5_1 p245 q245
                obtain rfl : ad244 = ad245 := (by injection e245)
                replace p245 := eq_true p245
                replace q245 := eq_true q245
                have p246 : 0 ≤ (x5_1 : Int) := of_decide_eq_true (by first | (with_reducible assumption) | assumption)
                have q246 : x5_1 < (l0.length : Int) := of_decide_eq_true (by first | (with_reducible assumption) | assumption)
                obtain ⟨ad246, e246, hx246_0, hx246_1, hx246_2⟩ := at_T44 HR0.out x5_1 p246 q246
                obtain rfl : ad244 = ad246 := (by injection e246)
                replace p246 := eq_true p246
                replace q246 := eq_true q246
                go_wp2
                go_ret
                exact ⟨by first | rfl | (simp; done) | (simp [*]; done), by repeat (first | exact Drawn0.refl _ | apply Drawn0.step)⟩
            · rw [if_neg c6] at H
              have c6b0 : (((rd_T44 l0 x5_1).f1) == (wrap64 (x1_1 + 1))) = false := beq_eq_false_iff_ne.mpr c6
              have c6b1 : (((rd_T44 l0 x5_1).f1) != (wrap64 (x1_1 + 1))) = true := bne_iff_ne.mpr c6
              obtain rfl := Option.some.inj H
              have p244 : 0 ≤ (x5_1 : Int) := of_decide_eq_true (by first | (with_reducible assumption) | assumption)
              have q244 : x5_1 < (l0.length : Int) := of_decide_eq_true (by first | (with_reducible assumption) | assumption)
              obtain ⟨ad244, e244, hx244_0, hx244_1, hx244_2⟩ := at_T44 HR0.out x5_1 p244 q244
              cases e244
              replace p244 := eq_true p244
              replace q244 := eq_true q244
              have p245 : 0 ≤ (x5_1 : Int) := of_decide_eq_true (by first | (with_reducible assumption) | assumption)
              have q245 : x5_1 < (l0.length : Int) := of_decide_eq_true (by first | (with_reducible assumption) | assumption)
              obtain ⟨ad245, e245, hx245_0, hx245_1, hx245_2⟩ := at_T44 HR0.out x5_1 p245 q245
              obtain rfl : ad244 = ad245 := (by injection e245)
              replace p245 := eq_true p245
              replace q245 := eq_true q245
              go_wp2
              go_ret
              exact ⟨by first | rfl | (simp; done) | (simp [*]; done), by repeat (first | exact Drawn0.refl _ | apply Drawn0.step)⟩
          · rw [if_neg c5] at H
            have c5b0 : (((rd_T44 l0 x5_1).f0) == x1_1) = false := beq_eq_false_iff_ne.mpr c5
            have c5b1 : (((rd_T44 l0 x5_1).f0) != x1_1) = true := bne_iff_ne.mpr c5
            obtain rfl := Option.some.inj H
            have p244 : 0 ≤ (x5_1 : Int) := of_decide_eq_true (by first | (with_reducible assumption) | assumption)
            have q244 : x5_1 < (l0.length : Int) := of_decide_eq_true (by first | (with_reducible assumption) | assumption)
            obtain ⟨ad244, e244, hx244_0, hx244_1, hx244_2⟩ := at_T44 HR0.out x5_1 p244 q244
            cases e244
            replace p244 := eq_true p244
            replace q244 := eq_true q244
            go_wp2
            go_ret
            exact ⟨by first | rfl | (simp; done) | (simp [*]; done), by repeat (first | exact Drawn0.refl _ | apply Drawn0.step)⟩
        · rw [if_neg c4] at H
          exact absurd H (by simp)
      · rw [if_neg c3] at H
        have c3b0 : decide (x5_1 < (l0.length : Int)) = false := decide_eq_false c3
        clear c3
        obtain rfl := Option.some.inj H
        go_wp2
        go_ret
        exact ⟨by first | rfl | (simp; done) | (simp [*]; done), by repeat (first | exact Drawn0.refl _ | apply Drawn0.step)⟩

end Go.Proofs.YtcfcjpcoofjckaaDoor.Pr

-- Written by a program for this claim.
namespace Go.Proofs.YtcfcjpcoofjckaaDoor.Pr
open Go.RowKit Go.Proofs.YtcfcjpcoofjckaaDoorW.PrintWords Go.Proofs.YtcfcjpcoofjckaaDoorW.PrintLast Go.Proofs.YtcfcjpcoofjckaaDoorW.PrintMore
attribute [local go_sem] max2_int min2_int max_two min_two max_three min_three max_four min_four   -- for this text's walks alone
set_option linter.unusedVariables false
set_option linter.unusedSimpArgs false

/-! ### laws_heldPuzzle: function 13 -/
def laws_heldPuzzle.f (k : Nat) (l0_0 : List (S44)) (a1 : Int) : Option (Int) := (laws_heldClueS.f k l0_0 a1).bind fun t248 => (if t248 < 0 then (some (-1)) else (some t248))
theorem laws_heldPuzzle.mono : ∀ a0 a1 k, LeO (laws_heldPuzzle.f k a0 a1) (laws_heldPuzzle.f (k + 1) a0 a1) := by
  intro a0 a1 k
  unfold laws_heldPuzzle.f
  repeat' first
      | (with_reducible exact laws_heldClueS.mono _ _ _)
      | (with_reducible exact LeO.refl _)
      | (with_reducible exact LeO.none _)
      | (with_reducible refine LeO.ite ?_ ?_)
      | (with_reducible refine LeO.bind ?_ (fun _ => ?_))
      | exact laws_heldClueS.mono _ _ _
      | exact LeO.none _
      | refine LeO.ite ?_ ?_
      | refine LeO.bind ?_ (fun _ => ?_)
set_option maxHeartbeats 8000000 in
set_option maxRecDepth 100000 in
theorem laws_heldPuzzle.calls (k : Nat) (A0_0 : Option Addr) (c0_0 : Nat) (l0_0 : List (S44)) (a1 : Int) (r : Int) (w : World) (hr0_0 : Kd.C k44 w A0_0 l0_0.length l0_0) (hc0_0 : l0_0.length ≤ c0_0) (h : laws_heldPuzzle.f k l0_0 a1 = some r) :
    Calls Tryd.prog 13 #[.agg #[.slice A0_0 l0_0.length c0_0], .int .i64 a1] w fun e w' => e = .returned (.int .i64 r) ∧ Below w.heap.size w w' := by
  have hu30 := Tryd.underlying30
  have HR0_0 := Aside0.mk hr0_0
  have HC0_0 := Aside0.mk hc0_0
  clear hr0_0 hc0_0
  have HB := Aside0.mk (Below.refl w.heap.size w)
  have H : ((laws_heldClueS.f k l0_0 a1).bind fun t248 => (if t248 < 0 then (some (-1)) else (some t248))) = some r := h
  clear h
  replace H := Option.bind_eq_some_iff.mp H
  obtain ⟨t248, A30, H⟩ := H
  replace H : (if t248 < 0 then (some (-1)) else (some t248)) = some r := H
  have A3 := Aside0.mk A30
  clear A30
  by_cases c4 : t248 < 0
  · rw [if_pos c4] at H
    have c4b0 : decide (t248 < 0) = true := decide_eq_true c4
    clear c4
    obtain rfl := Option.some.inj H
    go_enter Tryd.func13, Tryd.ntmps13
    go_wp2_with (first | ((with_reducible refine gate_dst (N := 2) rfl ?_); refine box_event ?hg (N := 2) ?hd (cs := #[.slice A0_0 l0_0.length c0_0]) (t := 30) ?hr ?_; (case hd => rfl); (case hg => rfl); (case hr => first | (go_simp; done) | (go_simp; rfl)); intro gb247 hg w5 hbox hb; have n0_ := Aside0.mk (below_step (by repeat (first | (with_reducible first | exact HB.out | apply below_alloc | apply pw_below_drewN | apply below_drew1) | exact HB.out)) hb); have n1_ := Aside0.mk (hbox); have n2_ := Aside0.mk ((by rw [hg]; exact (below_size (by repeat (first | (with_reducible first | exact HB.out | apply below_alloc | apply pw_below_drewN | apply below_drew1) | exact HB.out))) : w.heap.size ≤ gb247)); have n3_ := Aside0.mk ((by rw [hg]; exact (below_size (by repeat (first | (with_reducible first | exact HB.out | apply below_alloc | apply pw_below_drewN | apply below_drew1) | exact HB.out))) : w.heap.size ≤ gb247)); clear HB; have HB := n0_; have BK247 := n1_; have GW247 := n2_; have GE247 := n3_; clear n0_ n1_ n2_ n3_; clear hb hbox hg; have hcz6_0 : w5.cell? ⟨gb247, 0, none⟩ = some (.slice A0_0 l0_0.length c0_0) := (blk_cell BK247.out 0).trans rfl; have hfz6_0 := blk_frozen BK247.out 0) | ((with_reducible refine gate_callee (f := 26) rfl ?_); refine goesL_ (some 8) rfl rfl Tryd.func26 (by kernel_rfl) rfl #[.slice A0_0 l0_0.length c0_0, .int .i64 a1] rfl (by (try simp only [List.map_toArray, List.map_cons, List.map_nil]); first | done | rfl | (simp only [List.length_drop, List.length_take]; rfl)) ?_; (with_reducible refine (laws_heldClueS.calls k _ _ l0_0 a1 t248 _ ?side1 ?side2 A3.out).mono ?_); (case side1 => repeat (first | exact (Kd.C_below HR0_0.out HB.out) | (with_reducible refine Kd.C_alloc ?_ _) | (with_reducible refine Kd.C_drewN ?_ _) | (with_reducible refine Kd.C_drew ?_))); (case side2 => exact HC0_0.out); rintro e w' ⟨rfl, ⟨nd, rfl⟩⟩; refine ⟨_, rfl, ?_⟩))
    go_ret
    exact ⟨by first | rfl | (simp [errW_none, errW_some] <;> rfl) | (simp [*, errW_none, errW_some] <;> rfl), by repeat (first | (with_reducible first | exact HB.out | apply below_alloc | apply pw_below_drewN | apply below_drew1 | refine below_set ?_ GE247.out) | exact HB.out)⟩
  · rw [if_neg c4] at H
    have c4b0 : decide (t248 < 0) = false := decide_eq_false c4
    clear c4
    obtain rfl := Option.some.inj H
    go_enter Tryd.func13, Tryd.ntmps13
    go_wp2_with (first | ((with_reducible refine gate_dst (N := 2) rfl ?_); refine box_event ?hg (N := 2) ?hd (cs := #[.slice A0_0 l0_0.length c0_0]) (t := 30) ?hr ?_; (case hd => rfl); (case hg => rfl); (case hr => first | (go_simp; done) | (go_simp; rfl)); intro gb247 hg w7 hbox hb; have n0_ := Aside0.mk (below_step (by repeat (first | (with_reducible first | exact HB.out | apply below_alloc | apply pw_below_drewN | apply below_drew1) | exact HB.out)) hb); have n1_ := Aside0.mk (hbox); have n2_ := Aside0.mk ((by rw [hg]; exact (below_size (by repeat (first | (with_reducible first | exact HB.out | apply below_alloc | apply pw_below_drewN | apply below_drew1) | exact HB.out))) : w.heap.size ≤ gb247)); have n3_ := Aside0.mk ((by rw [hg]; exact (below_size (by repeat (first | (with_reducible first | exact HB.out | apply below_alloc | apply pw_below_drewN | apply below_drew1) | exact HB.out))) : w.heap.size ≤ gb247)); clear HB; have HB := n0_; have BK247 := n1_; have GW247 := n2_; have GE247 := n3_; clear n0_ n1_ n2_ n3_; clear hb hbox hg; have hcz8_0 : w7.cell? ⟨gb247, 0, none⟩ = some (.slice A0_0 l0_0.length c0_0) := (blk_cell BK247.out 0).trans rfl; have hfz8_0 := blk_frozen BK247.out 0) | ((with_reducible refine gate_callee (f := 26) rfl ?_); refine goesL_ (some 8) rfl rfl Tryd.func26 (by kernel_rfl) rfl #[.slice A0_0 l0_0.length c0_0, .int .i64 a1] rfl (by (try simp only [List.map_toArray, List.map_cons, List.map_nil]); first | done | rfl | (simp only [List.length_drop, List.length_take]; rfl)) ?_; (with_reducible refine (laws_heldClueS.calls k _ _ l0_0 a1 t248 _ ?side1 ?side2 A3.out).mono ?_); (case side1 => repeat (first | exact (Kd.C_below HR0_0.out HB.out) | (with_reducible refine Kd.C_alloc ?_ _) | (with_reducible refine Kd.C_drewN ?_ _) | (with_reducible refine Kd.C_drew ?_))); (case side2 => exact HC0_0.out); rintro e w' ⟨rfl, ⟨nd, rfl⟩⟩; refine ⟨_, rfl, ?_⟩))
    go_ret
    exact ⟨by first | rfl | (simp [errW_none, errW_some] <;> rfl) | (simp [*, errW_none, errW_some] <;> rfl), by repeat (first | (with_reducible first | exact HB.out | apply below_alloc | apply pw_below_drewN | apply below_drew1 | refine below_set ?_ GE247.out) | exact HB.out)⟩

end Go.Proofs.YtcfcjpcoofjckaaDoor.Pr

-- Written by a program for this claim.
namespace Go.Proofs.YtcfcjpcoofjckaaDoor.Pr
open Go.RowKit Go.Proofs.YtcfcjpcoofjckaaDoorW.PrintWords Go.Proofs.YtcfcjpcoofjckaaDoorW.PrintLast Go.Proofs.YtcfcjpcoofjckaaDoorW.PrintMore
attribute [local go_sem] max2_int min2_int max_two min_two max_three min_three max_four min_four   -- for this text's walks alone
set_option linter.unusedVariables false
set_option linter.unusedSimpArgs false

/-! ### laws_FnExactParsePuzzle: function 4 -/
mutual
def laws_FnExactParsePuzzle.j0 : Nat → ByteArray → Bool → Bool → List (S44) → List (S44) → Option (Bool)
  | 0, _, _, _, _, _ => none
  | k + 1, x0, x4, x32, x254000, x259000 => if x32 = true then (some false) else ((laws_markPuzzle.f k x259000 1).bind fun bt260 => ((laws_heldPuzzle.f k bt260.2 1).bind fun t262 => (if t262 < 0 then (some false) else (if t262 = bt260.1 then ((impl_ParsePuzzle.f k x0).bind fun bt263 => ((laws_eqPuzzle.f k bt263.1 x254000).bind fun t268 => (if t268 = true then (laws_FnExactParsePuzzle.j1 k bt260.1 (bt263.2 != x4) bt260.2) else (laws_FnExactParsePuzzle.j1 k bt260.1 true bt260.2)))) else (some false)))))
def laws_FnExactParsePuzzle.j1 : Nat → Int → Bool → List (S44) → Option (Bool)
  | 0, _, _, _ => none
  | k + 1, x7, x57, x259000 => if x57 = true then (some false) else ((laws_heldPuzzle.f k x259000 1).bind fun t269 => (if t269 < 0 then (some false) else (if t269 = x7 then (some true) else (some false))))
end
def laws_FnExactParsePuzzle.f (k : Nat) (a0 : ByteArray) : Option (Bool) := if (a0.size : Int) > 1048576 then (some true) else ((spec_ParsePuzzle.f k a0).bind fun bt249 => ((impl_ParsePuzzle.f k a0).bind fun bt254 => ((laws_eqPuzzle.f k bt254.1 bt249.1).bind fun t259 => (if t259 = true then (laws_FnExactParsePuzzle.j0 k a0 bt249.2 (bt254.2 != bt249.2) bt249.1 bt254.1) else (laws_FnExactParsePuzzle.j0 k a0 bt249.2 true bt249.1 bt254.1)))))
theorem laws_FnExactParsePuzzle.mono_l : ∀ k, (∀ y0 y1 y2 y3 y4, LeO (laws_FnExactParsePuzzle.j0 k y0 y1 y2 y3 y4) (laws_FnExactParsePuzzle.j0 (k + 1) y0 y1 y2 y3 y4)) ∧ (∀ y0 y1 y2, LeO (laws_FnExactParsePuzzle.j1 k y0 y1 y2) (laws_FnExactParsePuzzle.j1 (k + 1) y0 y1 y2))
  | 0 => ⟨fun _ _ _ _ _ r h => by simp [laws_FnExactParsePuzzle.j0] at h, fun _ _ _ r h => by simp [laws_FnExactParsePuzzle.j1] at h⟩
  | k + 1 => by
    obtain ⟨ih0, ih1⟩ := laws_FnExactParsePuzzle.mono_l k
    refine ⟨?_, ?_⟩
    · intro y0 y1 y2 y3 y4
      unfold laws_FnExactParsePuzzle.j0
      repeat' first
      | (with_reducible exact ih0 _ _ _ _ _)
      | (with_reducible exact ih1 _ _ _)
      | (with_reducible exact impl_ParsePuzzle.mono _ _)
      | (with_reducible exact laws_eqPuzzle.mono _ _ _)
      | (with_reducible exact laws_heldPuzzle.mono _ _ _)
      | (with_reducible exact laws_markPuzzle.mono _ _ _)
      | (with_reducible exact spec_ParsePuzzle.mono _ _)
      | (with_reducible exact LeO.refl _)
      | (with_reducible exact LeO.none _)
      | (with_reducible refine LeO.ite ?_ ?_)
      | (with_reducible refine LeO.bind ?_ (fun _ => ?_))
      | exact ih0 _ _ _ _ _
      | exact ih1 _ _ _
      | exact impl_ParsePuzzle.mono _ _
      | exact laws_eqPuzzle.mono _ _ _
      | exact laws_heldPuzzle.mono _ _ _
      | exact laws_markPuzzle.mono _ _ _
      | exact spec_ParsePuzzle.mono _ _
      | exact LeO.none _
      | refine LeO.ite ?_ ?_
      | refine LeO.bind ?_ (fun _ => ?_)
    · intro y0 y1 y2
      unfold laws_FnExactParsePuzzle.j1
      repeat' first
      | (with_reducible exact ih0 _ _ _ _ _)
      | (with_reducible exact ih1 _ _ _)
      | (with_reducible exact impl_ParsePuzzle.mono _ _)
      | (with_reducible exact laws_eqPuzzle.mono _ _ _)
      | (with_reducible exact laws_heldPuzzle.mono _ _ _)
      | (with_reducible exact laws_markPuzzle.mono _ _ _)
      | (with_reducible exact spec_ParsePuzzle.mono _ _)
      | (with_reducible exact LeO.refl _)
      | (with_reducible exact LeO.none _)
      | (with_reducible refine LeO.ite ?_ ?_)
      | (with_reducible refine LeO.bind ?_ (fun _ => ?_))
      | exact ih0 _ _ _ _ _
      | exact ih1 _ _ _
      | exact impl_ParsePuzzle.mono _ _
      | exact laws_eqPuzzle.mono _ _ _
      | exact laws_heldPuzzle.mono _ _ _
      | exact laws_markPuzzle.mono _ _ _
      | exact spec_ParsePuzzle.mono _ _
      | exact LeO.none _
      | refine LeO.ite ?_ ?_
      | refine LeO.bind ?_ (fun _ => ?_)
theorem laws_FnExactParsePuzzle.mono : ∀ a0 k, LeO (laws_FnExactParsePuzzle.f k a0) (laws_FnExactParsePuzzle.f (k + 1) a0) := by
  intro a0 k
  obtain ⟨ih0, ih1⟩ := laws_FnExactParsePuzzle.mono_l k
  unfold laws_FnExactParsePuzzle.f
  repeat' first
      | (with_reducible exact ih0 _ _ _ _ _)
      | (with_reducible exact ih1 _ _ _)
      | (with_reducible exact impl_ParsePuzzle.mono _ _)
      | (with_reducible exact laws_eqPuzzle.mono _ _ _)
      | (with_reducible exact laws_heldPuzzle.mono _ _ _)
      | (with_reducible exact laws_markPuzzle.mono _ _ _)
      | (with_reducible exact spec_ParsePuzzle.mono _ _)
      | (with_reducible exact LeO.refl _)
      | (with_reducible exact LeO.none _)
      | (with_reducible refine LeO.ite ?_ ?_)
      | (with_reducible refine LeO.bind ?_ (fun _ => ?_))
      | exact ih0 _ _ _ _ _
      | exact ih1 _ _ _
      | exact impl_ParsePuzzle.mono _ _
      | exact laws_eqPuzzle.mono _ _ _
      | exact laws_heldPuzzle.mono _ _ _
      | exact laws_markPuzzle.mono _ _ _
      | exact spec_ParsePuzzle.mono _ _
      | exact LeO.none _
      | refine LeO.ite ?_ ?_
      | refine LeO.bind ?_ (fun _ => ?_)
set_option maxHeartbeats 8000000 in
set_option maxRecDepth 100000 in
theorem laws_FnExactParsePuzzle.calls (k : Nat) (a0 : ByteArray) (r : Bool) (w : World) (h : laws_FnExactParsePuzzle.f k a0 = some r) (hG_ : GrW w) :
    Calls Tryd.prog 4 #[.string a0] w fun e w' => e = .returned (.bool r) ∧ Below w.heap.size w w' := by
  have HG_ := Aside0.mk hG_
  clear hG_
  have hu30 := Tryd.underlying30
  have HB := Aside0.mk (Below.refl w.heap.size w)
  have H : (if (a0.size : Int) > 1048576 then (some true) else ((spec_ParsePuzzle.f k a0).bind fun bt249 => ((impl_ParsePuzzle.f k a0).bind fun bt254 => ((laws_eqPuzzle.f k bt254.1 bt249.1).bind fun t259 => (if t259 = true then (laws_FnExactParsePuzzle.j0 k a0 bt249.2 (bt254.2 != bt249.2) bt249.1 bt254.1) else (laws_FnExactParsePuzzle.j0 k a0 bt249.2 true bt249.1 bt254.1)))))) = some r := h
  clear h
  by_cases c2 : (a0.size : Int) > 1048576
  · rw [if_pos c2] at H
    have c2b0 : decide (1048576 < (a0.size : Int)) = true := decide_eq_true c2
    have c2b1 : decide (1048576 < a0.size) = true := decide_eq_true (by omega)
    clear c2
    obtain rfl := Option.some.inj H
    go_enter Tryd.func4, Tryd.ntmps4
    go_wp2
    go_ret
    exact ⟨by first | rfl | (simp [errW_none, errW_some] <;> rfl) | (simp [*, errW_none, errW_some] <;> rfl), by repeat (first | (with_reducible first | exact HB.out | apply below_alloc | apply pw_below_drewN | apply below_drew1) | exact HB.out)⟩
  · rw [if_neg c2] at H
    have c2b0 : decide (1048576 < (a0.size : Int)) = false := decide_eq_false c2
    have c2b1 : decide (1048576 < a0.size) = false := decide_eq_false (by omega)
    clear c2
    replace H := Option.bind_eq_some_iff.mp H
    obtain ⟨⟨t249, t252⟩, A30, H⟩ := H
    replace H : ((impl_ParsePuzzle.f k a0).bind fun bt254 => ((laws_eqPuzzle.f k bt254.1 t249).bind fun t259 => (if t259 = true then (laws_FnExactParsePuzzle.j0 k a0 t252 (bt254.2 != t252) t249 bt254.1) else (laws_FnExactParsePuzzle.j0 k a0 t252 true t249 bt254.1)))) = some r := H
    have A3 := Aside0.mk A30
    clear A30
    replace H := Option.bind_eq_some_iff.mp H
    obtain ⟨⟨t254, t257⟩, A40, H⟩ := H
    replace H : ((laws_eqPuzzle.f k t254 t249).bind fun t259 => (if t259 = true then (laws_FnExactParsePuzzle.j0 k a0 t252 (t257 != t252) t249 t254) else (laws_FnExactParsePuzzle.j0 k a0 t252 true t249 t254))) = some r := H
    have A4 := Aside0.mk A40
    clear A40
    have HC5 := Aside0.mk H
    clear H
    go_enter Tryd.func4, Tryd.ntmps4
    go_upto_region 5 with (first | ((with_reducible refine gate_callee (f := 10) rfl ?_); refine goesL_ (some 16) rfl rfl Tryd.func10 (by kernel_rfl) rfl #[.string a0] rfl (by (try simp only [List.map_toArray, List.map_cons, List.map_nil]); first | done | rfl | (simp only [List.length_drop, List.length_take]; rfl)) ?_; (with_reducible refine (spec_ParsePuzzle.calls k a0 t249 t252 _ A3.out).mono ?_); rintro e w6 ⟨v250, rfl, ho0, hb⟩; refine ⟨_, rfl, ?_⟩; have n0_ := Aside0.mk (Kd.R_lower ho0 (below_size (by repeat (first | (with_reducible first | exact HB.out | apply below_alloc | apply pw_below_drewN | apply below_drew1) | exact HB.out)))); have n1_ := Aside0.mk (below_step (by repeat (first | (with_reducible first | exact HB.out | apply below_alloc | apply pw_below_drewN | apply below_drew1) | exact HB.out)) hb); clear HB; have HO251 := n0_; have HB := n1_; clear n0_ n1_; (try clear hb); (try clear hb2); (try clear hk); (try clear hi); (try clear ho0)) | ((with_reducible refine gate_dst (N := 3) rfl ?_); refine box_event ?hg (N := 3) ?hd (cs := #[.slice none 0 0]) (t := 30) ?hr ?_; (case hd => rfl); (case hg => rfl); (case hr => first | (go_simp; done) | (go_simp; rfl)); intro gb253 hg w7 hbox hb; have n0_ := Aside0.mk (Kd.R_below (by (with_reducible repeat (first | apply Kd.R_alloc | apply Kd.R_drewN | apply Kd.R_drew)); exact HO251.out) hb); have n1_ := Aside0.mk (below_step (by repeat (first | (with_reducible first | exact HB.out | apply below_alloc | apply pw_below_drewN | apply below_drew1) | exact HB.out)) hb); have n2_ := Aside0.mk (hbox); have n3_ := Aside0.mk ((by rw [hg]; exact (below_size (by repeat (first | (with_reducible first | exact HB.out | apply below_alloc | apply pw_below_drewN | apply below_drew1) | exact HB.out))) : w.heap.size ≤ gb253)); have n4_ := Aside0.mk ((by rw [hg]; exact (below_size (by repeat (first | (with_reducible first | exact HB.out | apply below_alloc | apply pw_below_drewN | apply below_drew1) | exact HB.out))) : w.heap.size ≤ gb253)); clear HO251; clear HB; have HO251 := n0_; have HB := n1_; have BK253 := n2_; have GW253 := n3_; have GE253 := n4_; clear n0_ n1_ n2_ n3_ n4_; clear hb hbox hg; obtain ⟨Ao8, co8, eo8⟩ := Kd.R_slice HO251.out; subst eo8; have hcz9_0 : w7.cell? ⟨gb253, 0, none⟩ = some (.slice none 0 0) := (blk_cell BK253.out 0).trans rfl; have hfz9_0 := blk_frozen BK253.out 0) | ((with_reducible refine gate_callee (f := 11) rfl ?_); refine goesL_ (some 21) rfl rfl Tryd.func11 (by kernel_rfl) rfl #[.string a0] rfl (by (try simp only [List.map_toArray, List.map_cons, List.map_nil]); first | done | rfl | (simp only [List.length_drop, List.length_take]; rfl)) ?_; (with_reducible refine (impl_ParsePuzzle.calls k a0 t254 t257 _ A4.out (HG_.out.go (by repeat (first | (with_reducible first | exact HB.out | apply below_alloc | apply pw_below_drewN | apply below_drew1 | refine below_set ?_ GE253.out) | exact HB.out)))).mono ?_); rintro e w10 ⟨v255, rfl, ho0, hb⟩; refine ⟨_, rfl, ?_⟩; have n0_ := Aside0.mk (Kd.R_elder' (by (with_reducible repeat (first | apply Kd.R_alloc | apply Kd.R_drewN | apply Kd.R_drew)); exact (Kd.R_mono (Kd.R_far (p := ⟨gb253, 0, none⟩) (Kd.R_types HO251.out BK253.out (by decide)) (fun _ hk => hk.2) (.slice Ao8 t249.length co8)) (fun _ h_ => h_.1))) (Kd.R_base ho0) hb); have n1_ := Aside0.mk (Kd.R_lower (Kd.R_new' ho0 (Kd.R_lt (by (with_reducible repeat (first | apply Kd.R_alloc | apply Kd.R_drewN | apply Kd.R_drew)); exact (Kd.R_mono (Kd.R_far (p := ⟨gb253, 0, none⟩) (Kd.R_types HO251.out BK253.out (by decide)) (fun _ hk => hk.2) (.slice Ao8 t249.length co8)) (fun _ h_ => h_.1))))) (below_size (by repeat (first | (with_reducible first | exact HB.out | apply below_alloc | apply pw_below_drewN | apply below_drew1 | refine below_set ?_ GE253.out) | exact HB.out)))); have n2_ := Aside0.mk (blk_below (g := gb253) (o := .cells #[.slice Ao8 t249.length co8] 30 (0, 0)) (by (with_reducible repeat (first | refine blk_drewN ?_ _ | refine blk_drew ?_ | refine blk_alloc ?_ _)); refine blk_put (cs := #[.slice none 0 0]) ?_ 0 _ rfl; (with_reducible repeat (first | refine blk_drewN ?_ _ | refine blk_drew ?_ | refine blk_alloc ?_ _)); exact BK253.out) hb); have n3_ := Aside0.mk (below_step (by repeat (first | (with_reducible first | exact HB.out | apply below_alloc | apply pw_below_drewN | apply below_drew1 | refine below_set ?_ GE253.out) | exact HB.out)) hb); clear HO251; clear BK253; clear HB; have HO251 := n0_; have HO256 := n1_; have BK253 := n2_; have HB := n3_; clear n0_ n1_ n2_ n3_; (try clear hb); (try clear hb2); (try clear hk); (try clear hi); (try clear ho0)) | ((with_reducible refine gate_dst (N := 5) rfl ?_); refine box_event ?hg (N := 5) ?hd (cs := #[.slice none 0 0]) (t := 30) ?hr ?_; (case hd => rfl); (case hg => rfl); (case hr => first | (go_simp; done) | (go_simp; rfl)); intro gb258 hg w11 hbox hb; have n0_ := Aside0.mk (Kd.R_below (by (with_reducible repeat (first | apply Kd.R_alloc | apply Kd.R_drewN | apply Kd.R_drew)); exact HO251.out) hb); have n1_ := Aside0.mk (Kd.R_below (by (with_reducible repeat (first | apply Kd.R_alloc | apply Kd.R_drewN | apply Kd.R_drew)); exact HO256.out) hb); have n2_ := Aside0.mk (blk_below (g := gb253) (o := .cells #[.slice Ao8 t249.length co8] 30 (0, 0)) (by (with_reducible repeat (first | refine blk_drewN ?_ _ | refine blk_drew ?_ | refine blk_alloc ?_ _)); exact BK253.out) hb); have n3_ := Aside0.mk (below_step (by repeat (first | (with_reducible first | exact HB.out | apply below_alloc | apply pw_below_drewN | apply below_drew1 | refine below_set ?_ GE253.out) | exact HB.out)) hb); have n4_ := Aside0.mk (hbox); have n5_ := Aside0.mk ((by rw [hg]; exact (below_size (by repeat (first | (with_reducible first | exact HB.out | apply below_alloc | apply pw_below_drewN | apply below_drew1 | refine below_set ?_ GE253.out) | exact HB.out))) : w.heap.size ≤ gb258)); have n6_ := Aside0.mk ((by rw [hg]; exact (below_size (by repeat (first | (with_reducible first | exact HB.out | apply below_alloc | apply pw_below_drewN | apply below_drew1 | refine below_set ?_ GE253.out) | exact HB.out))) : w.heap.size ≤ gb258)); have n7_ := Aside0.mk ((by rw [hg]; exact Nat.ne_of_lt (blk_lt (g := gb253) (o := .cells #[.slice Ao8 t249.length co8] 30 (0, 0)) (by (with_reducible repeat (first | refine blk_drewN ?_ _ | refine blk_drew ?_ | refine blk_alloc ?_ _)); exact BK253.out)) : gb253 ≠ gb258)); have n8_ := Aside0.mk ((by rw [hg]; exact Nat.ne_of_gt (blk_lt (g := gb253) (o := .cells #[.slice Ao8 t249.length co8] 30 (0, 0)) (by (with_reducible repeat (first | refine blk_drewN ?_ _ | refine blk_drew ?_ | refine blk_alloc ?_ _)); exact BK253.out)) : gb258 ≠ gb253)); clear HO251; clear HO256; clear BK253; clear HB; have HO251 := n0_; have HO256 := n1_; have BK253 := n2_; have HB := n3_; have BK258 := n4_; have GW258 := n5_; have GE258 := n6_; have NB253_258 := n7_; have NB258_253 := n8_; clear n0_ n1_ n2_ n3_ n4_ n5_ n6_ n7_ n8_; clear hb hbox hg; obtain ⟨Ao12, co12, eo12⟩ := Kd.R_slice HO256.out; subst eo12; have hnb13 := NB258_253.out; have hnc13 := NB253_258.out; have hcz14_0 : w11.cell? ⟨gb258, 0, none⟩ = some (.slice none 0 0) := (blk_cell BK258.out 0).trans rfl; have hfz14_0 := blk_frozen BK258.out 0))
    (try simp only [Act.put, List.setIfInBounds_toArray, List.set_cons_zero, List.set_cons_succ])
    go_cut [32] (fun v32 wc => ∃ (kq : Nat) (x32_4 : Bool), v32 = .bool x32_4 ∧ Aside0 (laws_FnExactParsePuzzle.j0 kq a0 t252 x32_4 t249 t254 = some r) ∧ Aside0 (kq ≤ k) ∧ Aside0 (Kd.R k44 44 wc w.heap.size (fun k_ => some k_ ≠ ((.slice Ao12 t254.length co12) : Value).ownBlock) (.slice Ao8 t249.length co8) t249) ∧ Aside0 (Kd.R k44 44 wc w.heap.size (fun k_ => some k_ ≠ ((.slice Ao8 t249.length co8) : Value).ownBlock) (.slice Ao12 t254.length co12) t254) ∧ Aside0 (wc.heap[gb253]? = some (.cells #[(.slice Ao8 t249.length co8)] 30 (0, 0))) ∧ Aside0 (wc.heap[gb258]? = some (.cells #[(.slice Ao12 t254.length co12)] 30 (0, 0))) ∧ Aside0 (Below w.heap.size w wc))
    case first =>
      have H := HC5.out
      clear HC5
      replace H := Option.bind_eq_some_iff.mp H
      obtain ⟨t259, A150, H⟩ := H
      replace H : (if t259 = true then (laws_FnExactParsePuzzle.j0 k a0 t252 (t257 != t252) t249 t254) else (laws_FnExactParsePuzzle.j0 k a0 t252 true t249 t254)) = some r := H
      have A15 := Aside0.mk A150
      clear A150
      by_cases c16 : t259 = true
      · subst c16
        have H1 : (laws_FnExactParsePuzzle.j0 k a0 t252 (t257 != t252) t249 t254) = some r := by rw [if_pos rfl] at H; exact H
        clear H
        have H := H1
        clear H1
        have H' := Aside0.mk H
        clear H
        have hnb17 := NB258_253.out
        have hnc17 := NB253_258.out
        have hcz18_0 : w11.cell? ⟨gb258, 0, none⟩ = some (.slice none 0 0) := (blk_cell BK258.out 0).trans rfl
        have hfz18_0 := blk_frozen BK258.out 0
        have hcz19_0 : w11.cell? ⟨gb253, 0, none⟩ = some (.slice Ao8 t249.length co8) := (blk_cell BK253.out 0).trans rfl
        have hfz19_0 := blk_frozen BK253.out 0
        go_wp2_with (first | ((with_reducible refine gate_callee (f := 9) rfl ?_); refine goesL_ (some 26) rfl rfl Tryd.func9 (by kernel_rfl) rfl #[.agg #[.slice Ao12 t254.length co12], .agg #[.slice Ao8 t249.length co8]] rfl (by (try simp only [List.map_toArray, List.map_cons, List.map_nil]); first | done | rfl | (simp only [List.length_drop, List.length_take]; rfl)) ?_; (with_reducible refine (laws_eqPuzzle.calls k _ _ t254 _ _ t249 true _ ?side1 ?side2 ?side3 ?side4 A15.out).mono ?_); (case side1 => refine (Kd.R_reads' (e := 44) (base := w.heap.size) (ok := fun k_ => (True ∧ some k_ ≠ (.slice Ao8 t249.length co8 : Value).ownBlock)) (n := t254.length) (c := co12) ?_).2.2; exact (by (with_reducible repeat (first | apply Kd.R_alloc | apply Kd.R_drewN | apply Kd.R_drew)); exact (Kd.R_mono (Kd.R_far (p := ⟨gb258, 0, none⟩) (Kd.R_types HO256.out BK258.out (by decide)) (fun _ hk => hk.2) (.slice Ao12 t254.length co12)) (fun _ h_ => h_.1)))); (case side2 => exact (Kd.R_reads' HO256.out).2.1); (case side3 => refine (Kd.R_reads' (e := 44) (base := w.heap.size) (ok := fun k_ => (True ∧ some k_ ≠ (.slice Ao12 t254.length co12 : Value).ownBlock)) (n := t249.length) (c := co8) ?_).2.2; exact (by (with_reducible repeat (first | apply Kd.R_alloc | apply Kd.R_drewN | apply Kd.R_drew)); exact (Kd.R_mono (Kd.R_far (p := ⟨gb258, 0, none⟩) (Kd.R_types HO251.out BK258.out (by decide)) (fun _ hk => hk.2) (.slice Ao12 t254.length co12)) (fun _ h_ => h_.1)))); (case side4 => exact (Kd.R_reads' HO251.out).2.1); rintro e w20 ⟨rfl, hb⟩; refine ⟨_, rfl, ?_⟩; have n0_ := Aside0.mk (Kd.R_below (by (with_reducible repeat (first | apply Kd.R_alloc | apply Kd.R_drewN | apply Kd.R_drew)); exact (Kd.R_mono (Kd.R_far (p := ⟨gb258, 0, none⟩) (Kd.R_types HO251.out BK258.out (by decide)) (fun _ hk => hk.2) (.slice Ao12 t254.length co12)) (fun _ h_ => h_.1))) hb); have n1_ := Aside0.mk (Kd.R_below (by (with_reducible repeat (first | apply Kd.R_alloc | apply Kd.R_drewN | apply Kd.R_drew)); exact (Kd.R_mono (Kd.R_far (p := ⟨gb258, 0, none⟩) (Kd.R_types HO256.out BK258.out (by decide)) (fun _ hk => hk.2) (.slice Ao12 t254.length co12)) (fun _ h_ => h_.1))) hb); have n2_ := Aside0.mk (blk_below (g := gb253) (o := .cells #[.slice Ao8 t249.length co8] 30 (0, 0)) (by (with_reducible repeat (first | refine blk_drewN ?_ _ | refine blk_drew ?_ | refine blk_alloc ?_ _)); refine blk_far ?_ NB253_258.out _; (with_reducible repeat (first | refine blk_drewN ?_ _ | refine blk_drew ?_ | refine blk_alloc ?_ _)); exact BK253.out) hb); have n3_ := Aside0.mk (blk_below (g := gb258) (o := .cells #[.slice Ao12 t254.length co12] 30 (0, 0)) (by (with_reducible repeat (first | refine blk_drewN ?_ _ | refine blk_drew ?_ | refine blk_alloc ?_ _)); refine blk_put (cs := #[.slice none 0 0]) ?_ 0 _ rfl; (with_reducible repeat (first | refine blk_drewN ?_ _ | refine blk_drew ?_ | refine blk_alloc ?_ _)); exact BK258.out) hb); have n4_ := Aside0.mk (below_step (by repeat (first | (with_reducible first | exact HB.out | apply below_alloc | apply pw_below_drewN | apply below_drew1 | refine below_set ?_ GE253.out | refine below_set ?_ GE258.out) | exact HB.out)) hb); clear HO251; clear HO256; clear BK253; clear BK258; clear HB; have HO251 := n0_; have HO256 := n1_; have BK253 := n2_; have BK258 := n3_; have HB := n4_; clear n0_ n1_ n2_ n3_ n4_; (try clear hb); (try clear hb2); (try clear hk); (try clear hi)))
        go_meet
        case rel => exact ⟨_, ((t257 != t252)), (by first | rfl | (simp; done) | (simp [*]; done)), H', ⟨by first | omega | exact Nat.le_refl _⟩, ⟨by (with_reducible repeat (first | apply Kd.R_alloc | apply Kd.R_drewN | apply Kd.R_drew)); exact Kd.R_mono HO251.out (fun _ hk => hk.2)⟩, ⟨by (with_reducible repeat (first | apply Kd.R_alloc | apply Kd.R_drewN | apply Kd.R_drew)); exact Kd.R_mono HO256.out (fun _ hk => hk.2)⟩, ⟨by (with_reducible repeat (first | refine blk_drewN ?_ _ | refine blk_drew ?_ | refine blk_alloc ?_ _)); exact BK253.out⟩, ⟨by (with_reducible repeat (first | refine blk_drewN ?_ _ | refine blk_drew ?_ | refine blk_alloc ?_ _)); exact BK258.out⟩, ⟨by repeat (first | (with_reducible first | exact HB.out | apply below_alloc | apply pw_below_drewN | apply below_drew1 | refine below_set ?_ GE253.out | refine below_set ?_ GE258.out) | exact HB.out)⟩⟩
      · replace c16 := Bool.eq_false_iff.mpr c16
        subst c16
        have H1 : (laws_FnExactParsePuzzle.j0 k a0 t252 true t249 t254) = some r := by rw [if_neg (show ¬ (false = true) by decide)] at H; exact H
        clear H
        have H := H1
        clear H1
        have H' := Aside0.mk H
        clear H
        have hnb21 := NB258_253.out
        have hnc21 := NB253_258.out
        have hcz22_0 : w11.cell? ⟨gb258, 0, none⟩ = some (.slice none 0 0) := (blk_cell BK258.out 0).trans rfl
        have hfz22_0 := blk_frozen BK258.out 0
        have hcz23_0 : w11.cell? ⟨gb253, 0, none⟩ = some (.slice Ao8 t249.length co8) := (blk_cell BK253.out 0).trans rfl
        have hfz23_0 := blk_frozen BK253.out 0
        go_wp2_with (first | ((with_reducible refine gate_callee (f := 9) rfl ?_); refine goesL_ (some 26) rfl rfl Tryd.func9 (by kernel_rfl) rfl #[.agg #[.slice Ao12 t254.length co12], .agg #[.slice Ao8 t249.length co8]] rfl (by (try simp only [List.map_toArray, List.map_cons, List.map_nil]); first | done | rfl | (simp only [List.length_drop, List.length_take]; rfl)) ?_; (with_reducible refine (laws_eqPuzzle.calls k _ _ t254 _ _ t249 false _ ?side1 ?side2 ?side3 ?side4 A15.out).mono ?_); (case side1 => refine (Kd.R_reads' (e := 44) (base := w.heap.size) (ok := fun k_ => (True ∧ some k_ ≠ (.slice Ao8 t249.length co8 : Value).ownBlock)) (n := t254.length) (c := co12) ?_).2.2; exact (by (with_reducible repeat (first | apply Kd.R_alloc | apply Kd.R_drewN | apply Kd.R_drew)); exact (Kd.R_mono (Kd.R_far (p := ⟨gb258, 0, none⟩) (Kd.R_types HO256.out BK258.out (by decide)) (fun _ hk => hk.2) (.slice Ao12 t254.length co12)) (fun _ h_ => h_.1)))); (case side2 => exact (Kd.R_reads' HO256.out).2.1); (case side3 => refine (Kd.R_reads' (e := 44) (base := w.heap.size) (ok := fun k_ => (True ∧ some k_ ≠ (.slice Ao12 t254.length co12 : Value).ownBlock)) (n := t249.length) (c := co8) ?_).2.2; exact (by (with_reducible repeat (first | apply Kd.R_alloc | apply Kd.R_drewN | apply Kd.R_drew)); exact (Kd.R_mono (Kd.R_far (p := ⟨gb258, 0, none⟩) (Kd.R_types HO251.out BK258.out (by decide)) (fun _ hk => hk.2) (.slice Ao12 t254.length co12)) (fun _ h_ => h_.1)))); (case side4 => exact (Kd.R_reads' HO251.out).2.1); rintro e w24 ⟨rfl, hb⟩; refine ⟨_, rfl, ?_⟩; have n0_ := Aside0.mk (Kd.R_below (by (with_reducible repeat (first | apply Kd.R_alloc | apply Kd.R_drewN | apply Kd.R_drew)); exact (Kd.R_mono (Kd.R_far (p := ⟨gb258, 0, none⟩) (Kd.R_types HO251.out BK258.out (by decide)) (fun _ hk => hk.2) (.slice Ao12 t254.length co12)) (fun _ h_ => h_.1))) hb); have n1_ := Aside0.mk (Kd.R_below (by (with_reducible repeat (first | apply Kd.R_alloc | apply Kd.R_drewN | apply Kd.R_drew)); exact (Kd.R_mono (Kd.R_far (p := ⟨gb258, 0, none⟩) (Kd.R_types HO256.out BK258.out (by decide)) (fun _ hk => hk.2) (.slice Ao12 t254.length co12)) (fun _ h_ => h_.1))) hb); have n2_ := Aside0.mk (blk_below (g := gb253) (o := .cells #[.slice Ao8 t249.length co8] 30 (0, 0)) (by (with_reducible repeat (first | refine blk_drewN ?_ _ | refine blk_drew ?_ | refine blk_alloc ?_ _)); refine blk_far ?_ NB253_258.out _; (with_reducible repeat (first | refine blk_drewN ?_ _ | refine blk_drew ?_ | refine blk_alloc ?_ _)); exact BK253.out) hb); have n3_ := Aside0.mk (blk_below (g := gb258) (o := .cells #[.slice Ao12 t254.length co12] 30 (0, 0)) (by (with_reducible repeat (first | refine blk_drewN ?_ _ | refine blk_drew ?_ | refine blk_alloc ?_ _)); refine blk_put (cs := #[.slice none 0 0]) ?_ 0 _ rfl; (with_reducible repeat (first | refine blk_drewN ?_ _ | refine blk_drew ?_ | refine blk_alloc ?_ _)); exact BK258.out) hb); have n4_ := Aside0.mk (below_step (by repeat (first | (with_reducible first | exact HB.out | apply below_alloc | apply pw_below_drewN | apply below_drew1 | refine below_set ?_ GE253.out | refine below_set ?_ GE258.out) | exact HB.out)) hb); clear HO251; clear HO256; clear BK253; clear BK258; clear HB; have HO251 := n0_; have HO256 := n1_; have BK253 := n2_; have BK258 := n3_; have HB := n4_; clear n0_ n1_ n2_ n3_ n4_; (try clear hb); (try clear hb2); (try clear hk); (try clear hi)))
        go_meet
        case rel => exact ⟨_, (true), (by first | rfl | (simp; done) | (simp [*]; done)), H', ⟨by first | omega | exact Nat.le_refl _⟩, ⟨by (with_reducible repeat (first | apply Kd.R_alloc | apply Kd.R_drewN | apply Kd.R_drew)); exact Kd.R_mono HO251.out (fun _ hk => hk.2)⟩, ⟨by (with_reducible repeat (first | apply Kd.R_alloc | apply Kd.R_drewN | apply Kd.R_drew)); exact Kd.R_mono HO256.out (fun _ hk => hk.2)⟩, ⟨by (with_reducible repeat (first | refine blk_drewN ?_ _ | refine blk_drew ?_ | refine blk_alloc ?_ _)); exact BK253.out⟩, ⟨by (with_reducible repeat (first | refine blk_drewN ?_ _ | refine blk_drew ?_ | refine blk_alloc ?_ _)); exact BK258.out⟩, ⟨by repeat (first | (with_reducible first | exact HB.out | apply below_alloc | apply pw_below_drewN | apply below_drew1 | refine below_set ?_ GE253.out | refine below_set ?_ GE258.out) | exact HB.out)⟩⟩
    case rest =>
      clear HC5
      try clear c1
      try clear c2
      try clear c2b0
      try clear c2b1
      try clear p2
      try clear c4
      try clear c9
      try clear c10
      try clear c11
      try clear c13
      try clear c16
      try clear c17
      try clear c21
      try clear hcz14_0
      try clear hcz18_0
      try clear hcz19_0
      try clear hcz22_0
      try clear hcz23_0
      try clear hcz9_0
      try clear hfz14_0
      try clear hfz18_0
      try clear hfz19_0
      try clear hfz22_0
      try clear hfz23_0
      try clear hfz9_0
      obtain ⟨kq, x32_4, rfl, HA, HJ4, HO_254000, HO_259000, BK253, BK258, HB⟩ := hcut
      cases kq with
      | zero => exact absurd HA.out (by simp [laws_FnExactParsePuzzle.j0])
      | succ kj4 =>
        have H := HA.out
        clear HA
        simp only [laws_FnExactParsePuzzle.j0] at H
        by_cases c25 : x32_4 = true
        · subst c25
          have H1 : (some false) = some r := by rw [if_pos rfl] at H; exact H
          clear H
          have H := H1
          clear H1
          obtain rfl := Option.some.inj H
          go_wp2
          go_ret
          exact ⟨by first | rfl | (simp [errW_none, errW_some] <;> rfl) | (simp [*, errW_none, errW_some] <;> rfl), by repeat (first | (with_reducible first | exact HB.out | apply below_alloc | apply pw_below_drewN | apply below_drew1 | refine below_set ?_ GE253.out | refine below_set ?_ GE258.out) | exact HB.out)⟩
        · replace c25 := Bool.eq_false_iff.mpr c25
          subst c25
          have H1 : ((laws_markPuzzle.f kj4 t254 1).bind fun bt260 => ((laws_heldPuzzle.f kj4 bt260.2 1).bind fun t262 => (if t262 < 0 then (some false) else (if t262 = bt260.1 then ((impl_ParsePuzzle.f kj4 a0).bind fun bt263 => ((laws_eqPuzzle.f kj4 bt263.1 t249).bind fun t268 => (if t268 = true then (laws_FnExactParsePuzzle.j1 kj4 bt260.1 (bt263.2 != t252) bt260.2) else (laws_FnExactParsePuzzle.j1 kj4 bt260.1 true bt260.2)))) else (some false))))) = some r := by rw [if_neg (show ¬ (false = true) by decide)] at H; exact H
          clear H
          have H := H1
          clear H1
          replace H := Option.bind_eq_some_iff.mp H
          obtain ⟨⟨t260, t261⟩, A260, H⟩ := H
          replace H : ((laws_heldPuzzle.f kj4 t261 1).bind fun t262 => (if t262 < 0 then (some false) else (if t262 = t260 then ((impl_ParsePuzzle.f kj4 a0).bind fun bt263 => ((laws_eqPuzzle.f kj4 bt263.1 t249).bind fun t268 => (if t268 = true then (laws_FnExactParsePuzzle.j1 kj4 t260 (bt263.2 != t252) t261) else (laws_FnExactParsePuzzle.j1 kj4 t260 true t261)))) else (some false)))) = some r := H
          have A26 := Aside0.mk A260
          clear A260
          replace H := Option.bind_eq_some_iff.mp H
          obtain ⟨t262, A270, H⟩ := H
          replace H : (if t262 < 0 then (some false) else (if t262 = t260 then ((impl_ParsePuzzle.f kj4 a0).bind fun bt263 => ((laws_eqPuzzle.f kj4 bt263.1 t249).bind fun t268 => (if t268 = true then (laws_FnExactParsePuzzle.j1 kj4 t260 (bt263.2 != t252) t261) else (laws_FnExactParsePuzzle.j1 kj4 t260 true t261)))) else (some false))) = some r := H
          have A27 := Aside0.mk A270
          clear A270
          by_cases c28 : t262 < 0
          · rw [if_pos c28] at H
            have c28b0 : decide (t262 < 0) = true := decide_eq_true c28
            clear c28
            obtain rfl := Option.some.inj H
            have hnb29 := NB258_253.out
            have hnc29 := NB253_258.out
            have hcz30_0 : wc.cell? ⟨gb258, 0, none⟩ = some (.slice Ao12 t254.length co12) := (blk_cell BK258.out 0).trans rfl
            have hfz30_0 := blk_frozen BK258.out 0
            go_wp2_with (first | ((with_reducible refine gate_callee (f := 12) rfl ?_); refine goesL_ (some 35) rfl rfl Tryd.func12 (by kernel_rfl) rfl #[.agg #[.slice Ao12 t254.length co12], .int .i64 1] rfl (by (try simp only [List.map_toArray, List.map_cons, List.map_nil]); first | done | rfl | (simp only [List.length_drop, List.length_take]; rfl)) ?_; (with_reducible refine (laws_markPuzzle.calls kj4 (fun k_ => some k_ = (.slice Ao12 t254.length co12 : Value).ownBlock) (.slice Ao12 t254.length co12) t254 1 t260 t261 w _ ?side1 ?side2 A26.out).mono ?_); (case side1 => repeat (first | (with_reducible first | exact HB.out | apply below_alloc | apply pw_below_drewN | apply below_drew1 | refine below_set ?_ GE253.out | refine below_set ?_ GE258.out) | exact HB.out)); (case side2 => exact Kd.R_tight rfl HO_259000.out); rintro e w31 ⟨rfl, hy0, hb, hkp⟩; refine ⟨_, rfl, ?_⟩; have n0_ := Aside0.mk (Kd.R_mono (ok' := fun k_ => some k_ ≠ (.slice Ao12 t254.length co12 : Value).ownBlock) (Kd.R_keptB (HO_254000.out) hkp (fun k_ hk_ hs_ => (hk_) hs_)) (fun k_ hk_ => hk_.1)); have n1_ := Aside0.mk (Kd.R_reok rfl hy0 (fun k_ e_ => HO_259000.out.1 k_ e_)); have n2_ := Aside0.mk (blk_kept (by (with_reducible repeat (first | refine blk_drewN ?_ _ | refine blk_drew ?_ | refine blk_alloc ?_ _)); exact BK253.out) hkp (fun hs_ => (fun e_ => (Kd.R_ne HO_259000.out BK253.out (by decide)) e_) hs_)); have n3_ := Aside0.mk (blk_kept (by (with_reducible repeat (first | refine blk_drewN ?_ _ | refine blk_drew ?_ | refine blk_alloc ?_ _)); exact BK258.out) hkp (fun hs_ => (fun e_ => (Kd.R_ne HO_259000.out BK258.out (by decide)) e_) hs_)); have n4_ := Aside0.mk (hb); clear HO_254000; clear HO_259000; clear BK253; clear BK258; clear HB; have HO_254000 := n0_; have HO_259000 := n1_; have BK253 := n2_; have BK258 := n3_; have HB := n4_; clear n0_ n1_ n2_ n3_ n4_; (try clear hb); (try clear hkp); (try clear hy0); have hcz32_0 : w31.cell? ⟨gb258, 0, none⟩ = some (.slice Ao12 t254.length co12) := (blk_cell BK258.out 0).trans rfl; have hfz32_0 := blk_frozen BK258.out 0) | ((with_reducible refine gate_callee (f := 13) rfl ?_); refine goesL_ (some 38) rfl rfl Tryd.func13 (by kernel_rfl) rfl #[.agg #[.slice Ao12 t261.length co12], .int .i64 1] rfl (by (try simp only [List.map_toArray, List.map_cons, List.map_nil]); first | done | (rw [show t261.length = t254.length from (Kd.R_reads' HO_259000.out).1.symm] <;> rfl) | rfl | (simp only [List.length_drop, List.length_take]; rfl)) ?_; (with_reducible refine (laws_heldPuzzle.calls kj4 _ _ t261 1 t262 _ ?side1 ?side2 A27.out).mono ?_); (case side1 => repeat (first | exact (Kd.R_reads' HO_259000.out).2.2 | (with_reducible refine Kd.C_alloc ?_ _) | (with_reducible refine Kd.C_drewN ?_ _) | (with_reducible refine Kd.C_drew ?_))); (case side2 => rw [show t261.length = t254.length from (Kd.R_reads' HO_259000.out).1.symm]; exact (Kd.R_reads' HO_259000.out).2.1); rintro e w33 ⟨rfl, hb⟩; refine ⟨_, rfl, ?_⟩; have n0_ := Aside0.mk (Kd.R_below (by (with_reducible repeat (first | apply Kd.R_alloc | apply Kd.R_drewN | apply Kd.R_drew)); exact HO_254000.out) hb); have n1_ := Aside0.mk (Kd.R_below (by (with_reducible repeat (first | apply Kd.R_alloc | apply Kd.R_drewN | apply Kd.R_drew)); exact HO_259000.out) hb); have n2_ := Aside0.mk (blk_below (g := gb253) (o := .cells #[.slice Ao8 t249.length co8] 30 (0, 0)) (by (with_reducible repeat (first | refine blk_drewN ?_ _ | refine blk_drew ?_ | refine blk_alloc ?_ _)); exact BK253.out) hb); have n3_ := Aside0.mk (blk_below (g := gb258) (o := .cells #[.slice Ao12 t254.length co12] 30 (0, 0)) (by (with_reducible repeat (first | refine blk_drewN ?_ _ | refine blk_drew ?_ | refine blk_alloc ?_ _)); exact BK258.out) hb); have n4_ := Aside0.mk (below_step (by repeat (first | (with_reducible first | exact HB.out | apply below_alloc | apply pw_below_drewN | apply below_drew1 | refine below_set ?_ GE253.out | refine below_set ?_ GE258.out) | exact HB.out)) hb); clear HO_254000; clear HO_259000; clear BK253; clear BK258; clear HB; have HO_254000 := n0_; have HO_259000 := n1_; have BK253 := n2_; have BK258 := n3_; have HB := n4_; clear n0_ n1_ n2_ n3_ n4_; (try clear hb); (try clear hb2); (try clear hk); (try clear hi)))
            go_ret
            exact ⟨by first | rfl | (simp [errW_none, errW_some] <;> rfl) | (simp [*, errW_none, errW_some] <;> rfl), by repeat (first | (with_reducible first | exact HB.out | apply below_alloc | apply pw_below_drewN | apply below_drew1 | refine below_set ?_ GE253.out | refine below_set ?_ GE258.out) | exact HB.out)⟩
          · rw [if_neg c28] at H
            have c28b0 : decide (t262 < 0) = false := decide_eq_false c28
            clear c28
            by_cases c34 : t262 = t260
            · rw [if_pos c34] at H
              have c34b0 : (t262 == t260) = true := beq_iff_eq.mpr c34
              have c34b1 : (t262 != t260) = false := bne_eq_false_iff_eq.mpr c34
              clear c34
              replace H := Option.bind_eq_some_iff.mp H
              obtain ⟨⟨t263, t266⟩, A350, H⟩ := H
              replace H : ((laws_eqPuzzle.f kj4 t263 t249).bind fun t268 => (if t268 = true then (laws_FnExactParsePuzzle.j1 kj4 t260 (t266 != t252) t261) else (laws_FnExactParsePuzzle.j1 kj4 t260 true t261))) = some r := H
              have A35 := Aside0.mk A350
              clear A350
              have HC36 := Aside0.mk H
              clear H
              have hnb37 := NB258_253.out
              have hnc37 := NB253_258.out
              have hcz38_0 : wc.cell? ⟨gb258, 0, none⟩ = some (.slice Ao12 t254.length co12) := (blk_cell BK258.out 0).trans rfl
              have hfz38_0 := blk_frozen BK258.out 0
              go_upto_region 16 with (first | ((with_reducible refine gate_callee (f := 12) rfl ?_); refine goesL_ (some 35) rfl rfl Tryd.func12 (by kernel_rfl) rfl #[.agg #[.slice Ao12 t254.length co12], .int .i64 1] rfl (by (try simp only [List.map_toArray, List.map_cons, List.map_nil]); first | done | rfl | (simp only [List.length_drop, List.length_take]; rfl)) ?_; (with_reducible refine (laws_markPuzzle.calls kj4 (fun k_ => some k_ = (.slice Ao12 t254.length co12 : Value).ownBlock) (.slice Ao12 t254.length co12) t254 1 t260 t261 w _ ?side1 ?side2 A26.out).mono ?_); (case side1 => repeat (first | (with_reducible first | exact HB.out | apply below_alloc | apply pw_below_drewN | apply below_drew1 | refine below_set ?_ GE253.out | refine below_set ?_ GE258.out) | exact HB.out)); (case side2 => exact Kd.R_tight rfl HO_259000.out); rintro e w39 ⟨rfl, hy0, hb, hkp⟩; refine ⟨_, rfl, ?_⟩; have n0_ := Aside0.mk (Kd.R_mono (ok' := fun k_ => some k_ ≠ (.slice Ao12 t254.length co12 : Value).ownBlock) (Kd.R_keptB (HO_254000.out) hkp (fun k_ hk_ hs_ => (hk_) hs_)) (fun k_ hk_ => hk_.1)); have n1_ := Aside0.mk (Kd.R_reok rfl hy0 (fun k_ e_ => HO_259000.out.1 k_ e_)); have n2_ := Aside0.mk (blk_kept (by (with_reducible repeat (first | refine blk_drewN ?_ _ | refine blk_drew ?_ | refine blk_alloc ?_ _)); exact BK253.out) hkp (fun hs_ => (fun e_ => (Kd.R_ne HO_259000.out BK253.out (by decide)) e_) hs_)); have n3_ := Aside0.mk (blk_kept (by (with_reducible repeat (first | refine blk_drewN ?_ _ | refine blk_drew ?_ | refine blk_alloc ?_ _)); exact BK258.out) hkp (fun hs_ => (fun e_ => (Kd.R_ne HO_259000.out BK258.out (by decide)) e_) hs_)); have n4_ := Aside0.mk (hb); clear HO_254000; clear HO_259000; clear BK253; clear BK258; clear HB; have HO_254000 := n0_; have HO_259000 := n1_; have BK253 := n2_; have BK258 := n3_; have HB := n4_; clear n0_ n1_ n2_ n3_ n4_; (try clear hb); (try clear hkp); (try clear hy0); have hcz40_0 : w39.cell? ⟨gb258, 0, none⟩ = some (.slice Ao12 t254.length co12) := (blk_cell BK258.out 0).trans rfl; have hfz40_0 := blk_frozen BK258.out 0) | ((with_reducible refine gate_callee (f := 13) rfl ?_); refine goesL_ (some 38) rfl rfl Tryd.func13 (by kernel_rfl) rfl #[.agg #[.slice Ao12 t261.length co12], .int .i64 1] rfl (by (try simp only [List.map_toArray, List.map_cons, List.map_nil]); first | done | (rw [show t261.length = t254.length from (Kd.R_reads' HO_259000.out).1.symm] <;> rfl) | rfl | (simp only [List.length_drop, List.length_take]; rfl)) ?_; (with_reducible refine (laws_heldPuzzle.calls kj4 _ _ t261 1 t262 _ ?side1 ?side2 A27.out).mono ?_); (case side1 => repeat (first | exact (Kd.R_reads' HO_259000.out).2.2 | (with_reducible refine Kd.C_alloc ?_ _) | (with_reducible refine Kd.C_drewN ?_ _) | (with_reducible refine Kd.C_drew ?_))); (case side2 => rw [show t261.length = t254.length from (Kd.R_reads' HO_259000.out).1.symm]; exact (Kd.R_reads' HO_259000.out).2.1); rintro e w41 ⟨rfl, hb⟩; refine ⟨_, rfl, ?_⟩; have n0_ := Aside0.mk (Kd.R_below (by (with_reducible repeat (first | apply Kd.R_alloc | apply Kd.R_drewN | apply Kd.R_drew)); exact HO_254000.out) hb); have n1_ := Aside0.mk (Kd.R_below (by (with_reducible repeat (first | apply Kd.R_alloc | apply Kd.R_drewN | apply Kd.R_drew)); exact HO_259000.out) hb); have n2_ := Aside0.mk (blk_below (g := gb253) (o := .cells #[.slice Ao8 t249.length co8] 30 (0, 0)) (by (with_reducible repeat (first | refine blk_drewN ?_ _ | refine blk_drew ?_ | refine blk_alloc ?_ _)); exact BK253.out) hb); have n3_ := Aside0.mk (blk_below (g := gb258) (o := .cells #[.slice Ao12 t254.length co12] 30 (0, 0)) (by (with_reducible repeat (first | refine blk_drewN ?_ _ | refine blk_drew ?_ | refine blk_alloc ?_ _)); exact BK258.out) hb); have n4_ := Aside0.mk (below_step (by repeat (first | (with_reducible first | exact HB.out | apply below_alloc | apply pw_below_drewN | apply below_drew1 | refine below_set ?_ GE253.out | refine below_set ?_ GE258.out) | exact HB.out)) hb); clear HO_254000; clear HO_259000; clear BK253; clear BK258; clear HB; have HO_254000 := n0_; have HO_259000 := n1_; have BK253 := n2_; have BK258 := n3_; have HB := n4_; clear n0_ n1_ n2_ n3_ n4_; (try clear hb); (try clear hb2); (try clear hk); (try clear hi)) | ((with_reducible refine gate_callee (f := 11) rfl ?_); refine goesL_ (some 46) rfl rfl Tryd.func11 (by kernel_rfl) rfl #[.string a0] rfl (by (try simp only [List.map_toArray, List.map_cons, List.map_nil]); first | done | rfl | (simp only [List.length_drop, List.length_take]; rfl)) ?_; (with_reducible refine (impl_ParsePuzzle.calls kj4 a0 t263 t266 _ A35.out (HG_.out.go (by repeat (first | (with_reducible first | exact HB.out | apply below_alloc | apply pw_below_drewN | apply below_drew1 | refine below_set ?_ GE253.out | refine below_set ?_ GE258.out) | exact HB.out)))).mono ?_); rintro e w42 ⟨v264, rfl, ho0, hb⟩; refine ⟨_, rfl, ?_⟩; have n0_ := Aside0.mk (Kd.R_elder' (by (with_reducible repeat (first | apply Kd.R_alloc | apply Kd.R_drewN | apply Kd.R_drew)); exact HO_254000.out) (Kd.R_base ho0) hb); have n1_ := Aside0.mk (Kd.R_elder' (by (with_reducible repeat (first | apply Kd.R_alloc | apply Kd.R_drewN | apply Kd.R_drew)); exact HO_259000.out) (Kd.R_base ho0) hb); have n2_ := Aside0.mk (Kd.R_lower (Kd.R_new' (Kd.R_new' ho0 (Kd.R_lt (by (with_reducible repeat (first | apply Kd.R_alloc | apply Kd.R_drewN | apply Kd.R_drew)); exact HO_254000.out))) (Kd.R_lt (by (with_reducible repeat (first | apply Kd.R_alloc | apply Kd.R_drewN | apply Kd.R_drew)); exact HO_259000.out))) (below_size (by repeat (first | (with_reducible first | exact HB.out | apply below_alloc | apply pw_below_drewN | apply below_drew1 | refine below_set ?_ GE253.out | refine below_set ?_ GE258.out) | exact HB.out)))); have n3_ := Aside0.mk (blk_below (g := gb253) (o := .cells #[.slice Ao8 t249.length co8] 30 (0, 0)) (by (with_reducible repeat (first | refine blk_drewN ?_ _ | refine blk_drew ?_ | refine blk_alloc ?_ _)); exact BK253.out) hb); have n4_ := Aside0.mk (blk_below (g := gb258) (o := .cells #[.slice Ao12 t254.length co12] 30 (0, 0)) (by (with_reducible repeat (first | refine blk_drewN ?_ _ | refine blk_drew ?_ | refine blk_alloc ?_ _)); exact BK258.out) hb); have n5_ := Aside0.mk (below_step (by repeat (first | (with_reducible first | exact HB.out | apply below_alloc | apply pw_below_drewN | apply below_drew1 | refine below_set ?_ GE253.out | refine below_set ?_ GE258.out) | exact HB.out)) hb); clear HO_254000; clear HO_259000; clear BK253; clear BK258; clear HB; have HO_254000 := n0_; have HO_259000 := n1_; have HO265 := n2_; have BK253 := n3_; have BK258 := n4_; have HB := n5_; clear n0_ n1_ n2_ n3_ n4_ n5_; (try clear hb); (try clear hb2); (try clear hk); (try clear hi); (try clear ho0)) | ((with_reducible refine gate_dst (N := 9) rfl ?_); refine box_event ?hg (N := 9) ?hd (cs := #[.slice none 0 0]) (t := 30) ?hr ?_; (case hd => rfl); (case hg => rfl); (case hr => first | (go_simp; done) | (go_simp; rfl)); intro gb267 hg w43 hbox hb; have n0_ := Aside0.mk (Kd.R_below (by (with_reducible repeat (first | apply Kd.R_alloc | apply Kd.R_drewN | apply Kd.R_drew)); exact HO_254000.out) hb); have n1_ := Aside0.mk (Kd.R_below (by (with_reducible repeat (first | apply Kd.R_alloc | apply Kd.R_drewN | apply Kd.R_drew)); exact HO_259000.out) hb); have n2_ := Aside0.mk (Kd.R_below (by (with_reducible repeat (first | apply Kd.R_alloc | apply Kd.R_drewN | apply Kd.R_drew)); exact HO265.out) hb); have n3_ := Aside0.mk (blk_below (g := gb253) (o := .cells #[.slice Ao8 t249.length co8] 30 (0, 0)) (by (with_reducible repeat (first | refine blk_drewN ?_ _ | refine blk_drew ?_ | refine blk_alloc ?_ _)); exact BK253.out) hb); have n4_ := Aside0.mk (blk_below (g := gb258) (o := .cells #[.slice Ao12 t254.length co12] 30 (0, 0)) (by (with_reducible repeat (first | refine blk_drewN ?_ _ | refine blk_drew ?_ | refine blk_alloc ?_ _)); exact BK258.out) hb); have n5_ := Aside0.mk (below_step (by repeat (first | (with_reducible first | exact HB.out | apply below_alloc | apply pw_below_drewN | apply below_drew1 | refine below_set ?_ GE253.out | refine below_set ?_ GE258.out) | exact HB.out)) hb); have n6_ := Aside0.mk (hbox); have n7_ := Aside0.mk ((by rw [hg]; exact (below_size (by repeat (first | (with_reducible first | exact HB.out | apply below_alloc | apply pw_below_drewN | apply below_drew1 | refine below_set ?_ GE253.out | refine below_set ?_ GE258.out) | exact HB.out))) : w.heap.size ≤ gb267)); have n8_ := Aside0.mk ((by rw [hg]; exact (below_size (by repeat (first | (with_reducible first | exact HB.out | apply below_alloc | apply pw_below_drewN | apply below_drew1 | refine below_set ?_ GE253.out | refine below_set ?_ GE258.out) | exact HB.out))) : w.heap.size ≤ gb267)); have n9_ := Aside0.mk ((by rw [hg]; exact Nat.ne_of_lt (blk_lt (g := gb253) (o := .cells #[.slice Ao8 t249.length co8] 30 (0, 0)) (by (with_reducible repeat (first | refine blk_drewN ?_ _ | refine blk_drew ?_ | refine blk_alloc ?_ _)); exact BK253.out)) : gb253 ≠ gb267)); have n10_ := Aside0.mk ((by rw [hg]; exact Nat.ne_of_gt (blk_lt (g := gb253) (o := .cells #[.slice Ao8 t249.length co8] 30 (0, 0)) (by (with_reducible repeat (first | refine blk_drewN ?_ _ | refine blk_drew ?_ | refine blk_alloc ?_ _)); exact BK253.out)) : gb267 ≠ gb253)); have n11_ := Aside0.mk ((by rw [hg]; exact Nat.ne_of_lt (blk_lt (g := gb258) (o := .cells #[.slice Ao12 t254.length co12] 30 (0, 0)) (by (with_reducible repeat (first | refine blk_drewN ?_ _ | refine blk_drew ?_ | refine blk_alloc ?_ _)); exact BK258.out)) : gb258 ≠ gb267)); have n12_ := Aside0.mk ((by rw [hg]; exact Nat.ne_of_gt (blk_lt (g := gb258) (o := .cells #[.slice Ao12 t254.length co12] 30 (0, 0)) (by (with_reducible repeat (first | refine blk_drewN ?_ _ | refine blk_drew ?_ | refine blk_alloc ?_ _)); exact BK258.out)) : gb267 ≠ gb258)); clear HO_254000; clear HO_259000; clear HO265; clear BK253; clear BK258; clear HB; have HO_254000 := n0_; have HO_259000 := n1_; have HO265 := n2_; have BK253 := n3_; have BK258 := n4_; have HB := n5_; have BK267 := n6_; have GW267 := n7_; have GE267 := n8_; have NB253_267 := n9_; have NB267_253 := n10_; have NB258_267 := n11_; have NB267_258 := n12_; clear n0_ n1_ n2_ n3_ n4_ n5_ n6_ n7_ n8_ n9_ n10_ n11_ n12_; clear hb hbox hg; obtain ⟨Ao44, co44, eo44⟩ := Kd.R_slice HO265.out; subst eo44; have hnb45 := NB267_253.out; have hnc45 := NB253_267.out; have hnb46 := NB267_258.out; have hnc46 := NB258_267.out; have hcz47_0 : w43.cell? ⟨gb267, 0, none⟩ = some (.slice none 0 0) := (blk_cell BK267.out 0).trans rfl; have hfz47_0 := blk_frozen BK267.out 0))
              (try simp only [Act.put, List.setIfInBounds_toArray, List.set_cons_zero, List.set_cons_succ])
              go_cut [57] (fun v57 wc => ∃ (kq : Nat) (x57_35 : Bool), v57 = .bool x57_35 ∧ Aside0 (laws_FnExactParsePuzzle.j1 kq t260 x57_35 t261 = some r) ∧ Aside0 (kq ≤ kj4) ∧ Aside0 (Kd.R k44 44 wc w.heap.size (fun k_ => some k_ ≠ ((.slice Ao12 t254.length co12) : Value).ownBlock ∧ some k_ ≠ ((.slice Ao44 t263.length co44) : Value).ownBlock) (.slice Ao8 t249.length co8) t249) ∧ Aside0 (Kd.R k44 44 wc w.heap.size (fun k_ => some k_ ≠ ((.slice Ao8 t249.length co8) : Value).ownBlock ∧ some k_ ≠ ((.slice Ao44 t263.length co44) : Value).ownBlock) (.slice Ao12 t254.length co12) t261) ∧ Aside0 (Kd.R k44 44 wc w.heap.size (fun k_ => some k_ ≠ ((.slice Ao8 t249.length co8) : Value).ownBlock ∧ some k_ ≠ ((.slice Ao12 t254.length co12) : Value).ownBlock) (.slice Ao44 t263.length co44) t263) ∧ Aside0 (wc.heap[gb253]? = some (.cells #[(.slice Ao8 t249.length co8)] 30 (0, 0))) ∧ Aside0 (wc.heap[gb258]? = some (.cells #[(.slice Ao12 t254.length co12)] 30 (0, 0))) ∧ Aside0 (wc.heap[gb267]? = some (.cells #[(.slice Ao44 t263.length co44)] 30 (0, 0))) ∧ Aside0 (Below w.heap.size w wc))
              case first =>
                have H := HC36.out
                clear HC36
                replace H := Option.bind_eq_some_iff.mp H
                obtain ⟨t268, A480, H⟩ := H
                replace H : (if t268 = true then (laws_FnExactParsePuzzle.j1 kj4 t260 (t266 != t252) t261) else (laws_FnExactParsePuzzle.j1 kj4 t260 true t261)) = some r := H
                have A48 := Aside0.mk A480
                clear A480
                by_cases c49 : t268 = true
                · subst c49
                  have H1 : (laws_FnExactParsePuzzle.j1 kj4 t260 (t266 != t252) t261) = some r := by rw [if_pos rfl] at H; exact H
                  clear H
                  have H := H1
                  clear H1
                  have H' := Aside0.mk H
                  clear H
                  have hnb50 := NB267_253.out
                  have hnc50 := NB253_267.out
                  have hnb51 := NB267_258.out
                  have hnc51 := NB258_267.out
                  have hcz52_0 : w43.cell? ⟨gb267, 0, none⟩ = some (.slice none 0 0) := (blk_cell BK267.out 0).trans rfl
                  have hfz52_0 := blk_frozen BK267.out 0
                  have hnb53 := NB253_258.out
                  have hnc53 := NB258_253.out
                  have hcz54_0 : w43.cell? ⟨gb253, 0, none⟩ = some (.slice Ao8 t249.length co8) := (blk_cell BK253.out 0).trans rfl
                  have hfz54_0 := blk_frozen BK253.out 0
                  go_wp2_with (first | ((with_reducible refine gate_callee (f := 9) rfl ?_); refine goesL_ (some 51) rfl rfl Tryd.func9 (by kernel_rfl) rfl #[.agg #[.slice Ao44 t263.length co44], .agg #[.slice Ao8 t249.length co8]] rfl (by (try simp only [List.map_toArray, List.map_cons, List.map_nil]); first | done | rfl | (simp only [List.length_drop, List.length_take]; rfl)) ?_; (with_reducible refine (laws_eqPuzzle.calls kj4 _ _ t263 _ _ t249 true _ ?side1 ?side2 ?side3 ?side4 A48.out).mono ?_); (case side1 => refine (Kd.R_reads' (e := 44) (base := w.heap.size) (ok := fun k_ => ((True ∧ some k_ ≠ (.slice Ao8 t249.length co8 : Value).ownBlock) ∧ some k_ ≠ (.slice Ao12 t254.length co12 : Value).ownBlock)) (n := t263.length) (c := co44) ?_).2.2; exact (by (with_reducible repeat (first | apply Kd.R_alloc | apply Kd.R_drewN | apply Kd.R_drew)); exact (Kd.R_mono (Kd.R_far (p := ⟨gb267, 0, none⟩) (Kd.R_types HO265.out BK267.out (by decide)) (fun _ hk => hk.2) (.slice Ao44 t263.length co44)) (fun _ h_ => h_.1)))); (case side2 => exact (Kd.R_reads' HO265.out).2.1); (case side3 => refine (Kd.R_reads' (e := 44) (base := w.heap.size) (ok := fun k_ => (some k_ ≠ (.slice Ao12 t254.length co12 : Value).ownBlock ∧ some k_ ≠ (.slice Ao44 t263.length co44 : Value).ownBlock)) (n := t249.length) (c := co8) ?_).2.2; exact (by (with_reducible repeat (first | apply Kd.R_alloc | apply Kd.R_drewN | apply Kd.R_drew)); exact (Kd.R_mono (Kd.R_far (p := ⟨gb267, 0, none⟩) (Kd.R_types HO_254000.out BK267.out (by decide)) (fun _ hk => hk.2) (.slice Ao44 t263.length co44)) (fun _ h_ => h_.1)))); (case side4 => exact (Kd.R_reads' HO_254000.out).2.1); rintro e w55 ⟨rfl, hb⟩; refine ⟨_, rfl, ?_⟩; have n0_ := Aside0.mk (Kd.R_below (by (with_reducible repeat (first | apply Kd.R_alloc | apply Kd.R_drewN | apply Kd.R_drew)); exact (Kd.R_mono (Kd.R_far (p := ⟨gb267, 0, none⟩) (Kd.R_types HO_254000.out BK267.out (by decide)) (fun _ hk => hk.2) (.slice Ao44 t263.length co44)) (fun _ h_ => h_.1))) hb); have n1_ := Aside0.mk (Kd.R_below (by (with_reducible repeat (first | apply Kd.R_alloc | apply Kd.R_drewN | apply Kd.R_drew)); exact (Kd.R_mono (Kd.R_far (p := ⟨gb267, 0, none⟩) (Kd.R_types HO_259000.out BK267.out (by decide)) (fun _ hk => hk.2) (.slice Ao44 t263.length co44)) (fun _ h_ => h_.1))) hb); have n2_ := Aside0.mk (Kd.R_below (by (with_reducible repeat (first | apply Kd.R_alloc | apply Kd.R_drewN | apply Kd.R_drew)); exact (Kd.R_mono (Kd.R_far (p := ⟨gb267, 0, none⟩) (Kd.R_types HO265.out BK267.out (by decide)) (fun _ hk => hk.2) (.slice Ao44 t263.length co44)) (fun _ h_ => h_.1))) hb); have n3_ := Aside0.mk (blk_below (g := gb253) (o := .cells #[.slice Ao8 t249.length co8] 30 (0, 0)) (by (with_reducible repeat (first | refine blk_drewN ?_ _ | refine blk_drew ?_ | refine blk_alloc ?_ _)); refine blk_far ?_ NB253_267.out _; (with_reducible repeat (first | refine blk_drewN ?_ _ | refine blk_drew ?_ | refine blk_alloc ?_ _)); exact BK253.out) hb); have n4_ := Aside0.mk (blk_below (g := gb258) (o := .cells #[.slice Ao12 t254.length co12] 30 (0, 0)) (by (with_reducible repeat (first | refine blk_drewN ?_ _ | refine blk_drew ?_ | refine blk_alloc ?_ _)); refine blk_far ?_ NB258_267.out _; (with_reducible repeat (first | refine blk_drewN ?_ _ | refine blk_drew ?_ | refine blk_alloc ?_ _)); exact BK258.out) hb); have n5_ := Aside0.mk (blk_below (g := gb267) (o := .cells #[.slice Ao44 t263.length co44] 30 (0, 0)) (by (with_reducible repeat (first | refine blk_drewN ?_ _ | refine blk_drew ?_ | refine blk_alloc ?_ _)); refine blk_put (cs := #[.slice none 0 0]) ?_ 0 _ rfl; (with_reducible repeat (first | refine blk_drewN ?_ _ | refine blk_drew ?_ | refine blk_alloc ?_ _)); exact BK267.out) hb); have n6_ := Aside0.mk (below_step (by repeat (first | (with_reducible first | exact HB.out | apply below_alloc | apply pw_below_drewN | apply below_drew1 | refine below_set ?_ GE253.out | refine below_set ?_ GE258.out | refine below_set ?_ GE267.out) | exact HB.out)) hb); clear HO_254000; clear HO_259000; clear HO265; clear BK253; clear BK258; clear BK267; clear HB; have HO_254000 := n0_; have HO_259000 := n1_; have HO265 := n2_; have BK253 := n3_; have BK258 := n4_; have BK267 := n5_; have HB := n6_; clear n0_ n1_ n2_ n3_ n4_ n5_ n6_; (try clear hb); (try clear hb2); (try clear hk); (try clear hi)))
                  go_meet
                  case rel => exact ⟨_, ((t266 != t252)), (by first | rfl | (simp; done) | (simp [*]; done)), H', ⟨by have := HJ4.out; first | omega | exact Nat.le_refl _⟩, ⟨by (with_reducible repeat (first | apply Kd.R_alloc | apply Kd.R_drewN | apply Kd.R_drew)); exact HO_254000.out⟩, ⟨by (with_reducible repeat (first | apply Kd.R_alloc | apply Kd.R_drewN | apply Kd.R_drew)); exact HO_259000.out⟩, ⟨by (with_reducible repeat (first | apply Kd.R_alloc | apply Kd.R_drewN | apply Kd.R_drew)); exact Kd.R_mono HO265.out (fun _ hk => ⟨hk.1.2, hk.2⟩)⟩, ⟨by (with_reducible repeat (first | refine blk_drewN ?_ _ | refine blk_drew ?_ | refine blk_alloc ?_ _)); exact BK253.out⟩, ⟨by (with_reducible repeat (first | refine blk_drewN ?_ _ | refine blk_drew ?_ | refine blk_alloc ?_ _)); exact BK258.out⟩, ⟨by (with_reducible repeat (first | refine blk_drewN ?_ _ | refine blk_drew ?_ | refine blk_alloc ?_ _)); exact BK267.out⟩, ⟨by repeat (first | (with_reducible first | exact HB.out | apply below_alloc | apply pw_below_drewN | apply below_drew1 | refine below_set ?_ GE253.out | refine below_set ?_ GE258.out | refine below_set ?_ GE267.out) | exact HB.out)⟩⟩
                · replace c49 := Bool.eq_false_iff.mpr c49
                  subst c49
                  have H1 : (laws_FnExactParsePuzzle.j1 kj4 t260 true t261) = some r := by rw [if_neg (show ¬ (false = true) by decide)] at H; exact H
                  clear H
                  have H := H1
                  clear H1
                  have H' := Aside0.mk H
                  clear H
                  have hnb56 := NB267_253.out
                  have hnc56 := NB253_267.out
                  have hnb57 := NB267_258.out
                  have hnc57 := NB258_267.out
                  have hcz58_0 : w43.cell? ⟨gb267, 0, none⟩ = some (.slice none 0 0) := (blk_cell BK267.out 0).trans rfl
                  have hfz58_0 := blk_frozen BK267.out 0
                  have hnb59 := NB253_258.out
                  have hnc59 := NB258_253.out
                  have hcz60_0 : w43.cell? ⟨gb253, 0, none⟩ = some (.slice Ao8 t249.length co8) := (blk_cell BK253.out 0).trans rfl
                  have hfz60_0 := blk_frozen BK253.out 0
                  go_wp2_with (first | ((with_reducible refine gate_callee (f := 9) rfl ?_); refine goesL_ (some 51) rfl rfl Tryd.func9 (by kernel_rfl) rfl #[.agg #[.slice Ao44 t263.length co44], .agg #[.slice Ao8 t249.length co8]] rfl (by (try simp only [List.map_toArray, List.map_cons, List.map_nil]); first | done | rfl | (simp only [List.length_drop, List.length_take]; rfl)) ?_; (with_reducible refine (laws_eqPuzzle.calls kj4 _ _ t263 _ _ t249 false _ ?side1 ?side2 ?side3 ?side4 A48.out).mono ?_); (case side1 => refine (Kd.R_reads' (e := 44) (base := w.heap.size) (ok := fun k_ => ((True ∧ some k_ ≠ (.slice Ao8 t249.length co8 : Value).ownBlock) ∧ some k_ ≠ (.slice Ao12 t254.length co12 : Value).ownBlock)) (n := t263.length) (c := co44) ?_).2.2; exact (by (with_reducible repeat (first | apply Kd.R_alloc | apply Kd.R_drewN | apply Kd.R_drew)); exact (Kd.R_mono (Kd.R_far (p := ⟨gb267, 0, none⟩) (Kd.R_types HO265.out BK267.out (by decide)) (fun _ hk => hk.2) (.slice Ao44 t263.length co44)) (fun _ h_ => h_.1)))); (case side2 => exact (Kd.R_reads' HO265.out).2.1); (case side3 => refine (Kd.R_reads' (e := 44) (base := w.heap.size) (ok := fun k_ => (some k_ ≠ (.slice Ao12 t254.length co12 : Value).ownBlock ∧ some k_ ≠ (.slice Ao44 t263.length co44 : Value).ownBlock)) (n := t249.length) (c := co8) ?_).2.2; exact (by (with_reducible repeat (first | apply Kd.R_alloc | apply Kd.R_drewN | apply Kd.R_drew)); exact (Kd.R_mono (Kd.R_far (p := ⟨gb267, 0, none⟩) (Kd.R_types HO_254000.out BK267.out (by decide)) (fun _ hk => hk.2) (.slice Ao44 t263.length co44)) (fun _ h_ => h_.1)))); (case side4 => exact (Kd.R_reads' HO_254000.out).2.1); rintro e w61 ⟨rfl, hb⟩; refine ⟨_, rfl, ?_⟩; have n0_ := Aside0.mk (Kd.R_below (by (with_reducible repeat (first | apply Kd.R_alloc | apply Kd.R_drewN | apply Kd.R_drew)); exact (Kd.R_mono (Kd.R_far (p := ⟨gb267, 0, none⟩) (Kd.R_types HO_254000.out BK267.out (by decide)) (fun _ hk => hk.2) (.slice Ao44 t263.length co44)) (fun _ h_ => h_.1))) hb); have n1_ := Aside0.mk (Kd.R_below (by (with_reducible repeat (first | apply Kd.R_alloc | apply Kd.R_drewN | apply Kd.R_drew)); exact (Kd.R_mono (Kd.R_far (p := ⟨gb267, 0, none⟩) (Kd.R_types HO_259000.out BK267.out (by decide)) (fun _ hk => hk.2) (.slice Ao44 t263.length co44)) (fun _ h_ => h_.1))) hb); have n2_ := Aside0.mk (Kd.R_below (by (with_reducible repeat (first | apply Kd.R_alloc | apply Kd.R_drewN | apply Kd.R_drew)); exact (Kd.R_mono (Kd.R_far (p := ⟨gb267, 0, none⟩) (Kd.R_types HO265.out BK267.out (by decide)) (fun _ hk => hk.2) (.slice Ao44 t263.length co44)) (fun _ h_ => h_.1))) hb); have n3_ := Aside0.mk (blk_below (g := gb253) (o := .cells #[.slice Ao8 t249.length co8] 30 (0, 0)) (by (with_reducible repeat (first | refine blk_drewN ?_ _ | refine blk_drew ?_ | refine blk_alloc ?_ _)); refine blk_far ?_ NB253_267.out _; (with_reducible repeat (first | refine blk_drewN ?_ _ | refine blk_drew ?_ | refine blk_alloc ?_ _)); exact BK253.out) hb); have n4_ := Aside0.mk (blk_below (g := gb258) (o := .cells #[.slice Ao12 t254.length co12] 30 (0, 0)) (by (with_reducible repeat (first | refine blk_drewN ?_ _ | refine blk_drew ?_ | refine blk_alloc ?_ _)); refine blk_far ?_ NB258_267.out _; (with_reducible repeat (first | refine blk_drewN ?_ _ | refine blk_drew ?_ | refine blk_alloc ?_ _)); exact BK258.out) hb); have n5_ := Aside0.mk (blk_below (g := gb267) (o := .cells #[.slice Ao44 t263.length co44] 30 (0, 0)) (by (with_reducible repeat (first | refine blk_drewN ?_ _ | refine blk_drew ?_ | refine blk_alloc ?_ _)); refine blk_put (cs := #[.slice none 0 0]) ?_ 0 _ rfl; (with_reducible repeat (first | refine blk_drewN ?_ _ | refine blk_drew ?_ | refine blk_alloc ?_ _)); exact BK267.out) hb); have n6_ := Aside0.mk (below_step (by repeat (first | (with_reducible first | exact HB.out | apply below_alloc | apply pw_below_drewN | apply below_drew1 | refine below_set ?_ GE253.out | refine below_set ?_ GE258.out | refine below_set ?_ GE267.out) | exact HB.out)) hb); clear HO_254000; clear HO_259000; clear HO265; clear BK253; clear BK258; clear BK267; clear HB; have HO_254000 := n0_; have HO_259000 := n1_; have HO265 := n2_; have BK253 := n3_; have BK258 := n4_; have BK267 := n5_; have HB := n6_; clear n0_ n1_ n2_ n3_ n4_ n5_ n6_; (try clear hb); (try clear hb2); (try clear hk); (try clear hi)))
                  go_meet
                  case rel => exact ⟨_, (true), (by first | rfl | (simp; done) | (simp [*]; done)), H', ⟨by have := HJ4.out; first | omega | exact Nat.le_refl _⟩, ⟨by (with_reducible repeat (first | apply Kd.R_alloc | apply Kd.R_drewN | apply Kd.R_drew)); exact HO_254000.out⟩, ⟨by (with_reducible repeat (first | apply Kd.R_alloc | apply Kd.R_drewN | apply Kd.R_drew)); exact HO_259000.out⟩, ⟨by (with_reducible repeat (first | apply Kd.R_alloc | apply Kd.R_drewN | apply Kd.R_drew)); exact Kd.R_mono HO265.out (fun _ hk => ⟨hk.1.2, hk.2⟩)⟩, ⟨by (with_reducible repeat (first | refine blk_drewN ?_ _ | refine blk_drew ?_ | refine blk_alloc ?_ _)); exact BK253.out⟩, ⟨by (with_reducible repeat (first | refine blk_drewN ?_ _ | refine blk_drew ?_ | refine blk_alloc ?_ _)); exact BK258.out⟩, ⟨by (with_reducible repeat (first | refine blk_drewN ?_ _ | refine blk_drew ?_ | refine blk_alloc ?_ _)); exact BK267.out⟩, ⟨by repeat (first | (with_reducible first | exact HB.out | apply below_alloc | apply pw_below_drewN | apply below_drew1 | refine below_set ?_ GE253.out | refine below_set ?_ GE258.out | refine below_set ?_ GE267.out) | exact HB.out)⟩⟩
              case rest =>
                clear HC36
                try clear c1
                try clear c2
                try clear c2b0
                try clear c2b1
                try clear p2
                try clear c3
                try clear c4
                try clear c5
                try clear c9
                try clear c10
                try clear c11
                try clear c12
                try clear c13
                try clear c16
                try clear c17
                try clear c21
                try clear c25
                try clear c28
                try clear c28b0
                try clear c29
                try clear c34
                try clear c34b0
                try clear c34b1
                try clear c37
                try clear c45
                try clear c46
                try clear c49
                try clear c50
                try clear c51
                try clear c53
                try clear c56
                try clear c57
                try clear c59
                try clear hcz14_0
                try clear hcz18_0
                try clear hcz19_0
                try clear hcz22_0
                try clear hcz23_0
                try clear hcz30_0
                try clear hcz32_0
                try clear hcz38_0
                try clear hcz40_0
                try clear hcz47_0
                try clear hcz52_0
                try clear hcz54_0
                try clear hcz58_0
                try clear hcz60_0
                try clear hcz9_0
                try clear hfz14_0
                try clear hfz18_0
                try clear hfz19_0
                try clear hfz22_0
                try clear hfz23_0
                try clear hfz30_0
                try clear hfz32_0
                try clear hfz38_0
                try clear hfz40_0
                try clear hfz47_0
                try clear hfz52_0
                try clear hfz54_0
                try clear hfz58_0
                try clear hfz60_0
                try clear hfz9_0
                try clear p2
                obtain ⟨kq, x57_35, rfl, HA, HJ35, HO_254000, HO_259000, HO_268000, BK253, BK258, BK267, HB⟩ := hcut
                have hl259000_35 := (Kd.R_reads' HO_259000.out).1
                rw [hl259000_35] at HO_259000
                (try simp only [hl259000_35])
                (try simp only [hl259000_35] at BK253)
                (try simp only [hl259000_35] at BK258)
                (try simp only [hl259000_35] at BK267)
                (try simp only [hl259000_35] at HO_254000)
                (try simp only [hl259000_35] at HO_268000)
                cases kq with
                | zero => exact absurd HA.out (by simp [laws_FnExactParsePuzzle.j1])
                | succ kj35 =>
                  have H := HA.out
                  clear HA
                  simp only [laws_FnExactParsePuzzle.j1] at H
                  by_cases c62 : x57_35 = true
                  · subst c62
                    have H1 : (some false) = some r := by rw [if_pos rfl] at H; exact H
                    clear H
                    have H := H1
                    clear H1
                    obtain rfl := Option.some.inj H
                    go_wp2
                    go_ret
                    exact ⟨by first | rfl | (simp [errW_none, errW_some] <;> rfl) | (simp [*, errW_none, errW_some] <;> rfl), by repeat (first | (with_reducible first | exact HB.out | apply below_alloc | apply pw_below_drewN | apply below_drew1 | refine below_set ?_ GE253.out | refine below_set ?_ GE258.out | refine below_set ?_ GE267.out) | exact HB.out)⟩
                  · replace c62 := Bool.eq_false_iff.mpr c62
                    subst c62
                    have H1 : ((laws_heldPuzzle.f kj35 t261 1).bind fun t269 => (if t269 < 0 then (some false) else (if t269 = t260 then (some true) else (some false)))) = some r := by rw [if_neg (show ¬ (false = true) by decide)] at H; exact H
                    clear H
                    have H := H1
                    clear H1
                    replace H := Option.bind_eq_some_iff.mp H
                    obtain ⟨t269, A630, H⟩ := H
                    replace H : (if t269 < 0 then (some false) else (if t269 = t260 then (some true) else (some false))) = some r := H
                    have A63 := Aside0.mk A630
                    clear A630
                    by_cases c64 : t269 < 0
                    · rw [if_pos c64] at H
                      have c64b0 : decide (t269 < 0) = true := decide_eq_true c64
                      clear c64
                      obtain rfl := Option.some.inj H
                      have hnb65 := NB258_253.out
                      have hnc65 := NB253_258.out
                      have hnb66 := NB258_267.out
                      have hnc66 := NB267_258.out
                      have hcz67_0 : wc.cell? ⟨gb258, 0, none⟩ = some (.slice Ao12 t261.length co12) := (blk_cell BK258.out 0).trans rfl
                      have hfz67_0 := blk_frozen BK258.out 0
                      go_wp2_with (first | ((with_reducible refine gate_callee (f := 13) rfl ?_); refine goesL_ (some 60) rfl rfl Tryd.func13 (by kernel_rfl) rfl #[.agg #[.slice Ao12 t261.length co12], .int .i64 1] rfl (by (try simp only [List.map_toArray, List.map_cons, List.map_nil]); first | done | rfl | (simp only [List.length_drop, List.length_take]; rfl)) ?_; (with_reducible refine (laws_heldPuzzle.calls kj35 _ _ t261 1 t269 _ ?side1 ?side2 A63.out).mono ?_); (case side1 => repeat (first | exact (Kd.R_reads' HO_259000.out).2.2 | (with_reducible refine Kd.C_alloc ?_ _) | (with_reducible refine Kd.C_drewN ?_ _) | (with_reducible refine Kd.C_drew ?_))); (case side2 => exact (Kd.R_reads' HO_259000.out).2.1); rintro e w68 ⟨rfl, hb⟩; refine ⟨_, rfl, ?_⟩; have n0_ := Aside0.mk (Kd.R_below (by (with_reducible repeat (first | apply Kd.R_alloc | apply Kd.R_drewN | apply Kd.R_drew)); exact HO_254000.out) hb); have n1_ := Aside0.mk (Kd.R_below (by (with_reducible repeat (first | apply Kd.R_alloc | apply Kd.R_drewN | apply Kd.R_drew)); exact HO_259000.out) hb); have n2_ := Aside0.mk (Kd.R_below (by (with_reducible repeat (first | apply Kd.R_alloc | apply Kd.R_drewN | apply Kd.R_drew)); exact HO_268000.out) hb); have n3_ := Aside0.mk (blk_below (g := gb253) (o := .cells #[.slice Ao8 t249.length co8] 30 (0, 0)) (by (with_reducible repeat (first | refine blk_drewN ?_ _ | refine blk_drew ?_ | refine blk_alloc ?_ _)); exact BK253.out) hb); have n4_ := Aside0.mk (blk_below (g := gb258) (o := .cells #[.slice Ao12 t261.length co12] 30 (0, 0)) (by (with_reducible repeat (first | refine blk_drewN ?_ _ | refine blk_drew ?_ | refine blk_alloc ?_ _)); exact BK258.out) hb); have n5_ := Aside0.mk (blk_below (g := gb267) (o := .cells #[.slice Ao44 t263.length co44] 30 (0, 0)) (by (with_reducible repeat (first | refine blk_drewN ?_ _ | refine blk_drew ?_ | refine blk_alloc ?_ _)); exact BK267.out) hb); have n6_ := Aside0.mk (below_step (by repeat (first | (with_reducible first | exact HB.out | apply below_alloc | apply pw_below_drewN | apply below_drew1 | refine below_set ?_ GE253.out | refine below_set ?_ GE258.out | refine below_set ?_ GE267.out) | exact HB.out)) hb); clear HO_254000; clear HO_259000; clear HO_268000; clear BK253; clear BK258; clear BK267; clear HB; have HO_254000 := n0_; have HO_259000 := n1_; have HO_268000 := n2_; have BK253 := n3_; have BK258 := n4_; have BK267 := n5_; have HB := n6_; clear n0_ n1_ n2_ n3_ n4_ n5_ n6_; (try clear hb); (try clear hb2); (try clear hk); (try clear hi)))
                      go_ret
                      exact ⟨by first | rfl | (simp [errW_none, errW_some] <;> rfl) | (simp [*, errW_none, errW_some] <;> rfl), by repeat (first | (with_reducible first | exact HB.out | apply below_alloc | apply pw_below_drewN | apply below_drew1 | refine below_set ?_ GE253.out | refine below_set ?_ GE258.out | refine below_set ?_ GE267.out) | exact HB.out)⟩
                    · rw [if_neg c64] at H
                      have c64b0 : decide (t269 < 0) = false := decide_eq_false c64
                      clear c64
                      by_cases c69 : t269 = t260
                      · rw [if_pos c69] at H
                        have c69b0 : (t269 == t260) = true := beq_iff_eq.mpr c69
                        have c69b1 : (t269 != t260) = false := bne_eq_false_iff_eq.mpr c69
                        clear c69
                        obtain rfl := Option.some.inj H
                        have hnb70 := NB258_253.out
                        have hnc70 := NB253_258.out
                        have hnb71 := NB258_267.out
                        have hnc71 := NB267_258.out
                        have hcz72_0 : wc.cell? ⟨gb258, 0, none⟩ = some (.slice Ao12 t261.length co12) := (blk_cell BK258.out 0).trans rfl
                        have hfz72_0 := blk_frozen BK258.out 0
                        go_wp2_with (first | ((with_reducible refine gate_callee (f := 13) rfl ?_); refine goesL_ (some 60) rfl rfl Tryd.func13 (by kernel_rfl) rfl #[.agg #[.slice Ao12 t261.length co12], .int .i64 1] rfl (by (try simp only [List.map_toArray, List.map_cons, List.map_nil]); first | done | rfl | (simp only [List.length_drop, List.length_take]; rfl)) ?_; (with_reducible refine (laws_heldPuzzle.calls kj35 _ _ t261 1 t269 _ ?side1 ?side2 A63.out).mono ?_); (case side1 => repeat (first | exact (Kd.R_reads' HO_259000.out).2.2 | (with_reducible refine Kd.C_alloc ?_ _) | (with_reducible refine Kd.C_drewN ?_ _) | (with_reducible refine Kd.C_drew ?_))); (case side2 => exact (Kd.R_reads' HO_259000.out).2.1); rintro e w73 ⟨rfl, hb⟩; refine ⟨_, rfl, ?_⟩; have n0_ := Aside0.mk (Kd.R_below (by (with_reducible repeat (first | apply Kd.R_alloc | apply Kd.R_drewN | apply Kd.R_drew)); exact HO_254000.out) hb); have n1_ := Aside0.mk (Kd.R_below (by (with_reducible repeat (first | apply Kd.R_alloc | apply Kd.R_drewN | apply Kd.R_drew)); exact HO_259000.out) hb); have n2_ := Aside0.mk (Kd.R_below (by (with_reducible repeat (first | apply Kd.R_alloc | apply Kd.R_drewN | apply Kd.R_drew)); exact HO_268000.out) hb); have n3_ := Aside0.mk (blk_below (g := gb253) (o := .cells #[.slice Ao8 t249.length co8] 30 (0, 0)) (by (with_reducible repeat (first | refine blk_drewN ?_ _ | refine blk_drew ?_ | refine blk_alloc ?_ _)); exact BK253.out) hb); have n4_ := Aside0.mk (blk_below (g := gb258) (o := .cells #[.slice Ao12 t261.length co12] 30 (0, 0)) (by (with_reducible repeat (first | refine blk_drewN ?_ _ | refine blk_drew ?_ | refine blk_alloc ?_ _)); exact BK258.out) hb); have n5_ := Aside0.mk (blk_below (g := gb267) (o := .cells #[.slice Ao44 t263.length co44] 30 (0, 0)) (by (with_reducible repeat (first | refine blk_drewN ?_ _ | refine blk_drew ?_ | refine blk_alloc ?_ _)); exact BK267.out) hb); have n6_ := Aside0.mk (below_step (by repeat (first | (with_reducible first | exact HB.out | apply below_alloc | apply pw_below_drewN | apply below_drew1 | refine below_set ?_ GE253.out | refine below_set ?_ GE258.out | refine below_set ?_ GE267.out) | exact HB.out)) hb); clear HO_254000; clear HO_259000; clear HO_268000; clear BK253; clear BK258; clear BK267; clear HB; have HO_254000 := n0_; have HO_259000 := n1_; have HO_268000 := n2_; have BK253 := n3_; have BK258 := n4_; have BK267 := n5_; have HB := n6_; clear n0_ n1_ n2_ n3_ n4_ n5_ n6_; (try clear hb); (try clear hb2); (try clear hk); (try clear hi)))
                        go_ret
                        exact ⟨by first | rfl | (simp [errW_none, errW_some] <;> rfl) | (simp [*, errW_none, errW_some] <;> rfl), by repeat (first | (with_reducible first | exact HB.out | apply below_alloc | apply pw_below_drewN | apply below_drew1 | refine below_set ?_ GE253.out | refine below_set ?_ GE258.out | refine below_set ?_ GE267.out) | exact HB.out)⟩
                      · rw [if_neg c69] at H
                        have c69b0 : (t269 == t260) = false := beq_eq_false_iff_ne.mpr c69
                        have c69b1 : (t269 != t260) = true := bne_iff_ne.mpr c69
                        obtain rfl := Option.some.inj H
                        have hnb74 := NB258_253.out
                        have hnc74 := NB253_258.out
                        have hnb75 := NB258_267.out
                        have hnc75 := NB267_258.out
                        have hcz76_0 : wc.cell? ⟨gb258, 0, none⟩ = some (.slice Ao12 t261.length co12) := (blk_cell BK258.out 0).trans rfl
                        have hfz76_0 := blk_frozen BK258.out 0
                        go_wp2_with (first | ((with_reducible refine gate_callee (f := 13) rfl ?_); refine goesL_ (some 60) rfl rfl Tryd.func13 (by kernel_rfl) rfl #[.agg #[.slice Ao12 t261.length co12], .int .i64 1] rfl (by (try simp only [List.map_toArray, List.map_cons, List.map_nil]); first | done | rfl | (simp only [List.length_drop, List.length_take]; rfl)) ?_; (with_reducible refine (laws_heldPuzzle.calls kj35 _ _ t261 1 t269 _ ?side1 ?side2 A63.out).mono ?_); (case side1 => repeat (first | exact (Kd.R_reads' HO_259000.out).2.2 | (with_reducible refine Kd.C_alloc ?_ _) | (with_reducible refine Kd.C_drewN ?_ _) | (with_reducible refine Kd.C_drew ?_))); (case side2 => exact (Kd.R_reads' HO_259000.out).2.1); rintro e w77 ⟨rfl, hb⟩; refine ⟨_, rfl, ?_⟩; have n0_ := Aside0.mk (Kd.R_below (by (with_reducible repeat (first | apply Kd.R_alloc | apply Kd.R_drewN | apply Kd.R_drew)); exact HO_254000.out) hb); have n1_ := Aside0.mk (Kd.R_below (by (with_reducible repeat (first | apply Kd.R_alloc | apply Kd.R_drewN | apply Kd.R_drew)); exact HO_259000.out) hb); have n2_ := Aside0.mk (Kd.R_below (by (with_reducible repeat (first | apply Kd.R_alloc | apply Kd.R_drewN | apply Kd.R_drew)); exact HO_268000.out) hb); have n3_ := Aside0.mk (blk_below (g := gb253) (o := .cells #[.slice Ao8 t249.length co8] 30 (0, 0)) (by (with_reducible repeat (first | refine blk_drewN ?_ _ | refine blk_drew ?_ | refine blk_alloc ?_ _)); exact BK253.out) hb); have n4_ := Aside0.mk (blk_below (g := gb258) (o := .cells #[.slice Ao12 t261.length co12] 30 (0, 0)) (by (with_reducible repeat (first | refine blk_drewN ?_ _ | refine blk_drew ?_ | refine blk_alloc ?_ _)); exact BK258.out) hb); have n5_ := Aside0.mk (blk_below (g := gb267) (o := .cells #[.slice Ao44 t263.length co44] 30 (0, 0)) (by (with_reducible repeat (first | refine blk_drewN ?_ _ | refine blk_drew ?_ | refine blk_alloc ?_ _)); exact BK267.out) hb); have n6_ := Aside0.mk (below_step (by repeat (first | (with_reducible first | exact HB.out | apply below_alloc | apply pw_below_drewN | apply below_drew1 | refine below_set ?_ GE253.out | refine below_set ?_ GE258.out | refine below_set ?_ GE267.out) | exact HB.out)) hb); clear HO_254000; clear HO_259000; clear HO_268000; clear BK253; clear BK258; clear BK267; clear HB; have HO_254000 := n0_; have HO_259000 := n1_; have HO_268000 := n2_; have BK253 := n3_; have BK258 := n4_; have BK267 := n5_; have HB := n6_; clear n0_ n1_ n2_ n3_ n4_ n5_ n6_; (try clear hb); (try clear hb2); (try clear hk); (try clear hi)))
                        go_ret
                        exact ⟨by first | rfl | (simp [errW_none, errW_some] <;> rfl) | (simp [*, errW_none, errW_some] <;> rfl), by repeat (first | (with_reducible first | exact HB.out | apply below_alloc | apply pw_below_drewN | apply below_drew1 | refine below_set ?_ GE253.out | refine below_set ?_ GE258.out | refine below_set ?_ GE267.out) | exact HB.out)⟩
            · rw [if_neg c34] at H
              have c34b0 : (t262 == t260) = false := beq_eq_false_iff_ne.mpr c34
              have c34b1 : (t262 != t260) = true := bne_iff_ne.mpr c34
              obtain rfl := Option.some.inj H
              have hnb78 := NB258_253.out
              have hnc78 := NB253_258.out
              have hcz79_0 : wc.cell? ⟨gb258, 0, none⟩ = some (.slice Ao12 t254.length co12) := (blk_cell BK258.out 0).trans rfl
              have hfz79_0 := blk_frozen BK258.out 0
              go_wp2_with (first | ((with_reducible refine gate_callee (f := 12) rfl ?_); refine goesL_ (some 35) rfl rfl Tryd.func12 (by kernel_rfl) rfl #[.agg #[.slice Ao12 t254.length co12], .int .i64 1] rfl (by (try simp only [List.map_toArray, List.map_cons, List.map_nil]); first | done | rfl | (simp only [List.length_drop, List.length_take]; rfl)) ?_; (with_reducible refine (laws_markPuzzle.calls kj4 (fun k_ => some k_ = (.slice Ao12 t254.length co12 : Value).ownBlock) (.slice Ao12 t254.length co12) t254 1 t260 t261 w _ ?side1 ?side2 A26.out).mono ?_); (case side1 => repeat (first | (with_reducible first | exact HB.out | apply below_alloc | apply pw_below_drewN | apply below_drew1 | refine below_set ?_ GE253.out | refine below_set ?_ GE258.out) | exact HB.out)); (case side2 => exact Kd.R_tight rfl HO_259000.out); rintro e w80 ⟨rfl, hy0, hb, hkp⟩; refine ⟨_, rfl, ?_⟩; have n0_ := Aside0.mk (Kd.R_mono (ok' := fun k_ => some k_ ≠ (.slice Ao12 t254.length co12 : Value).ownBlock) (Kd.R_keptB (HO_254000.out) hkp (fun k_ hk_ hs_ => (hk_) hs_)) (fun k_ hk_ => hk_.1)); have n1_ := Aside0.mk (Kd.R_reok rfl hy0 (fun k_ e_ => HO_259000.out.1 k_ e_)); have n2_ := Aside0.mk (blk_kept (by (with_reducible repeat (first | refine blk_drewN ?_ _ | refine blk_drew ?_ | refine blk_alloc ?_ _)); exact BK253.out) hkp (fun hs_ => (fun e_ => (Kd.R_ne HO_259000.out BK253.out (by decide)) e_) hs_)); have n3_ := Aside0.mk (blk_kept (by (with_reducible repeat (first | refine blk_drewN ?_ _ | refine blk_drew ?_ | refine blk_alloc ?_ _)); exact BK258.out) hkp (fun hs_ => (fun e_ => (Kd.R_ne HO_259000.out BK258.out (by decide)) e_) hs_)); have n4_ := Aside0.mk (hb); clear HO_254000; clear HO_259000; clear BK253; clear BK258; clear HB; have HO_254000 := n0_; have HO_259000 := n1_; have BK253 := n2_; have BK258 := n3_; have HB := n4_; clear n0_ n1_ n2_ n3_ n4_; (try clear hb); (try clear hkp); (try clear hy0); have hcz81_0 : w80.cell? ⟨gb258, 0, none⟩ = some (.slice Ao12 t254.length co12) := (blk_cell BK258.out 0).trans rfl; have hfz81_0 := blk_frozen BK258.out 0) | ((with_reducible refine gate_callee (f := 13) rfl ?_); refine goesL_ (some 38) rfl rfl Tryd.func13 (by kernel_rfl) rfl #[.agg #[.slice Ao12 t261.length co12], .int .i64 1] rfl (by (try simp only [List.map_toArray, List.map_cons, List.map_nil]); first | done | (rw [show t261.length = t254.length from (Kd.R_reads' HO_259000.out).1.symm] <;> rfl) | rfl | (simp only [List.length_drop, List.length_take]; rfl)) ?_; (with_reducible refine (laws_heldPuzzle.calls kj4 _ _ t261 1 t262 _ ?side1 ?side2 A27.out).mono ?_); (case side1 => repeat (first | exact (Kd.R_reads' HO_259000.out).2.2 | (with_reducible refine Kd.C_alloc ?_ _) | (with_reducible refine Kd.C_drewN ?_ _) | (with_reducible refine Kd.C_drew ?_))); (case side2 => rw [show t261.length = t254.length from (Kd.R_reads' HO_259000.out).1.symm]; exact (Kd.R_reads' HO_259000.out).2.1); rintro e w82 ⟨rfl, hb⟩; refine ⟨_, rfl, ?_⟩; have n0_ := Aside0.mk (Kd.R_below (by (with_reducible repeat (first | apply Kd.R_alloc | apply Kd.R_drewN | apply Kd.R_drew)); exact HO_254000.out) hb); have n1_ := Aside0.mk (Kd.R_below (by (with_reducible repeat (first | apply Kd.R_alloc | apply Kd.R_drewN | apply Kd.R_drew)); exact HO_259000.out) hb); have n2_ := Aside0.mk (blk_below (g := gb253) (o := .cells #[.slice Ao8 t249.length co8] 30 (0, 0)) (by (with_reducible repeat (first | refine blk_drewN ?_ _ | refine blk_drew ?_ | refine blk_alloc ?_ _)); exact BK253.out) hb); have n3_ := Aside0.mk (blk_below (g := gb258) (o := .cells #[.slice Ao12 t254.length co12] 30 (0, 0)) (by (with_reducible repeat (first | refine blk_drewN ?_ _ | refine blk_drew ?_ | refine blk_alloc ?_ _)); exact BK258.out) hb); have n4_ := Aside0.mk (below_step (by repeat (first | (with_reducible first | exact HB.out | apply below_alloc | apply pw_below_drewN | apply below_drew1 | refine below_set ?_ GE253.out | refine below_set ?_ GE258.out) | exact HB.out)) hb); clear HO_254000; clear HO_259000; clear BK253; clear BK258; clear HB; have HO_254000 := n0_; have HO_259000 := n1_; have BK253 := n2_; have BK258 := n3_; have HB := n4_; clear n0_ n1_ n2_ n3_ n4_; (try clear hb); (try clear hb2); (try clear hk); (try clear hi)))
              go_ret
              exact ⟨by first | rfl | (simp [errW_none, errW_some] <;> rfl) | (simp [*, errW_none, errW_some] <;> rfl), by repeat (first | (with_reducible first | exact HB.out | apply below_alloc | apply pw_below_drewN | apply below_drew1 | refine below_set ?_ GE253.out | refine below_set ?_ GE258.out) | exact HB.out)⟩

end Go.Proofs.YtcfcjpcoofjckaaDoor.Pr

/- What the row's cell 'laid' gives of the ground (numbers of this seat: B1.D). -/
namespace Go.Proofs.YtcfcjpcoofjckaaDoor.Pr
open Go.RowKit Go.Proofs.YtcfcjpcoofjckaaDoorW.PrintWords
set_option linter.unusedVariables false
set_option linter.unusedSimpArgs false

theorem gES : Tryd.prog.globalNamed "strconv.ErrSyntax" = some 2 := by kernel_rfl
theorem gESType : (Tryd.prog.globals[2]?).map (·.type) = some 61 := by kernel_rfl
theorem gER : Tryd.prog.globalNamed "strconv.ErrRange" = some 3 := by kernel_rfl
theorem gERType : (Tryd.prog.globals[3]?).map (·.type) = some 61 := by kernel_rfl
theorem cells118 : Tryd.prog.cellsOf 118 = 1 := by kernel_rfl
theorem cells9 : Tryd.prog.cellsOf 9 = 1 := by kernel_rfl
theorem star_ : "*" ++ "errors.errorString" = "*errors.errorString" := by decide
theorem row116 (u : TypeId) (h : Tryd.prog.typeName? 3 u = some "*errors.errorString") : u = 116 :=
  typeName_ptr_named (nm := "errors.errorString") (by rw [star_]; kernel_rfl) (by kernel_rfl) (by decide) u (by rw [star_]; exact h)
theorem grW_of (W : World) {x1 x2 x4 x7 : String × DataW Unit} (hsh : W.ShapedOpen Tryd.prog)
    (h : laidMet Tryd.prog [x1, x2, ("internal/strconv.uint64pow10", Lib.tabData .u64 Lib.pow10Tab), x4, ("strconv.ErrRange", Rows.laid_strconv_ErrRange), ("strconv.ErrSyntax", Rows.laid_strconv_ErrSyntax), x7] W) : GrW W := by
  have h5 := h.tail.tail.tail.tail
  obtain ⟨a0, s0, hv0, _, _, _⟩ := laid_sentinel h5 gER gERType Tryd.underlying61 row116 Tryd.underlying116 Tryd.underlying118 rfl rfl Tryd.underlying9 cells118 cells9
  obtain ⟨a1, s1, hv1, _, _, _⟩ := laid_sentinel h5.tail gES gESType Tryd.underlying61 row116 Tryd.underlying116 Tryd.underlying118 rfl rfl Tryd.underlying9 cells118 cells9
  exact ⟨Lib.tabIs_of_head (g := 0) (t := 96) (e := 77) (n := 20) (by kernel_rfl) (by kernel_rfl) Tryd.underlying96 Tryd.underlying77 (by kernel_rfl) (by kernel_rfl) h.tail.tail, Tryd.m146.s1_3 W hsh, ⟨_, _, hv1⟩, ⟨_, _, hv0⟩⟩
theorem pow_laid : (Rows.laid_internal_strconv_uint64pow10 : DataW Unit) = Lib.tabData .u64 Lib.pow10Tab := by kernel_rfl
theorem grW_laid (W : World) (hsh : W.ShapedOpen Tryd.prog) (h : laidMetH Tryd.prog Rows.fnExactParsePuzzleRow.laid W) : GrW W := by
  rw [MakeChecks.laidMetH_plain _ _ _ (by kernel_rfl)] at h
  refine grW_of (x1 := ("math/bits.deBruijn32tab", Rows.laid_math_bits_deBruijn32tab)) (x2 := ("math/bits.deBruijn64tab", Rows.laid_math_bits_deBruijn64tab)) (x4 := ("unicode/utf8.acceptRanges", Rows.laid_unicode_utf8_acceptRanges)) (x7 := ("unicode/utf8.first", Rows.laid_unicode_utf8_first)) W hsh ?_
  rw [← pow_laid]
  exact h
end Go.Proofs.YtcfcjpcoofjckaaDoor.Pr

/- The statements' own comparison of two lists of clues. -/
namespace Go.Proofs.YtcfcjpcoofjckaaDoor.M
open Go.RowKit Go.Proofs.YtcfcjpcoofjckaaDoorW.PrintWords Go.Proofs.YtcfcjpcoofjckaaDoor.Pr
set_option linter.unusedVariables false
set_option linter.unusedSimpArgs false

abbrev Cl := S44
theorem rd_cl (l : List Cl) (i : Nat) (h : i < l.length) : rd_T44 l (i : Int) = l[i] := by
  unfold rd_T44
  simp [List.getD_eq_getElem?_getD, List.getElem?_eq_getElem h]
theorem eqClS_ev (l : List Cl) (hl : l.length ≤ 9223372036854775806) : Ev (fun k => laws_eqClueS.f k l l) true := by
  unfold laws_eqClueS.f
  refine Ev.pos rfl ?_
  have e := Ev.scan0 (fun k i (_ : Unit) => laws_eqClueS.l0 k l l i) l (fun _ _ => true) (fun _ _ => True)
    (fun acc _ => by
      refine Ev.step (fun k => by rw [laws_eqClueS.l0]) ?_
      exact Ev.neg (by omega) (Ev.now true))
    (fun i h acc _ => by
      refine .inl ⟨(), trivial, rfl, fun r hr2 => ?_⟩
      refine Ev.step (fun k => by rw [laws_eqClueS.l0]) ?_
      refine Ev.pos (by omega) (Ev.pos (by omega) (Ev.pos (by omega) ?_))
      refine Ev.bindc (a := true) (by unfold laws_eqClue.f; simp) (Ev.pos rfl ?_)
      rw [w64 (x := (i : Int) + 1) (by omega) (by omega)]
      exact hr2) () trivial
  exact e
theorem eqP_ev (l : List Cl) (hl : l.length ≤ 9223372036854775806) : Ev (fun k => laws_eqPuzzle.f k l l) true := by
  unfold laws_eqPuzzle.f
  exact Ev.bindk (eqClS_ev l hl) (Ev.pos rfl (Ev.val rfl))
end Go.Proofs.YtcfcjpcoofjckaaDoor.M

/- A puzzle of the reference is one of the program. -/
namespace Go.Proofs.YtcfcjpcoofjckaaDoor.M
open Go.RowKit Go.Proofs.YtcfcjpcoofjckaaDoorW.PrintWords Go.Proofs.YtcfcjpcoofjckaaDoor.Pr
set_option linter.unusedVariables false
set_option linter.unusedSimpArgs false

/-- A puzzle: six clues at most, each of them one. -/
def puzB (l : List Cl) : Bool := decide (l.length ≤ 6) && !(l.any noCl)
theorem isPuzzle_eq (l : List Cl) : impl_IsPuzzle.f l = some (puzB l) := rfl

theorem pzGood_ev (l : List Cl) : Ev (fun k => spec_pzGood.f k l) (puzB l) := by
  unfold spec_pzGood.f puzB
  by_cases h6 : l.length ≤ 6
  · refine Ev.neg (by omega) ?_
    rw [decide_eq_true h6, Bool.true_and]
    refine Ev.scan0 (fun k i (_ : Unit) => spec_pzGood.l0 k l (l.length : Int) i) l (fun rest _ => !(rest.any noCl)) (fun _ _ => True)
      (fun acc _ => by
        refine Ev.step (fun k => by rw [spec_pzGood.l0]) ?_
        exact Ev.neg (by omega) (Ev.val (by simp)))
      (fun i h acc _ => by
        have hr := rd_cl l i h
        by_cases hc : clN l[i].f0 l[i].f1 l[i].f2 = true
        · refine .inl ⟨(), trivial, by rw [List.any_cons]; unfold noCl; rw [hc]; rfl, fun r hr2 => ?_⟩
          refine Ev.step (fun k => by rw [spec_pzGood.l0]) ?_
          refine Ev.pos (by omega) (Ev.pos (by omega) (Ev.pos (by omega) ?_))
          rw [hr]
          refine Ev.bindk (clue_ev _ _ _) (Ev.pos hc ?_)
          rw [w64 (x := (i : Int) + 1) (by omega) (by omega)]
          exact hr2
        · refine .inr ?_
          refine Ev.step (fun k => by rw [spec_pzGood.l0]) ?_
          refine Ev.pos (by omega) (Ev.pos (by omega) (Ev.pos (by omega) ?_))
          rw [hr]
          refine Ev.bindk (clue_ev _ _ _) (Ev.neg hc (Ev.val ?_))
          rw [List.any_cons]
          have : noCl l[i] = true := by unfold noCl; rw [Bool.eq_false_iff.mpr hc]; rfl
          rw [this]
          rfl) () trivial
  · refine Ev.pos (by omega) (Ev.val ?_)
    rw [decide_eq_false h6]
    rfl
end Go.Proofs.YtcfcjpcoofjckaaDoor.M

/- Texts as lists of bytes. -/
namespace Go.Proofs.YtcfcjpcoofjckaaDoor.M
open Go.RowKit Go.Proofs.YtcfcjpcoofjckaaDoorW.PrintWords
set_option linter.unusedVariables false
set_option linter.unusedSimpArgs false

/-- A loop over a list inside another one: what is left of the list decides the state in which the rest goes on. -/
theorem Ev.cpsB {α β γ : Type} (L : Nat → Int → β → Option γ) (K : Nat → β → Option γ) (xs : List α) (F : List α → β → β) (P : Nat → β → Prop)
    (h0 : ∀ acc r, P xs.length acc → Ev (fun k => K k (F [] acc)) r → Ev (fun k => L k (xs.length : Int) acc) r)
    (h1 : ∀ (i : Nat) (h : i < xs.length) (acc : β), P i acc → ∃ acc', P (i + 1) acc' ∧ F (xs[i] :: xs.drop (i + 1)) acc = F (xs.drop (i + 1)) acc' ∧ ∀ r, Ev (fun k => L k ((i : Int) + 1) acc') r → Ev (fun k => L k (i : Int) acc) r) :
    ∀ (d i : Nat) (acc : β) (r : γ), i + d = xs.length → P i acc → Ev (fun k => K k (F (xs.drop i) acc)) r → Ev (fun k => L k (i : Int) acc) r := by
  intro d
  induction d with
  | zero =>
    intro i acc r hi hp hr
    obtain rfl : i = xs.length := by omega
    rw [List.drop_length] at hr
    exact h0 acc r hp hr
  | succ d ih =>
    intro i acc r hi hp hr
    have hlt : i < xs.length := by omega
    rw [List.drop_eq_getElem_cons hlt] at hr
    obtain ⟨acc', hp', hF, hk⟩ := h1 i hlt acc hp
    rw [hF] at hr
    refine hk r ?_
    have e := ih (i + 1) acc' r (by omega) hp' hr
    rw [show (((i + 1 : Nat)) : Int) = (i : Int) + 1 from by omega] at e
    exact e

theorem bytesOf_get (s : ByteArray) (i : Nat) (h : i < (bytesOf s).length) : bt s (i : Int) = (bytesOf s)[i] := by
  rw [← rd_bytesOf]
  unfold rd
  simp [List.getD_eq_getElem?_getD, List.getElem?_eq_getElem h]
theorem bytesOf_byte (s : ByteArray) : ∀ x ∈ bytesOf s, 0 ≤ x ∧ x < 256 := by
  intro x hx
  obtain ⟨b, _, rfl⟩ := List.mem_map.1 hx
  have := b.toNat_lt
  omega
theorem bytesOf_append (s t : ByteArray) : bytesOf (s ++ t) = bytesOf s ++ bytesOf t := by
  unfold bytesOf
  rw [ByteArray.data_append]
  simp
theorem bytesOf_extract (s : ByteArray) (a b : Nat) : bytesOf (s.extract a b) = ((bytesOf s).take b).drop a := by
  unfold bytesOf
  rw [ByteArray.data_extract, Array.toList_extract, List.extract_eq_take_drop, List.map_take, List.map_drop, List.drop_take]
theorem bytesOf_nil : bytesOf ⟨#[]⟩ = [] := rfl
theorem bytesOf_inj {s t : ByteArray} (h : bytesOf s = bytesOf t) : s = t := by
  have e : s.data.toList = t.data.toList := by
    refine (List.map_inj_right ?_).1 h
    intro a b hab
    exact UInt8.toNat_inj.1 (by omega)
  exact ByteArray.ext (Array.toList_inj.1 e)
theorem bytesOf_strOf (xs : List Int) (h : ∀ x ∈ xs, 0 ≤ x ∧ x < 256) : bytesOf (strOfNums xs) = xs := by
  unfold bytesOf strOfNums
  simp only [List.map_map]
  conv => rhs; rw [← List.map_id xs]
  refine List.map_congr_left fun x hx => ?_
  have := h x hx
  simp
  omega
theorem strOf_bytesOf (s : ByteArray) : strOfNums (bytesOf s) = s := bytesOf_inj (bytesOf_strOf _ (bytesOf_byte s))
theorem toList_inj {s t : ByteArray} : s.toList = t.toList ↔ s = t := by
  constructor
  · intro e
    rw [ByteArray.toList_eq, ByteArray.toList_eq] at e
    exact ByteArray.ext (Array.toList_inj.1 e)
  · rintro rfl; rfl
theorem toList_beq (s t : ByteArray) : (s.toList == t.toList) = (bytesOf s == bytesOf t) := by
  rw [Bool.eq_iff_iff, beq_iff_eq, beq_iff_eq, toList_inj]
  exact ⟨fun e => by rw [e], bytesOf_inj⟩
/-- One byte of a text, as a text. -/
theorem bytesOf_one (s : ByteArray) (i : Nat) (h : i < (bytesOf s).length) : bytesOf (s.extract i (i + 1)) = [(bytesOf s)[i]] := by
  rw [bytesOf_extract, List.take_succ_eq_append_getElem h, List.drop_append_of_le_length (by simp; omega), List.drop_of_length_le (by simp; omega)]
  rfl

/-- The place of a byte, or -1. -/
def ixL (l : List Int) (x : Int) : Int := if x ∈ l then (l.idxOf x : Int) else -1
theorem index_eq : ∀ (l : List UInt8) (x : Int), 0 ≤ x → x < 256 → Lib.indexByte l x.toNat.toUInt8 = ixL (l.map fun b => (b.toNat : Int)) x
  | [], x, _, _ => rfl
  | b :: l, x, h0, h1 => by
    have ih := index_eq l x h0 h1
    have hb := b.toNat_lt
    have e1 : (b == x.toNat.toUInt8) = ((b.toNat : Int) == x) := by
      rw [Bool.eq_iff_iff, beq_iff_eq, beq_iff_eq]
      constructor
      · rintro rfl
        simp
        omega
      · intro e
        subst e
        simp
    unfold Lib.indexByte ixL
    rw [ih, e1]
    unfold ixL
    rw [List.map_cons, List.idxOf_cons]
    by_cases e : (b.toNat : Int) = x
    · rw [if_pos (by simpa using e), if_pos (by simp [e])]
      simp [e]
    · have e2 : ((b.toNat : Int) == x) = false := by simpa using e
      rw [e2]
      simp only [Bool.false_eq_true, if_false, cond_false]
      by_cases hm : x ∈ l.map fun b => (b.toNat : Int)
      · rw [if_pos hm, if_pos (List.mem_cons_of_mem _ hm), if_neg (by simp)]
        omega
      · rw [if_neg hm, if_neg (c := x ∈ _ :: _) (by simp only [List.mem_cons, not_or]; exact ⟨fun h => e h.symm, hm⟩)]
        rfl
theorem indexB_eq (s : ByteArray) (x : Int) (h0 : 0 ≤ x) (h1 : x < 256) : Lib.indexByte s.data.toList x.toNat.toUInt8 = ixL (bytesOf s) x := index_eq _ x h0 h1
theorem count_eq (s : ByteArray) (x : Int) (h0 : 0 ≤ x) (h1 : x < 256) : s.data.toList.count x.toNat.toUInt8 = (bytesOf s).count x := by
  unfold bytesOf
  generalize s.data.toList = l
  induction l with
  | nil => rfl
  | cons b l ih =>
    have hb := b.toNat_lt
    rw [List.map_cons, List.count_cons, List.count_cons, ih]
    congr 1
    have e1 : (b == x.toNat.toUInt8) = ((b.toNat : Int) == x) := by
      rw [Bool.eq_iff_iff, beq_iff_eq, beq_iff_eq]
      constructor
      · rintro rfl
        simp
        omega
      · intro e
        subst e
        simp
    rw [e1]
end Go.Proofs.YtcfcjpcoofjckaaDoor.M

/- The text of a puzzle, as the reference makes it. -/
namespace Go.Proofs.YtcfcjpcoofjckaaDoor.M
open Go.RowKit Go.Proofs.YtcfcjpcoofjckaaDoor.Pr Go.Proofs.YtcfcjpcoofjckaaDoorW.PrintWords Go.Proofs.YtcfcjpcoofjckaaDoorW.PrintLast
set_option linter.unusedVariables false
set_option linter.unusedSimpArgs false

/-- A number's numeral. -/
def numS (n : Nat) : ByteArray := ⟨(Lib.decDigits n).toArray⟩
theorem nDigits_le : ∀ n : Nat, Lib.nDigits n ≤ n + 1 := by
  intro n
  induction n using Nat.strongRecOn with
  | ind n ih =>
    by_cases h : n < 10
    · rw [Lib.nDigits_small h]; omega
    · rw [Lib.nDigits_big h]
      have := ih (n / 10) (by omega)
      omega
theorem numS_size (n : Nat) : (numS n).size ≤ n + 1 := by
  have := nDigits_le n
  rw [← Lib.decDigits_length] at this
  exact this
theorem dig_str (d : Nat) (h : d < 10) : strOfNums [(wrap64 (48 + (d : Int))) % 256] = ⟨#[UInt8.ofNat (48 + d)]⟩ := by
  apply bytesOf_inj
  rw [w64 (by omega) (by omega), bytesOf_strOf _ (by intro x hx; simp only [List.mem_singleton] at hx; omega)]
  unfold bytesOf
  simp
theorem l1Num_ev : ∀ n : Nat, n ≤ 1000000 → Ev (fun k => spec_l1Num.f k (n : Int)) (numS n) := by
  intro n
  induction n using Nat.strongRecOn with
  | ind n ih =>
    intro hn
    refine Ev.step (fun k => by rw [spec_l1Num.f]) ?_
    by_cases h : n < 10
    · refine Ev.pos (by omega) (Ev.val ?_)
      rw [dig_str n h]
      unfold numS
      rw [Lib.decDigits, dif_pos h]
    · refine Ev.neg (by omega) ?_
      have e1 : wrap64 (Int.tdiv (n : Int) 10) = ((n / 10 : Nat) : Int) := by
        rw [show Int.tdiv (n : Int) 10 = ((n / 10 : Nat) : Int) from (Int.ofNat_tdiv n 10).symm]
        exact w64 (by omega) (by omega)
      have e2 : Int.tmod (n : Int) 10 = ((n % 10 : Nat) : Int) := (Int.ofNat_tmod n 10).symm
      rw [e1, e2]
      refine Ev.bindk (ih (n / 10) (by omega) (by omega)) (Ev.bindc rfl ?_)
      rw [dig_str (n % 10) (by omega)]
      have hs := numS_size (n / 10)
      have h1 : (⟨#[UInt8.ofNat (48 + n % 10)]⟩ : ByteArray).size = 1 := rfl
      refine Ev.pos (by omega) (Ev.val ?_)
      unfold numS
      rw [Lib.decDigits.eq_1 n, dif_neg h]
      apply ByteArray.ext
      simp [ByteArray.data_append]
/-- A clue's text. -/
def clS (c : Cl) : ByteArray := (((numS c.f0.toNat ++ (⟨#[46]⟩ : ByteArray)) ++ numS c.f1.toNat) ++ (⟨#[46]⟩ : ByteArray)) ++ numS c.f2.toNat
theorem cl_range {c : Cl} (h : clN c.f0 c.f1 c.f2 = true) : (0 ≤ c.f0 ∧ c.f0 ≤ 5) ∧ (0 ≤ c.f1 ∧ c.f1 ≤ 100) ∧ 0 ≤ c.f2 ∧ c.f2 ≤ 14 := by
  unfold clN inB at h
  split at h
  · simp only [Bool.and_eq_true, decide_eq_true_eq, beq_iff_eq] at h; omega
  split at h
  · simp only [Bool.and_eq_true, decide_eq_true_eq, beq_iff_eq] at h; omega
  split at h
  · simp only [Bool.and_eq_true, decide_eq_true_eq, beq_iff_eq] at h; omega
  split at h
  · simp only [Bool.and_eq_true, decide_eq_true_eq, beq_iff_eq] at h; omega
  split at h
  · simp only [Bool.and_eq_true, decide_eq_true_eq, beq_iff_eq] at h; omega
  split at h
  · simp only [Bool.and_eq_true, decide_eq_true_eq, beq_iff_eq] at h; omega
  · cases h
theorem app_size (s t : ByteArray) : (s ++ t).size = s.size + t.size := ByteArray.size_append
theorem dot_size : (⟨#[46]⟩ : ByteArray).size = 1 := rfl
theorem comma_size : (⟨#[44]⟩ : ByteArray).size = 1 := rfl
theorem clS_size {c : Cl} (h : clN c.f0 c.f1 c.f2 = true) : (clS c).size ≤ 200 := by
  obtain ⟨h0, h1, h2⟩ := cl_range h
  have a0 := numS_size c.f0.toNat
  have a1 := numS_size c.f1.toNat
  have a2 := numS_size c.f2.toNat
  unfold clS
  rw [app_size, app_size, app_size, app_size, dot_size]
  omega
/-- A puzzle's text. -/
def pzS (l : List Cl) : ByteArray := ⟨(Lib.join ((l.map clS).map (·.data.toList)) [44]).toArray⟩
theorem pzS_one (c : Cl) : pzS [c] = clS c := by
  unfold pzS
  simp only [List.map_cons, List.map_nil]
  rw [Lib.join_one]
theorem joinTail_snoc (sep y : List UInt8) (r : List (List UInt8)) : Lib.joinTail sep (r ++ [y]) = Lib.joinTail sep r ++ (sep ++ y) := by
  unfold Lib.joinTail
  simp
theorem pzS_snoc (c0 c : Cl) (l : List Cl) : pzS (c0 :: l ++ [c]) = (pzS (c0 :: l) ++ (⟨#[44]⟩ : ByteArray)) ++ clS c := by
  apply ByteArray.ext
  unfold pzS
  simp only [List.cons_append, List.map_cons, List.map_append, List.map_nil, ByteArray.data_append]
  rw [Lib.join_cons, Lib.join_cons, joinTail_snoc]
  simp
theorem pzS_size : ∀ (n : Nat) (l : List Cl), l.length = n → (∀ c ∈ l, clN c.f0 c.f1 c.f2 = true) → (pzS l).size ≤ 201 * l.length := by
  intro n
  induction n with
  | zero =>
    intro l hl _
    obtain rfl := List.length_eq_zero_iff.1 hl
    exact Nat.le_refl _
  | succ n ih =>
    intro l hl h
    rcases List.eq_nil_or_concat l with e | ⟨m, c, e⟩
    · subst e
      cases hl
    · rw [List.concat_eq_append] at e
      subst e
      have hc := clS_size (h c (by simp))
      cases m with
      | nil => rw [List.nil_append, pzS_one]; simp; omega
      | cons c0 m =>
        have := ih (c0 :: m) (by simp at hl ⊢; omega) (fun x hx => h x (List.mem_append_left _ hx))
        rw [pzS_snoc, app_size, app_size, comma_size, List.length_append, List.length_singleton]
        omega
theorem puz_range {l : List Cl} (h : puzB l = true) : l.length ≤ 6 ∧ ∀ c ∈ l, clN c.f0 c.f1 c.f2 = true := by
  unfold puzB at h
  simp only [Bool.and_eq_true, decide_eq_true_eq, Bool.not_eq_true', List.any_eq_false] at h
  refine ⟨h.1, fun c hc => ?_⟩
  have := h.2 c hc
  unfold noCl at this
  simpa using this
theorem text_spec (l : List Cl) (h : puzB l = true) : Ev (fun k => spec_pzText.f k l) (pzS l) := by
  obtain ⟨h6, hr⟩ := puz_range h
  unfold spec_pzText.f
  suffices go : ∀ (d i : Nat), i + d = l.length → Ev (fun k => spec_pzText.l0 k (pzS (l.take i)) l (l.length : Int) (i : Int)) (pzS l) by
    have := go l.length 0 (by omega)
    exact this
  intro d
  induction d with
  | zero =>
    intro i hi
    refine Ev.step (fun k => by rw [spec_pzText.l0]) ?_
    refine Ev.neg (by omega) (Ev.val ?_)
    rw [List.take_of_length_le (by omega)]
  | succ d ih =>
    intro i hi
    have hl : i < l.length := by omega
    have hcl := hr l[i] (List.getElem_mem hl)
    obtain ⟨g0, g1, g2⟩ := cl_range hcl
    have hsz := clS_size hcl
    have hpz := pzS_size _ (l.take i) rfl (fun c hc => hr c (List.mem_of_mem_take hc))
    rw [List.length_take] at hpz
    have n0 := l1Num_ev l[i].f0.toNat (by omega)
    have n1 := l1Num_ev l[i].f1.toNat (by omega)
    have n2 := l1Num_ev l[i].f2.toNat (by omega)
    rw [Int.toNat_of_nonneg g0.1] at n0
    rw [Int.toNat_of_nonneg g1.1] at n1
    rw [Int.toNat_of_nonneg g2.1] at n2
    have hw : wrap64 ((i : Int) + 1) = ((i + 1 : Nat) : Int) := by rw [w64 (by omega) (by omega)]; omega
    have hnext := ih (i + 1) (by omega)
    rw [List.take_succ_eq_append_getElem hl] at hnext
    have hcS : clS l[i] = (((numS l[i].f0.toNat ++ (⟨#[46]⟩ : ByteArray)) ++ numS l[i].f1.toNat) ++ (⟨#[46]⟩ : ByteArray)) ++ numS l[i].f2.toNat := rfl
    have hsz2 := hsz
    rw [hcS, app_size, app_size, app_size, app_size, dot_size] at hsz2
    refine Ev.step (fun k => by rw [spec_pzText.l0]) ?_
    rw [rd_cl l i hl, hw]
    refine Ev.pos (by omega) (Ev.pos (by omega) (Ev.pos (by omega) ?_))
    by_cases hi0 : i = 0
    · subst hi0
      rw [List.take_zero, List.nil_append, pzS_one] at hnext
      refine Ev.neg (by omega) (Ev.bindk n0 (Ev.pos (by omega) (Ev.bindk n1 (Ev.pos (by rw [app_size, dot_size]; omega) (Ev.pos (by rw [app_size, app_size, dot_size]; omega) (Ev.bindk n2 (Ev.pos (by rw [app_size, app_size, app_size, dot_size]; omega) (Ev.pos (by rw [← hcS]; omega) ?_))))))))
      rw [← hcS]
      rw [show pzS (List.take 0 l) ++ clS l[0] = clS l[0] from by
        apply ByteArray.ext
        rw [ByteArray.data_append]
        simp [pzS, Lib.join_nil]]
      exact hnext
    · obtain ⟨c0, m, hm⟩ : ∃ c0 m, l.take i = c0 :: m := by
        cases e : l.take i with
        | nil =>
          have := congrArg List.length e
          rw [List.length_take, List.length_nil] at this
          omega
        | cons a b => exact ⟨a, b, rfl⟩
      rw [hm, pzS_snoc, ← hm] at hnext
      refine Ev.pos (by omega) (Ev.pos (by omega) (Ev.bindk n0 (Ev.pos (by omega) (Ev.bindk n1 (Ev.pos (by rw [app_size, dot_size]; omega) (Ev.pos (by rw [app_size, app_size, dot_size]; omega) (Ev.bindk n2 (Ev.pos (by rw [app_size, app_size, app_size, dot_size]; omega) (Ev.pos (by rw [← hcS, app_size, comma_size]; omega) ?_)))))))))
      rw [← hcS]
      exact hnext
end Go.Proofs.YtcfcjpcoofjckaaDoor.M

/- A text cut at each occurrence of a byte. -/
namespace Go.Proofs.YtcfcjpcoofjckaaDoor.M
open Go.RowKit Go.Proofs.YtcfcjpcoofjckaaDoorW.PrintWords Go.Proofs.YtcfcjpcoofjckaaDoor.Pr
set_option linter.unusedVariables false
set_option linter.unusedSimpArgs false

def splU (c : UInt8) : List UInt8 → List (List UInt8)
  | [] => [[]]
  | b :: l => if b = c then [] :: splU c l else match splU c l with
    | [] => [[b]]
    | x :: r => (b :: x) :: r
theorem splU_ne (c : UInt8) : ∀ l : List UInt8, splU c l ≠ []
  | [] => by simp [splU]
  | b :: l => by
    unfold splU
    split
    · simp
    · split <;> simp
theorem splU_app (c : UInt8) (r : List UInt8) : ∀ x : List UInt8, c ∉ x → splU c (x ++ c :: r) = x :: splU c r
  | [], _ => by rw [List.nil_append, splU, if_pos rfl]
  | b :: x, h => by
    have hb : ¬ b = c := fun e => h (by rw [e]; exact List.mem_cons_self)
    rw [List.cons_append, splU, if_neg hb, splU_app c r x (fun e => h (List.mem_cons_of_mem _ e))]
theorem splU_one (c : UInt8) : ∀ x : List UInt8, c ∉ x → splU c x = [x]
  | [], _ => rfl
  | b :: x, h => by
    have hb : ¬ b = c := fun e => h (by rw [e]; exact List.mem_cons_self)
    rw [splU, if_neg hb, splU_one c x (fun e => h (List.mem_cons_of_mem _ e))]
/-- The parts, put together again. -/
theorem splU_join (c : UInt8) : ∀ l : List UInt8, Lib.join (splU c l) [c] = l
  | [] => by simp [splU, Lib.join_one]
  | b :: l => by
    have ih := splU_join c l
    unfold splU
    by_cases hb : b = c
    · rw [if_pos hb]
      cases hs : splU c l with
      | nil => exact absurd hs (splU_ne c l)
      | cons x r =>
        rw [hs, Lib.join_cons] at ih
        rw [Lib.join_cons, List.nil_append]
        unfold Lib.joinTail at ih ⊢
        rw [List.map_cons, List.flatten_cons, List.append_assoc, ih, hb]
        rfl
    · rw [if_neg hb]
      cases hs : splU c l with
      | nil => exact absurd hs (splU_ne c l)
      | cons x r =>
        rw [hs, Lib.join_cons] at ih
        show Lib.join ((b :: x) :: r) [c] = b :: l
        rw [Lib.join_cons, List.cons_append, ih]
/-- Texts without the byte, put together, are cut again. -/
theorem splU_of_join (c : UInt8) : ∀ (x : List UInt8) (r : List (List UInt8)), (∀ y ∈ x :: r, c ∉ y) → splU c (Lib.join (x :: r) [c]) = x :: r
  | x, [], h => by
    rw [Lib.join_one]
    exact splU_one c x (h x (by simp))
  | x, y :: r, h => by
    have ih := splU_of_join c y r (fun z hz => h z (List.mem_cons_of_mem _ hz))
    rw [Lib.join_cons] at ih ⊢
    unfold Lib.joinTail at ih ⊢
    rw [List.map_cons, List.flatten_cons, List.append_assoc]
    show splU c (x ++ (c :: (y ++ _))) = _
    rw [splU_app c _ x (h x (by simp)), ih]
theorem index_parts (l : List UInt8) (c : UInt8) : (Lib.indexByte l c = -1 ∧ c ∉ l) ∨ ∃ x r, l = x ++ c :: r ∧ c ∉ x ∧ Lib.indexByte l c = (x.length : Int) := by
  induction l with
  | nil => exact .inl ⟨rfl, by simp⟩
  | cons b l ih =>
    by_cases hb : b = c
    · refine .inr ⟨[], l, by rw [hb]; rfl, by simp, ?_⟩
      unfold Lib.indexByte
      rw [if_pos (by simpa using hb)]
      rfl
    · rcases ih with ⟨h1, h2⟩ | ⟨x, r, e, h1, h2⟩
      · refine .inl ⟨?_, fun e => ?_⟩
        · unfold Lib.indexByte
          rw [if_neg (by simpa using hb), if_pos (by rw [h1]; rfl)]
        · rcases List.mem_cons.1 e with e | e
          · exact hb e.symm
          · exact h2 e
      · refine .inr ⟨b :: x, r, by rw [e]; rfl, fun e => ?_, ?_⟩
        · rcases List.mem_cons.1 e with e | e
          · exact hb e.symm
          · exact h1 e
        · unfold Lib.indexByte
          rw [if_neg (by simpa using hb), if_neg (by rw [h2]; simp), h2]
          simp
theorem split_data (c : UInt8) : ∀ (k : Nat) (l : List UInt8), Lib.count l [c] = k → Lib.splitK [c] 0 k l = splU c l := by
  intro k
  induction k with
  | zero =>
    intro l h
    rcases index_parts l c with ⟨h1, h2⟩ | ⟨x, r, e, h1, h2⟩
    · rw [splU_one c l h2]
      rfl
    · exfalso
      rw [Lib.count_one, e] at h
      simp at h
  | succ k ih =>
    intro l h
    unfold Lib.splitK
    rw [Lib.index_one]
    rcases index_parts l c with ⟨h1, h2⟩ | ⟨x, r, e, h1, h2⟩
    · rw [h1, if_pos (by rfl), splU_one c l h2]
    · rw [h2, if_neg (by simp)]
      subst e
      have hc : Lib.count r [c] = k := by
        rw [Lib.count_one] at h ⊢
        rw [List.count_append, List.count_cons_self, List.count_eq_zero_of_not_mem h1] at h
        omega
      rw [splU_app c r x h1, Int.toNat_natCast, Nat.add_zero, List.take_left, show (x ++ c :: r).drop (x.length + [c].length) = r from by simp, ih r hc]
/-- The parts, as texts. -/
def splS (c : UInt8) (s : ByteArray) : List ByteArray := (splU c s.data.toList).map fun x => ⟨x.toArray⟩
theorem map_data (l : List ByteArray) : (l.map (·.data.toList)).map (fun x => (⟨x.toArray⟩ : ByteArray)) = l := by
  rw [List.map_map]
  conv => rhs; rw [← List.map_id l]
  refine List.map_congr_left fun x _ => ?_
  simp
theorem split_eq (c : UInt8) (s : ByteArray) (hs : s.size ≤ 4294967280) : strings_Split.f s ⟨#[c]⟩ = some (splS c s) := by
  unfold strings_Split.f
  have h1 : 1 ≤ (⟨#[c]⟩ : ByteArray).size := Nat.le_refl 1
  have hle := Lib.countB_le ⟨#[c]⟩ h1 s.size s (Nat.le_refl _)
  rw [if_pos ⟨hs, h1, by omega⟩]
  congr 1
  rw [← map_data (Lib.splitB _ _ _ _), Lib.splitB_data]
  unfold splS
  congr 1
  exact split_data c _ _ rfl
theorem bt_data (s : ByteArray) (i : Nat) (h : i < s.data.toList.length) : bt s (i : Int) = ((s.data.toList[i]).toNat : Int) := by
  have hb : i < (bytesOf s).length := by unfold bytesOf; rw [List.length_map]; exact h
  rw [bytesOf_get s i hb]
  simp [bytesOf]
theorem extract_data (s : ByteArray) (a b : Nat) : s.extract a b = ⟨((s.data.toList.take b).drop a).toArray⟩ := by
  apply ByteArray.ext
  rw [ByteArray.data_extract]
  apply Array.toList_inj.1
  rw [Array.toList_extract, List.extract_eq_take_drop, List.drop_take]
theorem cut_at (l : List UInt8) (f i : Nat) (hf : f ≤ i) (hi : i ≤ l.length) : l.drop f = (l.take i).drop f ++ l.drop i := by
  conv => lhs; rw [← List.take_append_drop i l]
  rw [List.drop_append_of_le_length (by rw [List.length_take]; omega)]
theorem l1Split_ev (c : UInt8) (s : ByteArray) (hs : s.size ≤ 1048576) : Ev (fun k => spec_l1Split.f k s (c.toNat : Int)) (splS c s) := by
  unfold spec_l1Split.f splS
  have hlen : s.data.toList.length = s.size := by rw [Array.length_toList]; rfl
  obtain ⟨l, hl⟩ : ∃ l, l = s.data.toList := ⟨_, rfl⟩
  rw [← hl] at hlen ⊢
  suffices go : ∀ (d i f : Nat) (out : List ByteArray), i + d = l.length → f ≤ i → c ∉ (l.take i).drop f → out.length ≤ i → Ev (fun k => spec_l1Split.l0 k s (c.toNat : Int) out (f : Int) (i : Int)) (out ++ (splU c (l.drop f)).map fun x => ⟨x.toArray⟩) by
    have := go l.length 0 0 [] (by omega) (Nat.le_refl _) (by simp) (Nat.le_refl _)
    simpa using this
  intro d
  induction d with
  | zero =>
    intro i f out hi hf hc ho
    refine Ev.step (fun k => by rw [spec_l1Split.l0]) ?_
    refine Ev.neg (by omega) (Ev.pos (by omega) (Ev.pos (by omega) (Ev.pos (by omega) (Ev.val ?_))))
    rw [List.take_of_length_le (by omega)] at hc
    rw [splU_one c _ hc, extract_data, ← hl, Int.toNat_natCast, List.take_of_length_le (by omega)]
    rfl
  | succ d ih =>
    intro i f out hi hf hc ho
    have hil : i < l.length := by omega
    have hw : wrap64 ((i : Int) + 1) = ((i + 1 : Nat) : Int) := by rw [w64 (by omega) (by omega)]; omega
    have hb : bt s (i : Int) = ((l[i]).toNat : Int) := by subst hl; exact bt_data s i hil
    refine Ev.step (fun k => by rw [spec_l1Split.l0]) ?_
    rw [hb, hw]
    refine Ev.pos (by omega) (Ev.pos (by omega) ?_)
    have hdrop : l.drop i = l[i] :: l.drop (i + 1) := List.drop_eq_getElem_cons hil
    by_cases he : l[i] = c
    · refine Ev.pos (by rw [he]) (Ev.pos (by omega) (Ev.pos (by omega) (Ev.pos (by omega) (Ev.pos (by omega) ?_))))
      have hn := ih (i + 1) (i + 1) (out ++ [s.extract (f : Int).toNat (i : Int).toNat]) (by omega) (Nat.le_refl _) (by rw [List.drop_of_length_le (by rw [List.length_take]; omega)]; simp) (by rw [List.length_append, List.length_singleton]; omega)
      rw [cut_at l f i hf (by omega), hdrop, he, splU_app c _ _ hc, List.map_cons]
      rw [List.append_assoc, extract_data, ← hl, Int.toNat_natCast, Int.toNat_natCast] at hn
      rw [extract_data, ← hl, Int.toNat_natCast, Int.toNat_natCast]
      exact hn
    · have hne : ¬ ((l[i]).toNat : Int) = (c.toNat : Int) := fun e => he (UInt8.toNat_inj.1 (by omega))
      refine Ev.neg hne (ih (i + 1) f out (by omega) (by omega) ?_ (by omega))
      rw [List.take_succ_eq_append_getElem hil, List.drop_append_of_le_length (by rw [List.length_take]; omega)]
      intro e
      rcases List.mem_append.1 e with e | e
      · exact hc e
      · exact he (List.mem_singleton.1 e).symm
end Go.Proofs.YtcfcjpcoofjckaaDoor.M

/- Numerals of few digits, and what both read of them. -/
namespace Go.Proofs.YtcfcjpcoofjckaaDoor.M
open Go.RowKit Go.Proofs.YtcfcjpcoofjckaaDoor.Pr Go.Proofs.YtcfcjpcoofjckaaDoorW.PrintWords Go.Proofs.YtcfcjpcoofjckaaDoorW.PrintLast
set_option linter.unusedVariables false
set_option linter.unusedSimpArgs false

/-- Three digits at most. -/
def num3 (v : Nat) : List UInt8 := if v < 10 then [UInt8.ofNat (48 + v)] else if v < 100 then [UInt8.ofNat (48 + v / 10), UInt8.ofNat (48 + v % 10)] else [UInt8.ofNat (48 + v / 10 / 10), UInt8.ofNat (48 + v / 10 % 10), UInt8.ofNat (48 + v % 10)]
theorem dec3 (v : Nat) (h : v < 1000) : Lib.decDigits v = num3 v := by
  unfold num3
  by_cases h1 : v < 10
  · rw [if_pos h1]; exact Lib.decDigits_one h1
  · rw [if_neg h1]
    by_cases h2 : v < 100
    · rw [if_pos h2]; exact Lib.decDigits_two h1 h2
    · rw [if_neg h2, Lib.decDigits.eq_1 v, dif_neg h1, Lib.decDigits_two (i := v / 10) (by omega) (by omega)]
      rfl
theorem numS3 (v : Nat) (h : v < 1000) : numS v = ⟨(num3 v).toArray⟩ := by unfold numS; rw [dec3 v h]
theorem num3_plain : ∀ v : Fin 101, (46 : UInt8) ∉ num3 v.val ∧ (44 : UInt8) ∉ num3 v.val ∧ (num3 v.val).length ≤ 3 ∧ num3 v.val ≠ [] := by decide +kernel
theorem num3_read : ∀ v : Fin 101, spec_l1Read.f 10 ⟨(num3 v.val).toArray⟩ = some (v.val : Int) := by decide +kernel
theorem num3_atoi : ∀ v : Fin 101, (match Lib.atoiAll (num3 v.val) with | .ok u => u == (v.val : Int) | _ => false) = true := by decide +kernel
theorem numV_num (v : Nat) (h : v ≤ 100) : numV (numS v) = (v : Int) := by
  have e := num3_atoi ⟨v, by omega⟩
  dsimp only at e
  unfold numV
  rw [numS3 v (by omega)]
  dsimp only
  cases hq : Lib.atoiAll (num3 v) with
  | ok u =>
    rw [hq] at e
    have e2 : u = (v : Int) := by simpa using e
    subst e2
    dsimp only
    rw [if_neg (by omega), if_pos (by unfold Lib.itoa; rw [if_neg (by omega), Int.toNat_natCast, dec3 v (by omega)])]
  | «syntax» => rw [hq] at e; cases e
  | range => rw [hq] at e; cases e
theorem ev_mono {α : Type} {g : Nat → Option α} (hm : ∀ k, LeO (g k) (g (k + 1))) {n : Nat} {r : α} (h : g n = some r) : Ev g r := by
  refine ⟨n, fun k hk => ?_⟩
  induction hk with
  | refl => exact h
  | step _ ih => exact hm _ _ ih
theorem read_num (v : Nat) (h : v ≤ 100) : Ev (fun k => spec_l1Read.f k (numS v)) (v : Int) := by
  have e := num3_read ⟨v, by omega⟩
  rw [numS3 v (by omega)]
  exact ev_mono (fun k => spec_l1Read.mono _ k) e
/-- A number that is read is the numeral. -/
theorem num_of (s : ByteArray) (h : 0 ≤ numV s) : s = numS (numV s).toNat := by
  unfold numV at h ⊢
  cases hq : Lib.atoiAll s.data.toList with
  | ok u =>
    rw [hq] at h
    dsimp only at h ⊢
    by_cases h1 : u < 0
    · rw [if_pos h1] at h; omega
    · rw [if_neg h1] at h ⊢
      by_cases h2 : Lib.itoa u = s.data.toList
      · rw [if_pos h2] at h ⊢
        unfold Lib.itoa at h2
        rw [if_neg h1] at h2
        unfold numS
        rw [h2]
      · rw [if_neg h2] at h; omega
  | «syntax» => rw [hq] at h; dsimp only at h; omega
  | range => rw [hq] at h; dsimp only at h; omega
theorem read_some (s : ByteArray) (hs : s.size ≤ 1048576) : ∃ v, Ev (fun k => spec_l1Read.f k s) v := by
  have loop : ∀ (d i : Nat) (acc : Int), i + d = s.size → ∃ v, Ev (fun k => spec_l1Read.l0 k s acc (i : Int)) v := by
    intro d
    induction d with
    | zero =>
      intro i acc hi
      exact ⟨acc, Ev.step (fun k => by rw [spec_l1Read.l0]) (Ev.neg (by omega) (Ev.val rfl))⟩
    | succ d ih =>
      intro i acc hi
      have hw : wrap64 ((i : Int) + 1) = ((i + 1 : Nat) : Int) := by rw [w64 (by omega) (by omega)]; omega
      by_cases h1 : bt s (i : Int) < 48
      · exact ⟨-1, Ev.step (fun k => by rw [spec_l1Read.l0]) (Ev.pos (by omega) (Ev.pos (by omega) (Ev.pos h1 (Ev.val rfl))))⟩
      · by_cases h2 : bt s (i : Int) > 57
        · exact ⟨-1, Ev.step (fun k => by rw [spec_l1Read.l0]) (Ev.pos (by omega) (Ev.pos (by omega) (Ev.neg h1 (Ev.pos h2 (Ev.val rfl)))))⟩
        · obtain ⟨v, hv⟩ := ih (i + 1) (wrap64 ((wrap64 (10 * acc)) + (((bt s (i : Int)) - 48) % 256))) (by omega)
          refine ⟨v, Ev.step (fun k => by rw [spec_l1Read.l0]) (Ev.pos (by omega) (Ev.pos (by omega) (Ev.neg h1 (Ev.neg h2 ?_))))⟩
          rw [hw]
          exact hv
  have j : ∀ b : Bool, ∃ v, Ev (fun k => spec_l1Read.j0 k s b) v := by
    intro b
    cases b with
    | true => exact ⟨-1, Ev.step (fun k => by rw [spec_l1Read.j0]) (Ev.pos rfl (Ev.val rfl))⟩
    | false =>
      obtain ⟨v, hv0⟩ := loop s.size 0 0 (by omega)
      have hv : Ev (fun k => spec_l1Read.l0 k s 0 0) v := hv0
      exact ⟨v, Ev.step (fun k => by rw [spec_l1Read.j0]) (Ev.neg (by decide) hv)⟩
  unfold spec_l1Read.f
  have hin : spec_l1In.f (s.size : Int) 1 6 = some (inB (s.size : Int) 1 6) := l1In_eq _ _ _
  by_cases h : inB (s.size : Int) 1 6 = true
  · have g := h
    simp only [inB, Bool.and_eq_true, decide_eq_true_eq] at g
    by_cases hz : bt s 0 = 48
    · obtain ⟨v, hv⟩ := j (decide ((s.size : Int) > 1))
      exact ⟨v, Ev.bindc hin (Ev.pos h (Ev.pos (by omega) (Ev.pos hz hv)))⟩
    · obtain ⟨v, hv⟩ := j false
      exact ⟨v, Ev.bindc hin (Ev.pos h (Ev.pos (by omega) (Ev.neg hz hv)))⟩
  · obtain ⟨v, hv⟩ := j true
    exact ⟨v, Ev.bindc hin (Ev.neg h hv)⟩
end Go.Proofs.YtcfcjpcoofjckaaDoor.M

/- The statements' own helpers on lists of clues: marked and held. -/
namespace Go.Proofs.YtcfcjpcoofjckaaDoor.M
open Go.RowKit Go.Proofs.YtcfcjpcoofjckaaDoorW.PrintWords Go.Proofs.YtcfcjpcoofjckaaDoor.Pr
set_option linter.unusedVariables false
set_option linter.unusedSimpArgs false

def upT (m : Int) (n : Nat) : List Cl := (List.range n).map fun (i : Nat) => ⟨m + 3 * (i : Int), m + 3 * (i : Int) + 1, m + 3 * (i : Int) + 2⟩
theorem upT_length (m : Int) (n : Nat) : (upT m n).length = n := by simp [upT]
theorem upT_succ (m : Int) (n : Nat) : upT m (n + 1) = upT m n ++ [⟨m + 3 * (n : Int), m + 3 * (n : Int) + 1, m + 3 * (n : Int) + 2⟩] := by
  unfold upT
  rw [List.range_succ, List.map_append]
  rfl
theorem upT_get (m : Int) (n i : Nat) (h : i < (upT m n).length) : (upT m n)[i] = ⟨m + 3 * (i : Int), m + 3 * (i : Int) + 1, m + 3 * (i : Int) + 2⟩ := by
  simp [upT]
theorem setT_mid (A : List Cl) (x v : Cl) (r : List Cl) : (A ++ x :: r).set A.length v = A ++ v :: r := by
  rw [List.set_append_right _ _ (Nat.le_refl _), Nat.sub_self, List.set_cons_zero]

theorem markClS_ev (l : List Cl) (m : Int) (hm : 0 ≤ m) (hb : m + 3 * l.length ≤ 9223372036854775806) : Ev (fun k => laws_markClueS.f k l m) (m + 3 * (l.length : Int), upT m l.length) := by
  unfold laws_markClueS.f
  exact Ev.scan0 (fun k i (acc : List Cl × Int) => laws_markClueS.l0 k acc.1 acc.2 i) l (fun _ _ => (m + 3 * (l.length : Int), upT m l.length)) (fun i acc => acc = (upT m i ++ l.drop i, m + 3 * (i : Int)))
    (fun acc hp => by
      refine Ev.step (fun k => by rw [laws_markClueS.l0]) ?_
      rw [hp]
      refine Ev.neg (by simp [upT_length]) (Ev.val ?_)
      simp)
    (fun i h acc hp => by
      refine .inl ⟨(upT m (i + 1) ++ l.drop (i + 1), m + 3 * ((i + 1 : Nat) : Int)), rfl, rfl, fun r hr2 => ?_⟩
      refine Ev.step (fun k => by rw [laws_markClueS.l0]) ?_
      rw [hp]
      have hll : (upT m i ++ l.drop i).length = l.length := by simp [upT_length]; omega
      refine Ev.pos (by rw [hll]; omega) (Ev.pos (by omega) ?_)
      simp only [Option.bind_some]
      have h2 : ∀ u v : Cl, (upT m i ++ u :: l.drop (i + 1)).set i v = upT m i ++ v :: l.drop (i + 1) := by
        intro u v
        have := setT_mid (upT m i) u v (l.drop (i + 1))
        rwa [upT_length] at this
      have hg : ∀ u : Cl, rd_T44 (upT m i ++ u :: l.drop (i + 1)) (i : Int) = u := by
        intro u
        have hlt : i < (upT m i ++ u :: l.drop (i + 1)).length := by simp [upT_length]
        rw [rd_cl _ i hlt, List.getElem_append_right (by rw [upT_length]; exact Nat.le_refl _)]
        simp [upT_length]
      rw [Int.toNat_natCast, List.drop_eq_getElem_cons h]
      simp only [h2, hg]
      rw [w64 (x := (i : Int) + 1) (by omega) (by omega), w64 (x := m + 3 * (i : Int) + 1) (by omega) (by omega), w64 (x := m + 3 * (i : Int) + 1 + 1) (by omega) (by omega), w64 (x := m + 3 * (i : Int) + 1 + 1 + 1) (by omega) (by omega)]
      rw [upT_succ, List.append_assoc] at hr2
      have e2 : m + 3 * ((i + 1 : Nat) : Int) = m + 3 * (i : Int) + 1 + 1 + 1 := by omega
      have e3 : m + 3 * (i : Int) + 2 = m + 3 * (i : Int) + 1 + 1 := by omega
      rw [e2, e3] at hr2
      exact hr2)
    (l, m) (by simp [upT])
theorem heldClS_ev (n : Nat) (m : Int) (hm : 0 ≤ m) (hb : m + 3 * n ≤ 9223372036854775806) : Ev (fun k => laws_heldClueS.f k (upT m n) m) (m + 3 * (n : Int)) := by
  unfold laws_heldClueS.f
  have e := Ev.scan0 (fun k i (acc : Int) => laws_heldClueS.l0 k (upT m n) acc i) (upT m n) (fun _ _ => m + 3 * (n : Int)) (fun i acc => acc = m + 3 * (i : Int))
    (fun acc hp => by
      refine Ev.step (fun k => by rw [laws_heldClueS.l0]) ?_
      refine Ev.neg (by omega) (Ev.val ?_)
      rw [hp, upT_length])
    (fun i h acc hp => by
      refine .inl ⟨m + 3 * ((i + 1 : Nat) : Int), rfl, rfl, fun r hr2 => ?_⟩
      have hn : i < n := by rw [upT_length] at h; exact h
      refine Ev.step (fun k => by rw [laws_heldClueS.l0]) ?_
      refine Ev.pos (by omega) (Ev.pos (by omega) ?_)
      rw [rd_cl _ i h, upT_get, hp]
      rw [w64 (x := (i : Int) + 1) (by omega) (by omega), w64 (x := m + 3 * (i : Int) + 1) (by omega) (by omega), w64 (x := m + 3 * (i : Int) + 1 + 1) (by omega) (by omega), w64 (x := m + 3 * (i : Int) + 1 + 1 + 1) (by omega) (by omega)]
      refine Ev.pos rfl (Ev.pos rfl (Ev.pos (by show m + 3 * (i : Int) + 2 = _; omega) ?_))
      have e2 : m + 3 * ((i + 1 : Nat) : Int) = m + 3 * (i : Int) + 1 + 1 + 1 := by omega
      rw [e2] at hr2
      exact hr2)
    m (by simp)
  exact e
theorem markP_ev (l : List Cl) (hb : l.length ≤ 1048576) : Ev (fun k => laws_markPuzzle.f k l 1) (1 + 3 * (l.length : Int), upT 1 l.length) := by
  unfold laws_markPuzzle.f
  exact Ev.bindk (markClS_ev l 1 (by omega) (by omega)) (Ev.val rfl)
theorem heldP_ev (n : Nat) (hb : n ≤ 1048576) : Ev (fun k => laws_heldPuzzle.f k (upT 1 n) 1) (1 + 3 * (n : Int)) := by
  unfold laws_heldPuzzle.f
  exact Ev.bindk (heldClS_ev n 1 (by omega) (by omega)) (Ev.neg (by omega) (Ev.val rfl))
end Go.Proofs.YtcfcjpcoofjckaaDoor.M

/- ParsePuzzle: the plain law: both read the texts of puzzles, and no others. -/
namespace Go.Proofs.YtcfcjpcoofjckaaDoor.Pure
open Go.RowKit Go.Proofs.YtcfcjpcoofjckaaDoor.Pr Go.Proofs.YtcfcjpcoofjckaaDoorW.PrintWords Go.Proofs.YtcfcjpcoofjckaaDoorW.PrintLast Go.Proofs.YtcfcjpcoofjckaaDoor.M
set_option linter.unusedVariables false
set_option linter.unusedSimpArgs false

theorem num_plain (v : Nat) (h : v ≤ 100) : (46 : UInt8) ∉ (numS v).data.toList ∧ (44 : UInt8) ∉ (numS v).data.toList ∧ (numS v).size ≤ 3 := by
  have e := num3_plain ⟨v, by omega⟩
  rw [numS3 v (by omega)]
  exact ⟨e.1, e.2.1, e.2.2.1⟩
theorem cl_bounds {c : Cl} (h : clN c.f0 c.f1 c.f2 = true) : (0 ≤ c.f0 ∧ c.f0 ≤ 100) ∧ (0 ≤ c.f1 ∧ c.f1 ≤ 100) ∧ 0 ≤ c.f2 ∧ c.f2 ≤ 100 := by
  have := cl_range h
  omega
theorem clS_data (c : Cl) : (clS c).data.toList = (numS c.f0.toNat).data.toList ++ 46 :: ((numS c.f1.toNat).data.toList ++ 46 :: (numS c.f2.toNat).data.toList) := by
  unfold clS
  simp [ByteArray.data_append]
theorem clS_plain {c : Cl} (h : clN c.f0 c.f1 c.f2 = true) : (44 : UInt8) ∉ (clS c).data.toList := by
  obtain ⟨h0, h1, h2⟩ := cl_bounds h
  have a0 := (num_plain c.f0.toNat (by omega)).2.1
  have a1 := (num_plain c.f1.toNat (by omega)).2.1
  have a2 := (num_plain c.f2.toNat (by omega)).2.1
  rw [clS_data]
  simp [a0, a1, a2]
theorem mk_data (s : ByteArray) : (⟨s.data.toList.toArray⟩ : ByteArray) = s := by simp
theorem clS_split {c : Cl} (h : clN c.f0 c.f1 c.f2 = true) : splS 46 (clS c) = [numS c.f0.toNat, numS c.f1.toNat, numS c.f2.toNat] := by
  obtain ⟨h0, h1, h2⟩ := cl_bounds h
  unfold splS
  rw [clS_data, splU_app 46 _ _ (num_plain c.f0.toNat (by omega)).1, splU_app 46 _ _ (num_plain c.f1.toNat (by omega)).1, splU_one 46 _ (num_plain c.f2.toNat (by omega)).1]
  simp only [List.map_cons, List.map_nil, mk_data]
theorem clS_short {c : Cl} (h : clN c.f0 c.f1 c.f2 = true) : (clS c).size ≤ 11 := by
  obtain ⟨h0, h1, h2⟩ := cl_bounds h
  have a0 := (num_plain c.f0.toNat (by omega)).2.2
  have a1 := (num_plain c.f1.toNat (by omega)).2.2
  have a2 := (num_plain c.f2.toNat (by omega)).2.2
  unfold clS
  rw [app_size, app_size, app_size, app_size, dot_size]
  omega
theorem pzS_short : ∀ (n : Nat) (l : List Cl), l.length = n → (∀ c ∈ l, clN c.f0 c.f1 c.f2 = true) → (pzS l).size ≤ 12 * l.length := by
  intro n
  induction n with
  | zero =>
    intro l hl _
    obtain rfl := List.length_eq_zero_iff.1 hl
    exact Nat.le_refl _
  | succ n ih =>
    intro l hl h
    rcases List.eq_nil_or_concat l with e | ⟨m, c, e⟩
    · subst e
      cases hl
    · rw [List.concat_eq_append] at e
      subst e
      have hc := clS_short (h c (by simp))
      cases m with
      | nil => rw [List.nil_append, pzS_one]; simp; omega
      | cons c0 m =>
        have := ih (c0 :: m) (by simp at hl ⊢; omega) (fun x hx => h x (List.mem_append_left _ hx))
        rw [pzS_snoc, app_size, app_size, comma_size, List.length_append, List.length_singleton]
        omega
theorem pzS_data (p : List Cl) : (pzS p).data.toList = Lib.join ((p.map clS).map (·.data.toList)) [44] := rfl
theorem pzS_split (c : Cl) (p : List Cl) (h : ∀ x ∈ c :: p, clN x.f0 x.f1 x.f2 = true) : splS 44 (pzS (c :: p)) = (c :: p).map clS := by
  unfold splS
  rw [pzS_data, List.map_cons, List.map_cons, splU_of_join 44 _ _ ?_]
  · exact map_data ((c :: p).map clS)
  · intro y hy
    rw [← List.map_cons (f := fun (x : ByteArray) => x.data.toList), ← List.map_cons (f := clS)] at hy
    obtain ⟨z, hz, rfl⟩ := List.mem_map.1 hy
    obtain ⟨x, hx, rfl⟩ := List.mem_map.1 hz
    exact clS_plain (h x hx)
theorem splS_size (c : UInt8) (s : ByteArray) : (splS c s).length ≤ s.size + 1 ∧ ∀ x ∈ splS c s, x.size ≤ s.size := by
  have hl : s.data.toList.length = s.size := by rw [Array.length_toList]; rfl
  rw [← hl]
  unfold splS
  rw [List.length_map]
  have key : ∀ l : List UInt8, (splU c l).length ≤ l.length + 1 ∧ ∀ x ∈ splU c l, x.length ≤ l.length := by
    intro l
    induction l with
    | nil => exact ⟨Nat.le_refl _, fun x hx => by simp [splU] at hx; subst hx; exact Nat.le_refl _⟩
    | cons b l ih =>
      unfold splU
      by_cases hb : b = c
      · rw [if_pos hb]
        refine ⟨by simp only [List.length_cons]; omega, fun x hx => ?_⟩
        rcases List.mem_cons.1 hx with e | e
        · subst e; exact Nat.zero_le _
        · have := ih.2 x e; simp only [List.length_cons]; omega
      · rw [if_neg hb]
        cases hs : splU c l with
        | nil => exact absurd hs (splU_ne c l)
        | cons y r =>
          rw [hs] at ih
          refine ⟨by have := ih.1; simp only [List.length_cons] at this ⊢; omega, fun x hx => ?_⟩
          rcases List.mem_cons.1 hx with e | e
          · subst e; have := ih.2 y (by simp); simp only [List.length_cons]; omega
          · have := ih.2 x (List.mem_cons_of_mem _ e); simp only [List.length_cons]; omega
  refine ⟨(key _).1, fun x hx => ?_⟩
  obtain ⟨y, hy, rfl⟩ := List.mem_map.1 hx
  have := (key _).2 y hy
  exact this

/-- What the program reads of the parts. -/
def partN (t : ByteArray) : Cl := ⟨numV (rdOf ByteArray.empty (splS 46 t) 0), numV (rdOf ByteArray.empty (splS 46 t) 1), numV (rdOf ByteArray.empty (splS 46 t) 2)⟩
def goI : List ByteArray → List Cl → List Cl × Bool
  | [], acc => if puzB acc = true then (acc, true) else ([], false)
  | t :: r, acc => if (splS 46 t).length = 3 then goI r (acc ++ [partN t]) else ([], false)
def parseI (s : ByteArray) : List Cl × Bool := if s.toList = [] then ([], true) else goI (splS 44 s) []
theorem rdOf_at (l : List ByteArray) (i : Nat) (h : i < l.length) : rdOf ByteArray.empty l (i : Int) = l[i] := by
  unfold rdOf
  simp [List.getD_eq_getElem?_getD, List.getElem?_eq_getElem h]
theorem rdOf_size (t : ByteArray) (i : Nat) (h : i < (splS 46 t).length) : (rdOf ByteArray.empty (splS 46 t) (i : Int)).size ≤ t.size := by
  rw [rdOf_at _ i h]
  exact (splS_size 46 t).2 _ (List.getElem_mem h)
theorem number_eq (s : ByteArray) (h : s.size ≤ 1048576) : impl_number.f s = some (numV s) := by
  unfold impl_number.f
  rw [if_pos (by omega)]
theorem parse_loop (P : List ByteArray) (hP : P.length ≤ 1048577) (hs : ∀ x ∈ P, x.size ≤ 1048576) : ∀ (d i : Nat) (acc : List Cl), i + d = P.length → acc.length ≤ i → Ev (fun k => impl_ParsePuzzle.l0 k P (P.length : Int) (i : Int) acc) (goI (P.drop i) acc) := by
  intro d
  induction d with
  | zero =>
    intro i acc hi ha
    rw [List.drop_eq_nil_of_le (by omega), goI]
    refine Ev.step (fun k => by rw [impl_ParsePuzzle.l0]) ?_
    refine Ev.neg (by omega) (Ev.bindc (isPuzzle_eq acc) ?_)
    by_cases h : puzB acc = true
    · exact Ev.pos h (Ev.val (by rw [if_pos h]))
    · exact Ev.neg h (Ev.val (by rw [if_neg h]))
  | succ d ih =>
    intro i acc hi ha
    have hil : i < P.length := by omega
    have hw : wrap64 ((i : Int) + 1) = ((i + 1 : Nat) : Int) := by rw [w64 (by omega) (by omega)]; omega
    have hsz := hs P[i] (List.getElem_mem hil)
    rw [List.drop_eq_getElem_cons hil, goI]
    refine Ev.step (fun k => by rw [impl_ParsePuzzle.l0]) ?_
    rw [rdOf_at P i hil, hw]
    refine Ev.pos (by omega) (Ev.pos (by omega) (Ev.pos (by omega) (Ev.bindc (split_eq 46 P[i] (by omega)) ?_)))
    by_cases h3 : (splS 46 P[i]).length = 3
    · rw [if_pos h3]
      have n0 := number_eq _ (Nat.le_trans (rdOf_size P[i] 0 (by omega)) hsz)
      have n1 := number_eq _ (Nat.le_trans (rdOf_size P[i] 1 (by omega)) hsz)
      have n2 := number_eq _ (Nat.le_trans (rdOf_size P[i] 2 (by omega)) hsz)
      exact Ev.pos (by omega) (Ev.pos (by omega) (Ev.bindc n0 (Ev.pos (by omega) (Ev.bindc n1 (Ev.pos (by omega) (Ev.bindc n2 (Ev.pos (by omega) (ih (i + 1) _ (by omega) (by rw [List.length_append, List.length_singleton]; omega)))))))))
    · rw [if_neg h3]
      exact Ev.neg (by omega) (Ev.val rfl)
theorem parseI_ev (s : ByteArray) (hs : s.size ≤ 1048576) : Ev (fun k => impl_ParsePuzzle.f k s) (parseI s) := by
  unfold impl_ParsePuzzle.f parseI
  by_cases h : s.toList = []
  · rw [if_pos h]
    exact Ev.pos h (Ev.val rfl)
  · rw [if_neg h]
    have hz := splS_size 44 s
    exact Ev.neg h (Ev.bindc (split_eq 44 s (by omega)) (parse_loop _ (by omega) (fun x hx => Nat.le_trans (hz.2 x hx) hs) (splS 44 s).length 0 [] (by omega) (Nat.le_refl _)))
/-- What the program reads is a puzzle, and the text is the puzzle's. -/
theorem goI_true : ∀ (P : List ByteArray) (acc p : List Cl), goI P acc = (p, true) → puzB p = true ∧ ∃ q, p = acc ++ q ∧ P = q.map clS
  | [], acc, p, h => by
    rw [goI] at h
    by_cases hb : puzB acc = true
    · rw [if_pos hb] at h
      obtain ⟨rfl, _⟩ := Prod.mk.inj h
      exact ⟨hb, [], by simp, rfl⟩
    · rw [if_neg hb] at h
      have := (Prod.mk.inj h).2
      cases this
  | t :: r, acc, p, h => by
    rw [goI] at h
    by_cases h3 : (splS 46 t).length = 3
    · rw [if_pos h3] at h
      obtain ⟨hp, q, e, er⟩ := goI_true r _ p h
      refine ⟨hp, partN t :: q, by rw [e]; simp, ?_⟩
      rw [List.map_cons, ← er]
      congr 1
      have hc := cl_bounds ((puz_range hp).2 (partN t) (by rw [e]; simp))
      obtain ⟨a, b, c, habc⟩ : ∃ a b c, splS 46 t = [a, b, c] := by
        generalize splS 46 t = l at h3
        match l, h3 with
        | [a, b, c], _ => exact ⟨a, b, c, rfl⟩
      have hN : partN t = ⟨numV a, numV b, numV c⟩ := by unfold partN; rw [habc]; rfl
      rw [hN] at hc ⊢
      have ea := num_of a hc.1.1
      have eb := num_of b hc.2.1.1
      have ec := num_of c hc.2.2.1
      have hj := splU_join 46 t.data.toList
      have hd : splU 46 t.data.toList = [a.data.toList, b.data.toList, c.data.toList] := by
        have := congrArg (List.map (fun (x : ByteArray) => x.data.toList)) habc
        unfold splS at this
        rw [List.map_map] at this
        simpa [Function.comp_def] using this
      rw [hd, Lib.join_cons] at hj
      apply ByteArray.ext
      apply Array.toList_inj.1
      rw [clS_data, ← hj]
      dsimp only
      rw [← ea, ← eb, ← ec]
      unfold Lib.joinTail
      simp
    · rw [if_neg h3] at h
      have := (Prod.mk.inj h).2
      cases this
theorem pzS_nil : (pzS []).toList = [] := by rw [ByteArray.toList_eq]; rfl
theorem empty_of {s : ByteArray} (h : s.toList = []) : s = pzS [] := by
  have e : s.toList = (pzS []).toList := by rw [h, pzS_nil]
  exact toList_inj.1 e
theorem parseI_true (s : ByteArray) (p : List Cl) (h : parseI s = (p, true)) : puzB p = true ∧ s = pzS p := by
  unfold parseI at h
  by_cases h0 : s.toList = []
  · rw [if_pos h0] at h
    obtain ⟨rfl, _⟩ := Prod.mk.inj h
    exact ⟨rfl, empty_of h0⟩
  · rw [if_neg h0] at h
    obtain ⟨hp, q, e, er⟩ := goI_true _ _ _ h
    rw [List.nil_append] at e
    subst e
    refine ⟨hp, ?_⟩
    have hj := splU_join 44 s.data.toList
    have hd : splU 44 s.data.toList = (p.map clS).map (·.data.toList) := by
      rw [← er]
      unfold splS
      rw [List.map_map]
      simp [Function.comp_def]
    rw [hd, ← pzS_data] at hj
    exact (ByteArray.ext (Array.toList_inj.1 hj)).symm
theorem goI_good : ∀ (q acc : List Cl), (∀ c ∈ q, clN c.f0 c.f1 c.f2 = true) → puzB (acc ++ q) = true → goI (q.map clS) acc = (acc ++ q, true)
  | [], acc, _, h => by
    rw [List.append_nil] at h
    rw [List.map_nil, goI, if_pos h, List.append_nil]
  | c :: q, acc, hq, h => by
    have hc := hq c (by simp)
    obtain ⟨h0, h1, h2⟩ := cl_bounds hc
    have hs := clS_split hc
    have hN : partN (clS c) = c := by
      unfold partN
      rw [hs]
      show (⟨numV (numS c.f0.toNat), numV (numS c.f1.toNat), numV (numS c.f2.toNat)⟩ : Cl) = c
      rw [numV_num _ (by omega), numV_num _ (by omega), numV_num _ (by omega), Int.toNat_of_nonneg h0.1, Int.toNat_of_nonneg h1.1, Int.toNat_of_nonneg h2.1]
    rw [List.map_cons, goI, if_pos (by rw [hs]; rfl), hN, goI_good q (acc ++ [c]) (fun x hx => hq x (List.mem_cons_of_mem _ hx)) (by rwa [List.append_assoc])]
    rw [List.append_assoc]
    rfl
theorem pzS_ne (c : Cl) (p : List Cl) (h : ∀ x ∈ c :: p, clN x.f0 x.f1 x.f2 = true) : (pzS (c :: p)).toList ≠ [] := by
  intro e
  have h2 := pzS_split c p h
  have h3 : (pzS (c :: p)).data.toList = [] := by rw [← ByteArray.toList_eq]; exact e
  unfold splS at h2
  rw [h3, splU] at h2
  have h4 := congrArg (fun l => (l.map ByteArray.size)) h2
  rw [List.map_cons, List.map_cons] at h4
  have h5 : (clS c).size = 0 := by
    have := (List.cons.inj h4).1
    exact this.symm
  unfold clS at h5
  rw [app_size, app_size, app_size, app_size, dot_size] at h5
  omega
theorem parseI_good (p : List Cl) (h : puzB p = true) : parseI (pzS p) = (p, true) := by
  obtain ⟨h6, hr⟩ := puz_range h
  unfold parseI
  cases p with
  | nil => rw [if_pos pzS_nil]
  | cons c p => rw [if_neg (pzS_ne c p hr), pzS_split c p hr, goI_good (c :: p) [] hr h]; rfl
/-! The reference. -/
theorem goodEnd (s : ByteArray) (acc : List Cl) : ∃ p : List Cl × Bool, Ev (fun k => (spec_pzGood.f k acc).bind fun t160 => (if t160 = true then ((spec_pzText.f k acc).bind fun t161 => (some (acc, (t161.toList == s.toList)))) else (some (acc, false)))) p ∧ (p.2 = true → puzB p.1 = true ∧ s = pzS p.1) ∧ (puzB acc = true → s = pzS acc → p = (acc, true)) := by
  by_cases h : puzB acc = true
  · refine ⟨(acc, (pzS acc).toList == s.toList), Ev.bindk (pzGood_ev acc) (Ev.pos h (Ev.bindk (text_spec acc h) (Ev.val rfl))), fun e => ⟨h, (toList_inj.1 (beq_iff_eq.1 e)).symm⟩, fun _ e => ?_⟩
    rw [e]
    simp
  · exact ⟨(acc, false), Ev.bindk (pzGood_ev acc) (Ev.neg h (Ev.val rfl)), fun e => (by cases e), fun e => absurd e h⟩
theorem spec_loop (s : ByteArray) (P : List ByteArray) (hP : P.length ≤ 1048577) (hs : ∀ x ∈ P, x.size ≤ 1048576) : ∀ (d i : Nat) (acc : List Cl), i + d = P.length → acc.length ≤ i → ∃ p : List Cl × Bool, Ev (fun k => spec_pzParse.l0 k s P (P.length : Int) (i : Int) acc) p ∧ (p.2 = true → puzB p.1 = true ∧ s = pzS p.1) ∧ (∀ q : List Cl, P.drop i = q.map clS → puzB (acc ++ q) = true → s = pzS (acc ++ q) → p = (acc ++ q, true)) := by
  intro d
  induction d with
  | zero =>
    intro i acc hi ha
    obtain ⟨p, h1, h2, h3⟩ := goodEnd s acc
    refine ⟨p, Ev.step (fun k => by rw [spec_pzParse.l0]) (Ev.neg (by omega) h1), h2, fun q hq hp he => ?_⟩
    rw [List.drop_eq_nil_of_le (by omega)] at hq
    obtain rfl : q = [] := List.map_eq_nil_iff.1 hq.symm
    rw [List.append_nil] at hp he ⊢
    exact h3 hp he
  | succ d ih =>
    intro i acc hi ha
    have hil : i < P.length := by omega
    have hw : wrap64 ((i : Int) + 1) = ((i + 1 : Nat) : Int) := by rw [w64 (by omega) (by omega)]; omega
    have hsz := hs P[i] (List.getElem_mem hil)
    have hsp : Ev (fun k => spec_l1Split.f k P[i] 46) (splS 46 P[i]) := l1Split_ev 46 P[i] hsz
    by_cases h3 : (splS 46 P[i]).length = 3
    · obtain ⟨v0, n0⟩ := read_some _ (Nat.le_trans (rdOf_size P[i] 0 (by omega)) hsz)
      obtain ⟨v1, n1⟩ := read_some _ (Nat.le_trans (rdOf_size P[i] 1 (by omega)) hsz)
      obtain ⟨v2, n2⟩ := read_some _ (Nat.le_trans (rdOf_size P[i] 2 (by omega)) hsz)
      obtain ⟨p, g1, g2, g3⟩ := ih (i + 1) (acc ++ [⟨v0, v1, v2⟩]) (by omega) (by rw [List.length_append, List.length_singleton]; omega)
      refine ⟨p, Ev.step (fun k => by rw [spec_pzParse.l0]) ?_, g2, fun q hq hp he => ?_⟩
      · rw [rdOf_at P i hil, hw]
        exact Ev.pos (by omega) (Ev.pos (by omega) (Ev.pos (by omega) (Ev.bindk hsp (Ev.pos (by omega) (Ev.pos (by omega) (Ev.bindk n0 (Ev.pos (by omega) (Ev.bindk n1 (Ev.pos (by omega) (Ev.bindk n2 (Ev.pos (by omega) g1)))))))))))
      · rw [List.drop_eq_getElem_cons hil] at hq
        cases q with
        | nil => cases hq
        | cons c q =>
          rw [List.map_cons] at hq
          obtain ⟨hq1, hq2⟩ := List.cons.inj hq
          have hc := (puz_range hp).2 c (by simp)
          obtain ⟨b0, b1, b2⟩ := cl_bounds hc
          have hsc := clS_split hc
          rw [hq1, hsc] at n0 n1 n2
          have e0 := Ev.uniq n0 (read_num c.f0.toNat (by omega))
          have e1 := Ev.uniq n1 (read_num c.f1.toNat (by omega))
          have e2 := Ev.uniq n2 (read_num c.f2.toNat (by omega))
          rw [Int.toNat_of_nonneg b0.1] at e0
          rw [Int.toNat_of_nonneg b1.1] at e1
          rw [Int.toNat_of_nonneg b2.1] at e2
          have hcc : (⟨v0, v1, v2⟩ : Cl) = c := by rw [e0, e1, e2]
          rw [hcc] at g3
          have := g3 q hq2 (by rwa [List.append_assoc]) (by rwa [List.append_assoc])
          rw [this, List.append_assoc]
          rfl
    · refine ⟨([], false), Ev.step (fun k => by rw [spec_pzParse.l0]) ?_, fun e => (by cases e), fun q hq hp he => ?_⟩
      · rw [rdOf_at P i hil]
        exact Ev.pos (by omega) (Ev.pos (by omega) (Ev.pos (by omega) (Ev.bindk hsp (Ev.neg (by omega) (Ev.val rfl)))))
      · exfalso
        rw [List.drop_eq_getElem_cons hil] at hq
        cases q with
        | nil => cases hq
        | cons c q =>
          rw [List.map_cons] at hq
          have hc := (puz_range hp).2 c (by simp)
          rw [(List.cons.inj hq).1, clS_split hc] at h3
          exact h3 rfl
theorem spec_parse (s : ByteArray) (hs : s.size ≤ 1048576) : ∃ p : List Cl × Bool, Ev (fun k => spec_pzParse.f k s) p ∧ (p.2 = true → puzB p.1 = true ∧ s = pzS p.1) ∧ (∀ q : List Cl, puzB q = true → s = pzS q → p = (q, true)) := by
  unfold spec_pzParse.f
  by_cases h1 : (s.size : Int) > 100
  · refine ⟨([], false), Ev.pos h1 (Ev.val rfl), fun e => (by cases e), fun q hq he => ?_⟩
    exfalso
    obtain ⟨h6, hr⟩ := puz_range hq
    have := pzS_short _ q rfl hr
    rw [← he] at this
    omega
  · by_cases h0 : (s.size : Int) > 0
    · have hz := splS_size 44 s
      obtain ⟨p, g1, g2, g3⟩ := spec_loop s (splS 44 s) (by omega) (fun x hx => Nat.le_trans (hz.2 x hx) hs) (splS 44 s).length 0 [] (by omega) (Nat.le_refl _)
      have hsp : Ev (fun k => spec_l1Split.f k s 44) (splS 44 s) := l1Split_ev 44 s hs
      refine ⟨p, Ev.neg h1 (Ev.pos h0 (Ev.bindk hsp g1)), g2, fun q hq he => ?_⟩
      cases q with
      | nil =>
        exfalso
        have : s.size = 0 := by rw [he]; rfl
        omega
      | cons c q =>
        have := g3 (c :: q) (by rw [List.drop_zero, he]; exact pzS_split c q (puz_range hq).2) hq he
        exact this
    · obtain ⟨p, g1, g2, g3⟩ := goodEnd s []
      refine ⟨p, Ev.neg h1 (Ev.neg h0 g1), g2, fun q hq he => ?_⟩
      cases q with
      | nil => exact g3 rfl he
      | cons c q =>
        exfalso
        apply pzS_ne c q (puz_range hq).2
        rw [← he, ByteArray.toList_eq]
        apply List.length_eq_zero_iff.1
        rw [Array.length_toList]
        show s.size = 0
        omega
/-- Both tell the same. -/
theorem both (s : ByteArray) (hs : s.size ≤ 1048576) : Ev (fun k => spec_ParsePuzzle.f k s) (parseI s) ∧ (parseI s).1.length ≤ 6 := by
  obtain ⟨p, g1, g2, g3⟩ := spec_parse s hs
  have hI : ∀ q, puzB q = true → s = pzS q → parseI s = (q, true) := fun q hq he => by rw [he]; exact parseI_good q hq
  unfold spec_ParsePuzzle.f
  by_cases h : p.2 = true
  · obtain ⟨hp, he⟩ := g2 h
    rw [hI p.1 hp he]
    exact ⟨Ev.bindk g1 (Ev.pos h (Ev.val rfl)), (puz_range hp).1⟩
  · have hno : parseI s = ([], false) := by
      obtain ⟨l, b, hq⟩ : ∃ l b, parseI s = (l, b) := ⟨_, _, rfl⟩
      rw [hq]
      cases b with
      | true =>
        obtain ⟨hp, he⟩ := parseI_true s l hq
        exact absurd (show p.2 = true by rw [g3 l hp he]) h
      | false =>
        unfold parseI at hq
        by_cases h0 : s.toList = []
        · rw [if_pos h0] at hq
          cases (Prod.mk.inj hq).2
        · rw [if_neg h0] at hq
          have key : ∀ (P : List ByteArray) (acc l : List Cl), goI P acc = (l, false) → l = [] := by
            intro P
            induction P with
            | nil =>
              intro acc l e
              rw [goI] at e
              split at e
              · cases (Prod.mk.inj e).2
              · exact (Prod.mk.inj e).1.symm
            | cons t r ih =>
              intro acc l e
              rw [goI] at e
              split at e
              · exact ih _ _ e
              · exact (Prod.mk.inj e).1.symm
          rw [key _ _ _ hq]
    rw [hno]
    exact ⟨Ev.bindk g1 (Ev.neg h (Ev.val rfl)), by simp⟩

theorem FnExactParsePuzzle : ∀ (a0 : ByteArray), a0.size ≤ 140737488351232 → ∃ k, laws_FnExactParsePuzzle.f k a0 = some true := by
  intro s _
  refine Ev.rounds ?_
  unfold laws_FnExactParsePuzzle.f
  by_cases hb : (s.size : Int) > 1048576
  · exact Ev.pos hb (Ev.val rfl)
  · obtain ⟨hsp, hs⟩ := both s (by omega)
    have hi := parseI_ev s (by omega)
    refine Ev.neg hb (Ev.bindk hsp (Ev.bindk hi ?_))
    generalize parseI s = y at hs hi
    refine Ev.bindk (eqP_ev y.1 (by omega)) (Ev.pos rfl (Ev.step (fun k => by rw [laws_FnExactParsePuzzle.j0]) ?_))
    refine Ev.neg (by simp) (Ev.bindk (markP_ev y.1 (by omega)) (Ev.bindk (heldP_ev _ (by omega)) (Ev.neg (by omega) (Ev.pos rfl ?_))))
    refine Ev.bindk hi (Ev.bindk (eqP_ev y.1 (by omega)) (Ev.pos rfl (Ev.step (fun k => by rw [laws_FnExactParsePuzzle.j1]) ?_)))
    exact Ev.neg (by simp) (Ev.bindk (heldP_ev _ (by omega)) (Ev.neg (by omega) (Ev.pos rfl (Ev.val rfl))))
end Go.Proofs.YtcfcjpcoofjckaaDoor.Pure

/- Shared steps of the rows: an argument that is a slice of structs of whole numbers, read as a list of lists of numbers. -/
namespace Go.Proofs.YtcfcjpcoofjckaaDoor.RowA
open Go.ChangeShapes Go.WideShapes Go.Deep Go.RowKit Go.Proofs.YtcfcjpcoofjckaaDoorW.PrintWords
section
variable {H : Type} {enc : TypeId × Value → H} {P : Program} {w : World} {base : Nat} {spare : Nat → Bool} {held : Bool}

/-- A slice of structs whose fields are one cell each: nil, or an address with, for each element and each field, the cell and the field's own reading. -/
theorem open_cells {t e : TypeId} {fs : Array Field} {fuel : Nat} {cs : List Value} {x : DataW H × List MemPlace} (ht : P.underlying t = some (.slice e)) (he : P.underlying e = some (.struct fs))
    (hone : oneCellFields P fs = true) (hC : P.cellsOf e = fs.size) (h : DataW.trod enc P w base spare held fuel t cs = some x) :
    cs = [.slice none 0 0] ∨
    ∃ (a : Addr) (len cap : Nat), cs = [.slice (some a) len cap] ∧ len ≤ cap ∧ cap ≤ maxLen ∧
      ∀ i, i < len → ∃ n, ∀ (j : Nat) (f : Field), fs[j]? = some f → ∃ (v : Value) (y : DataW H × List MemPlace), w.cell? (a.add (i * fs.size + j)) = some v ∧ DataW.trod enc P w base spare held n f.type [v] = some y := by
  rcases open_slice ht h with h0 | ⟨a, len, cap, m, n, D, Pl, hcs, hb, hl, hm, hmm, hx, hi⟩
  · exact .inl h0.1
  · refine .inr ⟨a, len, cap, hcs, hl, hm, fun i hil => ?_⟩
    have him : i < m := by
      rw [hmm]
      split
      · omega
      · exact hil
    obtain ⟨cs', hc, ht'⟩ := hi i him
    rw [hC] at hc
    obtain ⟨ys, n', hn', hy, hlen, hyl, hf⟩ := DataW.trod_struct he ht'
    obtain ⟨_, hcl, hat⟩ := World.cells?_some hc
    refine ⟨n', fun j f hj => ?_⟩
    obtain ⟨ho, hk⟩ := hone_of hone j f hj
    have hjl : j < fs.size := (Array.getElem?_eq_some_iff.1 hj).1
    have hcell := hat j hjl
    have hv : cs'[j]? = some (cs'[j]'(by omega)) := List.getElem?_eq_getElem (by omega)
    have h1 := hf j f hj
    rw [ho, hk] at h1
    have hone' : (cs'.drop j).take 1 = [cs'[j]'(by omega)] := by
      rw [List.drop_eq_getElem_cons (by omega)]
      rfl
    rw [hone'] at h1
    have hys : ys[j]? = some (ys[j]'(by omega)) := List.getElem?_eq_getElem (by omega)
    refine ⟨_, _, ?_, h1.trans hys⟩
    rw [← Go.Deep.add_add, hcell, hv]

/-- One whole number's reading. -/
theorem read_i64 {t : TypeId} {n : Nat} {v : Value} {y : DataW H × List MemPlace} (hu : P.underlying t = some (.int .i64)) (h : DataW.trod enc P w base spare held n t [v] = some y) :
    ∃ z : Int, v = .int .i64 z ∧ (Lit.int .i64 z).wf = true := by
  obtain ⟨z, hz, _, hw⟩ := DataW.trod_int hu h
  simp at hz
  exact ⟨z, hz, hw⟩

/-- A slice of structs of m whole numbers, as it is handed over: the numbers by element and field. -/
theorem open_nums {t e : TypeId} {fs : Array Field} {a : Option Addr} {len cap : Nat} {d : DataW H} {ps : List MemPlace} (ht : P.underlying t = some (.slice e)) (he : P.underlying e = some (.struct fs))
    (hone : oneCellFields P fs = true) (hC : P.cellsOf e = fs.size) (hi : ∀ (j : Nat) (f : Field), fs[j]? = some f → P.underlying f.type = some (.int .i64))
    (h : DataW.Trod enc P w base spare held t (.slice a len cap) d ps) :
    len ≤ cap ∧ len ≤ maxLen ∧ ∃ z : Nat → Nat → Int, (∀ i j, i < len → j < fs.size → (Lit.int .i64 (z i j)).wf = true) ∧
      (0 < len → ∃ ad, a = some ad ∧ ∀ i j, i < len → j < fs.size → w.cell? (ad.add (i * fs.size + j)) = some (.int .i64 (z i j))) := by
  obtain ⟨fuel, hf⟩ := h
  rcases open_cells ht he hone hC hf with hcs | ⟨x, l, c, hcs, hl, hm, hcell⟩
  · simp [Value.cells] at hcs
    obtain ⟨rfl, rfl, rfl⟩ := hcs
    exact ⟨Nat.le_refl _, Nat.zero_le _, fun _ _ => 0, fun i j h => absurd h (Nat.not_lt_zero _), fun h => absurd h (Nat.not_lt_zero _)⟩
  · simp [Value.cells] at hcs
    obtain ⟨rfl, rfl, rfl⟩ := hcs
    refine ⟨hl, Nat.le_trans hl hm, ?_⟩
    have hz : ∀ i j, ∃ z : Int, i < len → j < fs.size → w.cell? (x.add (i * fs.size + j)) = some (.int .i64 z) ∧ (Lit.int .i64 z).wf = true := by
      intro i j
      by_cases h1 : i < len
      · by_cases h2 : j < fs.size
        · obtain ⟨n, hn⟩ := hcell i h1
          obtain ⟨v, y, hv, hy⟩ := hn j fs[j] (Array.getElem?_eq_getElem h2)
          obtain ⟨z, rfl, hw⟩ := read_i64 (hi j fs[j] (Array.getElem?_eq_getElem h2)) hy
          exact ⟨z, fun _ _ => ⟨hv, hw⟩⟩
        · exact ⟨0, fun _ h => absurd h h2⟩
      · exact ⟨0, fun h _ => absurd h h1⟩
    exact ⟨fun i j => (hz i j).choose, fun i j h1 h2 => ((hz i j).choose_spec h1 h2).2, fun _ => ⟨x, rfl, fun i j h1 h2 => ((hz i j).choose_spec h1 h2).1⟩⟩
/-- The same, of one reading. -/
theorem open_nums_at {t e : TypeId} {fs : Array Field} {a : Option Addr} {len cap fuel : Nat} {x : DataW H × List MemPlace} (ht : P.underlying t = some (.slice e)) (he : P.underlying e = some (.struct fs))
    (hone : oneCellFields P fs = true) (hC : P.cellsOf e = fs.size) (hi : ∀ (j : Nat) (f : Field), fs[j]? = some f → P.underlying f.type = some (.int .i64))
    (hf : DataW.trod enc P w base spare held fuel t [.slice a len cap] = some x) :
    len ≤ cap ∧ len ≤ maxLen ∧ ∃ z : Nat → Nat → Int, (∀ i j, i < len → j < fs.size → (Lit.int .i64 (z i j)).wf = true) ∧
      (0 < len → ∃ ad, a = some ad ∧ ∀ i j, i < len → j < fs.size → w.cell? (ad.add (i * fs.size + j)) = some (.int .i64 (z i j))) :=
  open_nums (d := x.1) (ps := x.2) ht he hone hC hi ⟨fuel, by simpa [Value.cells] using hf⟩

/-- A struct of one slice. -/
theorem open_one {r : Reach} {b0 : Nat} {t e : TypeId} {f0 : Field} {v : Value} {d : DataW H} {p : List MemPlace} (hs : P.underlying t = some (.struct #[f0])) (hf0 : P.underlying f0.type = some (.slice e)) (hone : oneCellFields P #[f0] = true) (hC : P.cellsOf t = 1)
    (hv : Value.okWide P w r b0 t v) (h : DataW.Trod enc P w base spare held t v d p) :
    ∃ (a : Option Addr) (len cap : Nat) (y : DataW H × List MemPlace) (n : Nat), v = .agg #[.slice a len cap] ∧ DataW.trod enc P w base spare held n f0.type [.slice a len cap] = some y := by
  obtain ⟨cs, rfl, hsz⟩ := okWide_struct hs hv
  rw [hC] at hsz
  obtain ⟨c0, rfl⟩ : ∃ c, cs = #[c] := Array.size_eq_one_iff.mp hsz
  obtain ⟨fuel, hf⟩ := h
  obtain ⟨ys, n', hn', hy, hlen, hyl, hg⟩ := DataW.trod_struct hs hf
  obtain ⟨o0, k0⟩ := hone_of hone 0 f0 rfl
  have h1 := hg 0 f0 rfl
  rw [o0, k0] at h1
  have hv1 : (List.drop 0 (Value.agg #[c0]).cells.toList).take 1 = [c0] := rfl
  have h2 : DataW.trod enc P w base spare held n' f0.type [c0] = ys[0]? := h1
  have hys : ys[0]? = some (ys[0]'(by rw [hyl]; exact Nat.zero_lt_one)) := List.getElem?_eq_getElem _
  rw [hys] at h2
  rcases open_slice hf0 h2 with h0 | ⟨a, len, cap, m, n, D, Pl, hcs, _⟩
  · have := h0.1
    simp at this
    subst this
    exact ⟨none, 0, 0, _, n', rfl, h2⟩
  · simp at hcs
    subst hcs
    exact ⟨some a, len, cap, _, n', rfl, h2⟩
/-- A desk: a struct of two whole numbers, a whole number and a text. -/
theorem open_desk {r : Reach} {b0 : Nat} {t : TypeId} {F0 F1 F2 G0 G1 : Field} {v : Value} {d : DataW H} {p : List MemPlace} (hs : P.underlying t = some (.struct #[F0, F1, F2])) (hs0 : P.underlying F0.type = some (.struct #[G0, G1]))
    (g0 : P.underlying G0.type = some (.int .i64)) (g1 : P.underlying G1.type = some (.int .i64)) (f1 : P.underlying F1.type = some (.int .i64)) (f2 : P.underlying F2.type = some .string) (hone : oneCellFields P #[G0, G1] = true)
    (hC : (P.cellsOf t == 4 && F0.offset == 0 && P.cellsOf F0.type == 2 && F1.offset == 2 && P.cellsOf F1.type == 1 && F2.offset == 3 && P.cellsOf F2.type == 1) = true)
    (hv : Value.okWide P w r b0 t v) (h : DataW.Trod enc P w base spare held t v d p) :
    ∃ (x0 x1 x2 : Int) (s : ByteArray), v = .agg #[.int .i64 x0, .int .i64 x1, .int .i64 x2, .string s] ∧ (Lit.int .i64 x0).wf = true ∧ (Lit.int .i64 x1).wf = true ∧ (Lit.int .i64 x2).wf = true ∧ s.size ≤ maxLen := by
  simp only [Bool.and_eq_true, beq_iff_eq] at hC
  obtain ⟨⟨⟨⟨⟨⟨q0, q1⟩, q2⟩, q3⟩, q4⟩, q5⟩, q6⟩ := hC
  obtain ⟨cs, rfl, hsz⟩ := okWide_struct hs hv
  obtain ⟨l⟩ := cs
  have hl4 : l.length = 4 := hsz.trans q0
  obtain ⟨c0, c1, c2, c3, rfl⟩ : ∃ c0 c1 c2 c3, l = [c0, c1, c2, c3] := by
    match l, hl4 with
    | [c0, c1, c2, c3], _ => exact ⟨c0, c1, c2, c3, rfl⟩
  obtain ⟨fuel, hf⟩ := h
  obtain ⟨ys, n', hn', hy, hlen, hyl, hg⟩ := DataW.trod_struct hs hf
  have hyl3 : ys.length = 3 := hyl
  have k0 := hg 0 F0 rfl
  have k1 := hg 1 F1 rfl
  have k2 := hg 2 F2 rfl
  rw [q1, q2] at k0
  rw [q3, q4] at k1
  rw [q5, q6] at k2
  have k0' : DataW.trod enc P w base spare held n' F0.type [c0, c1] = ys[0]? := k0
  have k1' : DataW.trod enc P w base spare held n' F1.type [c2] = ys[1]? := k1
  have k2' : DataW.trod enc P w base spare held n' F2.type [c3] = ys[2]? := k2
  rw [List.getElem?_eq_getElem (show 0 < ys.length by omega)] at k0'
  rw [List.getElem?_eq_getElem (show 1 < ys.length by omega)] at k1'
  rw [List.getElem?_eq_getElem (show 2 < ys.length by omega)] at k2'
  obtain ⟨x2, rfl, w2⟩ := read_i64 f1 k1'
  obtain ⟨s, hs1, _, hs2⟩ := DataW.trod_string f2 k2'
  simp only [List.cons.injEq, and_true] at hs1
  subst hs1
  obtain ⟨zs, n2, _, _, _, hzl, hz⟩ := DataW.trod_struct hs0 k0'
  have hzl2 : zs.length = 2 := hzl
  obtain ⟨o0, u0⟩ := hone_of hone 0 G0 rfl
  obtain ⟨o1, u1⟩ := hone_of hone 1 G1 rfl
  have m0 := hz 0 G0 rfl
  have m1 := hz 1 G1 rfl
  rw [o0, u0] at m0
  rw [o1, u1] at m1
  have m0' : DataW.trod enc P w base spare held n2 G0.type [c0] = zs[0]? := m0
  have m1' : DataW.trod enc P w base spare held n2 G1.type [c1] = zs[1]? := m1
  rw [List.getElem?_eq_getElem (show 0 < zs.length by omega)] at m0'
  rw [List.getElem?_eq_getElem (show 1 < zs.length by omega)] at m1'
  obtain ⟨x0, rfl, w0⟩ := read_i64 g0 m0'
  obtain ⟨x1, rfl, w1⟩ := read_i64 g1 m1'
  exact ⟨x0, x1, x2, s, rfl, w0, w1, w2, hs2⟩
end
end Go.Proofs.YtcfcjpcoofjckaaDoor.RowA
