/- Loops are ranked in order, all of them are told and those that can be drawn counted, and joined loops are drawn if both are. Condition: none. -/
import Derived.Deep.Slices
import Derived.Deep.Fields
import Derived.ChangeSame
import Derived.ChangeShapes
import Derived.Below
import Derived.Carry
import Derived.Lib.SmallJoins
import Derived.RowKit
import Derived.OpenShut
import Derived.Test.YtcgoaipbfnhjhaaGreatDoorCards
import Derived.Test.YtcgoaipbfnhjhaaGreatDoorTie
import Derived.LaidMore
import Derived.Lay
import Derived.Stop.Joined
import Derived.Handed
import Derived.SevenTiedAt
import Derived.Test.YtcgoaipbfnhjhaaGreatDoorRows
import Derived.WalkKit
import Derived.ProofKit
import Derived.ShutString
import Derived.ChangeOld
import Derived.SizedLaws
import Derived.ChangeSlices
import Derived.Test.YtcgoaipbfnhjhaaGreatDoorKFnLoopsListed0
import Derived.Test.YtcgoaipbfnhjhaaGreatDoorKFnLoopsListed1
import Derived.Test.YtcgoaipbfnhjhaaGreatDoorKFnLoopsListed2
import Derived.Test.YtcgoaipbfnhjhaaGreatDoorKFnLoopsListed3
import Derived.Test.YtcgoaipbfnhjhaaGreatDoorKFnLoopsListed4
/- LoopOfRank, CountLoops, AllLoops and CountDrawn: the program and the reference tell the same. -/
namespace Go.Proofs.YtcgoaipbfnhjhaaGreatDoor.M
open Go.RowKit Go.Proofs.YtcgoaipbfnhjhaaGreatDoor.Pr Go.Proofs.YtcgoaipbfnhjhaaGreatDoorW.PrintWords Go.Proofs.YtcgoaipbfnhjhaaGreatDoorW.PrintLast
set_option linter.unusedVariables false
set_option linter.unusedSimpArgs false

theorem within_eq (a b c : Int) : impl_within.f a b c = some (decide (b ≤ a ∧ a ≤ c)) := by
  unfold impl_within.f
  by_cases h : a ≥ b
  · rw [if_pos h]
    by_cases h2 : a ≤ c
    · rw [decide_eq_true h2, decide_eq_true ⟨by omega, h2⟩]
    · rw [decide_eq_false h2, decide_eq_false (fun e => h2 e.2)]
  · rw [if_neg h, decide_eq_false (fun e => h (by omega))]
theorem l1In_eq (a b c : Int) : spec_l1In.f a b c = some (decide (b ≤ a ∧ a ≤ c)) := by
  unfold spec_l1In.f
  by_cases h : a ≥ b
  · rw [if_pos h]
    by_cases h2 : a ≤ c
    · rw [decide_eq_true h2, decide_eq_true ⟨by omega, h2⟩]
    · rw [decide_eq_false h2, decide_eq_false (fun e => h2 e.2)]
  · rw [if_neg h, decide_eq_false (fun e => h (by omega))]
theorem cross_eq (a : Int) : impl_isCrossings.f a = some (decide (0 ≤ a ∧ a ≤ 8)) := by
  unfold impl_isCrossings.f
  rw [within_eq]
  rfl
theorem ways_top (m : Nat) (h : m ≤ 8) : 0 < ways m 0 ∧ ways m 0 ≤ 2027025 := ⟨ways_pos _ _, ways_small _ _ (by omega)⟩
theorem countAll_ev {m : Nat} (h : m ≤ 8) : Ev (fun k => impl_countOn.f k 0 (m : Int)) ((ways m 0 : Nat) : Int) := countOn_ev m 0 (by omega)
theorem lorI_ev (n r : Int) : Ev (fun k => impl_LoopOfRank.f k n r) (lorR n r) := by
  unfold impl_LoopOfRank.f lorR
  rw [cross_eq]
  refine Ev.bindc rfl ?_
  by_cases h : 0 ≤ n ∧ n ≤ 8
  · rw [decide_eq_true h]
    obtain ⟨m, rfl⟩ : ∃ m : Nat, n = (m : Int) := ⟨n.toNat, by omega⟩
    have hw := ways_top m (by omega)
    refine Ev.pos rfl (Ev.bindk (countAll_ev (by omega)) ?_)
    rw [within_eq, w64 (by omega) (by omega), Int.toNat_natCast]
    refine Ev.bindc rfl ?_
    by_cases h2 : 0 ≤ r ∧ r ≤ ((ways m 0 : Nat) : Int) - 1
    · rw [decide_eq_true h2, if_pos ⟨h.1, h.2, h2.1, by omega⟩]
      obtain ⟨q, rfl⟩ : ∃ q : Nat, r = (q : Int) := ⟨r.toNat, by omega⟩
      exact Ev.pos rfl (Ev.bindk (loopOfRank_ev (by omega) (by omega)) (Ev.val rfl))
    · rw [decide_eq_false h2, if_neg (fun e => h2 ⟨e.2.2.1, by omega⟩)]
      exact Ev.neg (by decide) (Ev.val rfl)
  · rw [decide_eq_false h, if_neg (fun e => h ⟨e.1, e.2.1⟩)]
    exact Ev.neg (by decide) (Ev.val rfl)
theorem lorS_ev (n r : Int) : Ev (fun k => spec_LoopOfRank.f k n r) (lorR n r) := by
  unfold spec_LoopOfRank.f lorR
  rw [l1In_eq]
  refine Ev.bindc rfl ?_
  by_cases h : 0 ≤ n ∧ n ≤ 8
  · rw [decide_eq_true h]
    obtain ⟨m, rfl⟩ : ∃ m : Nat, n = (m : Int) := ⟨n.toNat, by omega⟩
    have hw := ways_top m (by omega)
    refine Ev.pos rfl (Ev.bindk (loCount_ev (by omega)) ?_)
    rw [l1In_eq, w64 (by omega) (by omega), Int.toNat_natCast]
    refine Ev.bindc rfl ?_
    by_cases h2 : 0 ≤ r ∧ r ≤ ((ways m 0 : Nat) : Int) - 1
    · rw [decide_eq_true h2, if_pos ⟨h.1, h.2, h2.1, by omega⟩]
      obtain ⟨q, rfl⟩ : ∃ q : Nat, r = (q : Int) := ⟨r.toNat, by omega⟩
      exact Ev.pos rfl (Ev.bindk (loRanked_ev (by omega) (by omega)) (Ev.val rfl))
    · rw [decide_eq_false h2, if_neg (fun e => h2 ⟨e.2.2.1, by omega⟩)]
      exact Ev.neg (by decide) (Ev.val rfl)
  · rw [decide_eq_false h, if_neg (fun e => h ⟨e.1, e.2.1⟩)]
    exact Ev.neg (by decide) (Ev.val rfl)
/-- What CountLoops tells. -/
def clR (n : Int) : Int × Bool := if 0 ≤ n ∧ n ≤ 8 then (((ways n.toNat 0 : Nat) : Int), true) else (0, false)
theorem clI_ev (n : Int) : Ev (fun k => impl_CountLoops.f k n) (clR n) := by
  unfold impl_CountLoops.f clR
  rw [cross_eq]
  refine Ev.bindc rfl ?_
  by_cases h : 0 ≤ n ∧ n ≤ 8
  · rw [decide_eq_true h, if_pos h]
    obtain ⟨m, rfl⟩ : ∃ m : Nat, n = (m : Int) := ⟨n.toNat, by omega⟩
    rw [Int.toNat_natCast]
    exact Ev.pos rfl (Ev.bindk (countAll_ev (by omega)) (Ev.val rfl))
  · rw [decide_eq_false h, if_neg h]
    exact Ev.neg (by decide) (Ev.val rfl)
theorem clS_ev (n : Int) : Ev (fun k => spec_CountLoops.f k n) (clR n) := by
  unfold spec_CountLoops.f clR
  rw [l1In_eq]
  refine Ev.bindc rfl ?_
  by_cases h : 0 ≤ n ∧ n ≤ 8
  · rw [decide_eq_true h, if_pos h]
    obtain ⟨m, rfl⟩ : ∃ m : Nat, n = (m : Int) := ⟨n.toNat, by omega⟩
    rw [Int.toNat_natCast]
    exact Ev.pos rfl (Ev.bindk (loCount_ev (by omega)) (Ev.val rfl))
  · rw [decide_eq_false h, if_neg h]
    exact Ev.neg (by decide) (Ev.val rfl)
/-- All loops from a rank on. -/
def allL (m : Nat) : List ByteArray := (List.range (ways m 0)).map (loopS m)
theorem all_len (m : Nat) : (allL m).length = ways m 0 := by simp [allL]
theorem allI_l0 {m : Nat} (hm : m ≤ 8) : ∀ (d i : Nat) (out : List ByteArray), i + d = ways m 0 → out = (List.range i).map (loopS m) → Ev (fun k => impl_allLoops.l0 k (m : Int) out ((ways m 0 : Nat) : Int) (i : Int)) (allL m)
  | 0, i, out, hd, ho => by
    obtain rfl : i = ways m 0 := by omega
    refine Ev.step (fun k => by rw [impl_allLoops.l0]) ?_
    refine Ev.neg (by omega) (Ev.val ho)
  | d + 1, i, out, hd, ho => by
    have hw := ways_top m hm
    have hl : out.length = i := by rw [ho]; simp
    refine Ev.step (fun k => by rw [impl_allLoops.l0]) ?_
    refine Ev.pos (by omega) (Ev.bindk (loopOfRank_ev hm (by omega)) (Ev.pos (by omega) ?_))
    rw [w64 (by omega) (by omega)]
    have ih := allI_l0 hm d (i + 1) (out ++ [loopS m i]) (by omega) (by rw [List.range_succ, List.map_append, ho]; rfl)
    rwa [show (((i + 1 : Nat)) : Int) = (i : Int) + 1 by omega] at ih
theorem allLoops_ev {m : Nat} (hm : m ≤ 8) : Ev (fun k => impl_allLoops.f k (m : Int)) (allL m) := by
  unfold impl_allLoops.f
  exact Ev.bindk (countAll_ev hm) (allI_l0 hm (ways m 0) 0 [] (by omega) rfl)
theorem allS_l0 {m : Nat} (hm : m ≤ 8) : ∀ (d i : Nat) (out : List ByteArray), i + d = ways m 0 → out = (List.range i).map (loopS m) → Ev (fun k => spec_AllLoops.l0 k (m : Int) out (i : Int)) (allL m, true)
  | 0, i, out, hd, ho => by
    obtain rfl : i = ways m 0 := by omega
    refine Ev.step (fun k => by rw [spec_AllLoops.l0]) ?_
    refine Ev.bindk (loCount_ev hm) (Ev.neg (by omega) (Ev.val (by rw [ho]; rfl)))
  | d + 1, i, out, hd, ho => by
    have hw := ways_top m hm
    have hl : out.length = i := by rw [ho]; simp
    refine Ev.step (fun k => by rw [spec_AllLoops.l0]) ?_
    refine Ev.bindk (loCount_ev hm) (Ev.pos (by omega) (Ev.bindk (loRanked_ev hm (by omega)) (Ev.pos (by omega) ?_)))
    rw [w64 (by omega) (by omega)]
    have ih := allS_l0 hm d (i + 1) (out ++ [loopS m i]) (by omega) (by rw [List.range_succ, List.map_append, ho]; rfl)
    rwa [show (((i + 1 : Nat)) : Int) = (i : Int) + 1 by omega] at ih
/-- What AllLoops tells. -/
def alR (n : Int) : List ByteArray × Bool := if 0 ≤ n ∧ n ≤ 4 then (allL n.toNat, true) else ([], false)
theorem alI_ev (n : Int) : Ev (fun k => impl_AllLoops.f k n) (alR n) := by
  unfold impl_AllLoops.f alR
  rw [within_eq]
  refine Ev.bindc rfl ?_
  by_cases h : 0 ≤ n ∧ n ≤ 4
  · rw [decide_eq_true h, if_pos h]
    obtain ⟨m, rfl⟩ : ∃ m : Nat, n = (m : Int) := ⟨n.toNat, by omega⟩
    rw [Int.toNat_natCast]
    exact Ev.pos rfl (Ev.bindk (allLoops_ev (by omega)) (Ev.val rfl))
  · rw [decide_eq_false h, if_neg h]
    exact Ev.neg (by decide) (Ev.val rfl)
theorem alS_ev (n : Int) : Ev (fun k => spec_AllLoops.f k n) (alR n) := by
  unfold spec_AllLoops.f alR
  rw [l1In_eq]
  refine Ev.bindc rfl ?_
  by_cases h : 0 ≤ n ∧ n ≤ 4
  · rw [decide_eq_true h, if_pos h]
    obtain ⟨m, rfl⟩ : ∃ m : Nat, n = (m : Int) := ⟨n.toNat, by omega⟩
    rw [Int.toNat_natCast]
    exact Ev.pos rfl (allS_l0 (by omega) (ways m 0) 0 [] (by omega) rfl)
  · rw [decide_eq_false h, if_neg h]
    exact Ev.neg (by decide) (Ev.val rfl)
theorem loopS_bytes {m r : Nat} (hm : m ≤ 8) (hr : r < ways m 0) : bytesOf (loopS m r) = loopN m r := by
  have h := (loopN_loop hm hr).1
  exact bytesOf_strOf _ (fun x hx => by
    have := h.lo x hx
    have := h.hi x hx
    omega)
theorem loopS_loop {m r : Nat} (hm : m ≤ 8) (hr : r < ways m 0) : Loop (bytesOf (loopS m r)) m := by
  rw [loopS_bytes hm hr]
  exact (loopN_loop hm hr).1
/-- How many of the loops from a rank on can be drawn. -/
def cntD (m : Nat) : Nat → Nat → Nat
  | 0, _ => 0
  | d + 1, i => (if drawnL (loopS m i) m = true then 1 else 0) + cntD m d (i + 1)
theorem cntD_le (m : Nat) : ∀ (d i : Nat), cntD m d i ≤ d
  | 0, _ => Nat.le_refl _
  | d + 1, i => by
    have := cntD_le m d (i + 1)
    rw [cntD]
    split <;> omega
theorem all_get {m i : Nat} (h : i < ways m 0) : rdOf ByteArray.empty (allL m) (i : Int) = loopS m i := by
  unfold rdOf allL
  rw [Int.toNat_natCast, List.getD_eq_getElem?_getD, List.getElem?_map, List.getElem?_range h]
  rfl
theorem cdI_l0 {m : Nat} (hm : m ≤ 8) : ∀ (d i t : Nat), i + d = ways m 0 → t ≤ i → Ev (fun k => impl_CountDrawn.l0 k (t : Int) (allL m) ((ways m 0 : Nat) : Int) (i : Int)) (((t + cntD m d i : Nat) : Int), true)
  | 0, i, t, hd, ht => by
    refine Ev.step (fun k => by rw [impl_CountDrawn.l0]) ?_
    refine Ev.neg (by omega) (Ev.val rfl)
  | d + 1, i, t, hd, ht => by
    have hw := ways_top m hm
    have hl := all_len m
    refine Ev.step (fun k => by rw [impl_CountDrawn.l0]) ?_
    refine Ev.pos (by omega) (Ev.pos (by omega) (Ev.pos (by omega) ?_))
    rw [all_get (by omega), w64 (x := (i : Int) + 1) (by omega) (by omega), w64 (x := (t : Int) + 1) (by omega) (by omega)]
    refine Ev.bindk (canBeDrawn_ev (loopS_loop hm (by omega))) ?_
    rw [cntD]
    have ih := fun t' ht' => cdI_l0 hm d (i + 1) t' (by omega) ht'
    rw [show (((i + 1 : Nat)) : Int) = (i : Int) + 1 by omega] at ih
    by_cases hd : drawnL (loopS m i) m = true
    · have e := ih (t + 1) (by omega)
      rw [show (((t + 1 : Nat)) : Int) = (t : Int) + 1 by omega] at e
      rw [if_pos hd, show t + (1 + cntD m d (i + 1)) = t + 1 + cntD m d (i + 1) by omega]
      exact Ev.pos hd e
    · rw [if_neg hd, Nat.zero_add]
      exact Ev.neg hd (ih t (by omega))
theorem cdS_l0 {m : Nat} (hm : m ≤ 8) : ∀ (d i t : Nat), i + d = ways m 0 → t ≤ i → Ev (fun k => spec_CountDrawn.l0 k (t : Int) (allL m) ((ways m 0 : Nat) : Int) (i : Int)) (((t + cntD m d i : Nat) : Int), true)
  | 0, i, t, hd, ht => by
    refine Ev.step (fun k => by rw [spec_CountDrawn.l0]) ?_
    refine Ev.neg (by omega) (Ev.val rfl)
  | d + 1, i, t, hd, ht => by
    have hw := ways_top m hm
    have hl := all_len m
    refine Ev.step (fun k => by rw [spec_CountDrawn.l0]) ?_
    refine Ev.pos (by omega) (Ev.pos (by omega) (Ev.pos (by omega) ?_))
    rw [all_get (by omega), w64 (x := (i : Int) + 1) (by omega) (by omega), w64 (x := (t : Int) + 1) (by omega) (by omega)]
    refine Ev.bindk (loDrawn_ev (loopS_loop hm (by omega))) ?_
    rw [cntD]
    have ih := fun t' ht' => cdS_l0 hm d (i + 1) t' (by omega) ht'
    rw [show (((i + 1 : Nat)) : Int) = (i : Int) + 1 by omega] at ih
    by_cases hd : drawnL (loopS m i) m = true
    · have e := ih (t + 1) (by omega)
      rw [show (((t + 1 : Nat)) : Int) = (t : Int) + 1 by omega] at e
      rw [if_pos hd, show t + (1 + cntD m d (i + 1)) = t + 1 + cntD m d (i + 1) by omega]
      exact Ev.pos hd e
    · rw [if_neg hd, Nat.zero_add]
      exact Ev.neg hd (ih t (by omega))
/-- What CountDrawn tells. -/
def cdR (n : Int) : Int × Bool := if 0 ≤ n ∧ n ≤ 4 then (((cntD n.toNat (ways n.toNat 0) 0 : Nat) : Int), true) else (0, false)
theorem cdI_ev (n : Int) : Ev (fun k => impl_CountDrawn.f k n) (cdR n) := by
  unfold impl_CountDrawn.f cdR
  rw [within_eq]
  refine Ev.bindc rfl ?_
  by_cases h : 0 ≤ n ∧ n ≤ 4
  · rw [decide_eq_true h, if_pos h]
    obtain ⟨m, rfl⟩ : ∃ m : Nat, n = (m : Int) := ⟨n.toNat, by omega⟩
    rw [Int.toNat_natCast]
    refine Ev.pos rfl (Ev.bindk (allLoops_ev (by omega)) ?_)
    rw [all_len]
    have e := cdI_l0 (m := m) (by omega) (ways m 0) 0 0 (by omega) (by omega)
    rw [Nat.zero_add] at e
    exact e
  · rw [decide_eq_false h, if_neg h]
    exact Ev.neg (by decide) (Ev.val rfl)
theorem cdS_ev (n : Int) : Ev (fun k => spec_CountDrawn.f k n) (cdR n) := by
  unfold spec_CountDrawn.f
  refine Ev.bindk (alS_ev n) ?_
  unfold alR cdR
  by_cases h : 0 ≤ n ∧ n ≤ 4
  · rw [if_pos h, if_pos h]
    obtain ⟨m, rfl⟩ : ∃ m : Nat, n = (m : Int) := ⟨n.toNat, by omega⟩
    rw [Int.toNat_natCast]
    refine Ev.pos rfl ?_
    rw [all_len]
    have e := cdS_l0 (m := m) (by omega) (ways m 0) 0 0 (by omega) (by omega)
    rw [Nat.zero_add] at e
    exact e
  · rw [if_neg h, if_neg h]
    exact Ev.neg (by decide) (Ev.val rfl)
theorem texts_l0 (xs : List ByteArray) (hn : xs.length ≤ 1000000000) : ∀ (d i : Nat), i + d = xs.length → Ev (fun k => laws_uTexts.l0 k xs xs (xs.length : Int) (i : Int)) true
  | 0, i, hd => by
    refine Ev.step (fun k => by rw [laws_uTexts.l0]) ?_
    refine Ev.neg (by omega) (Ev.val rfl)
  | d + 1, i, hd => by
    refine Ev.step (fun k => by rw [laws_uTexts.l0]) ?_
    refine Ev.pos (by omega) (Ev.pos (by omega) (Ev.pos (by omega) (Ev.pos (by omega) (Ev.pos rfl ?_))))
    rw [w64 (by omega) (by omega)]
    have ih := texts_l0 xs hn d (i + 1) (by omega)
    rwa [show (((i + 1 : Nat)) : Int) = (i : Int) + 1 by omega] at ih
theorem texts_ev (xs : List ByteArray) (hn : xs.length ≤ 1000000000) : Ev (fun k => laws_uTexts.f k xs xs) true := by
  unfold laws_uTexts.f
  exact Ev.pos rfl (texts_l0 xs hn xs.length 0 (by omega))
end Go.Proofs.YtcgoaipbfnhjhaaGreatDoor.M

/- JoinLoops, SameLoops, RankOfLoop, FirstLoop and CanBeDrawn: the program and the reference tell the same. -/
namespace Go.Proofs.YtcgoaipbfnhjhaaGreatDoor.M
open Go.RowKit Go.Proofs.YtcgoaipbfnhjhaaGreatDoor.Pr Go.Proofs.YtcgoaipbfnhjhaaGreatDoorW.PrintWords Go.Proofs.YtcgoaipbfnhjhaaGreatDoorW.PrintLast
set_option linter.unusedVariables false
set_option linter.unusedSimpArgs false

theorem join_l0 (a b : ByteArray) (ha : a.size ≤ 16) (hb : b.size ≤ 16) (hl : ∀ x ∈ bytesOf b, 97 ≤ x ∧ x ≤ 104) : ∀ (d i : Nat) (out : ByteArray), i + d = b.size → out.size = a.size + i →
    Ev (fun k => spec_JoinLoops.l0 k a b out (i : Int)) (strOfNums (bytesOf out ++ moveL (a.size / 2) ((bytesOf b).drop i)), true)
  | 0, i, out, hi, ho => by
    have hlen := bytesOf_length b
    refine Ev.step (fun k => by rw [spec_JoinLoops.l0]) ?_
    refine Ev.neg (by omega) (Ev.val ?_)
    rw [List.drop_of_length_le (by omega)]
    show (out, true) = (strOfNums (bytesOf out ++ []), true)
    rw [List.append_nil, strOf_bytesOf]
  | d + 1, i, out, hi, ho => by
    have hlen := bytesOf_length b
    have hlt : i < (bytesOf b).length := by omega
    obtain ⟨h0, h1⟩ := hl _ (List.getElem_mem hlt)
    have hx := bytesOf_get b i hlt
    generalize hxx : (bytesOf b)[i] = x at h0 h1 hx
    obtain ⟨n, hn⟩ : ∃ n : Nat, x - 97 + ((a.size / 2 : Nat) : Int) = n := ⟨(x - 97 + ((a.size / 2 : Nat) : Int)).toNat, by omega⟩
    have hn16 : n < 16 := by omega
    have e1 : wrap64 (((x - 97) % 256) + wrap64 ((a.size : Int) / 2)) = n := by
      rw [w64 (x := (a.size : Int) / 2) (by omega) (by omega), w64 (by omega) (by omega)]
      omega
    refine Ev.step (fun k => by rw [spec_JoinLoops.l0]) ?_
    rw [hx]
    simp only [e1]
    rw [w64 (x := (n : Int) + 1) (by omega) (by omega), w64 (x := (i : Int) + 1) (by omega) (by omega), show ((n : Int) + 1).toNat = n + 1 by omega, Int.toNat_natCast]
    have hone : bytesOf ((⟨#[97, 98, 99, 100, 101, 102, 103, 104, 105, 106, 107, 108, 109, 110, 111, 112]⟩ : ByteArray).extract n (n + 1)) = [97 + (n : Int)] := abc_one n hn16
    have hsz : ((⟨#[97, 98, 99, 100, 101, 102, 103, 104, 105, 106, 107, 108, 109, 110, 111, 112]⟩ : ByteArray).extract n (n + 1)).size = 1 := abc_size n hn16
    refine Ev.pos (by omega) (Ev.pos (by omega) (Ev.pos (by omega) (Ev.pos (by omega) (Ev.pos (by omega) (Ev.pos (by omega) ?_)))))
    have e := join_l0 a b ha hb hl d (i + 1) (out ++ (⟨#[97, 98, 99, 100, 101, 102, 103, 104, 105, 106, 107, 108, 109, 110, 111, 112]⟩ : ByteArray).extract n (n + 1)) (by omega) (by rw [ByteArray.size_append, hsz]; omega)
    rw [bytesOf_append, hone] at e
    rw [List.drop_eq_getElem_cons hlt, hxx]
    have ec : moveL (a.size / 2) (x :: (bytesOf b).drop (i + 1)) = (97 + (n : Int)) :: moveL (a.size / 2) ((bytesOf b).drop (i + 1)) := by
      unfold moveL
      rw [List.map_cons]
      congr 1
      omega
    rw [ec]
    rw [List.append_assoc] at e
    exact e
def joinR (a b : ByteArray) : ByteArray × Bool :=
  if (goodS a = true ∧ goodS b = true) ∧ a.size + b.size ≤ 16 then (strOfNums (bytesOf a ++ moveL (a.size / 2) (bytesOf b)), true) else (⟨#[]⟩, false)
theorem joinS_ev (a b : ByteArray) : Ev (fun k => spec_JoinLoops.f k a b) (joinR a b) := by
    unfold spec_JoinLoops.f joinR
    refine Ev.bindk (loGood_ev a) ?_
    by_cases h : goodS a = true
    · have h16 := good_size h
      refine Ev.pos h (Ev.bindk (loGood_ev b) ?_)
      by_cases h2 : goodS b = true
      · have h16b := good_size h2
        refine Ev.pos h2 ?_
        refine Ev.step (fun k => by rw [spec_JoinLoops.j0]) ?_
        rw [w64 (by omega) (by omega)]
        by_cases hc : a.size + b.size ≤ 16
        · rw [if_pos ⟨⟨h, h2⟩, hc⟩]
          refine Ev.neg (by simp; omega) ?_
          have e := join_l0 a b h16 h16b (good_letters (show goodL (bytesOf b) = true from h2)) b.size 0 a (by omega) (by omega)
          simpa using e
        · rw [if_neg (fun e => hc e.2)]
          exact Ev.pos (by simp; omega) (Ev.val rfl)
      · rw [if_neg (fun e => h2 e.1.2)]
        refine Ev.neg h2 ?_
        refine Ev.step (fun k => by rw [spec_JoinLoops.j0]) ?_
        exact Ev.pos rfl (Ev.val rfl)
    · rw [if_neg (fun e => h e.1.1)]
      refine Ev.neg h ?_
      refine Ev.step (fun k => by rw [spec_JoinLoops.j0]) ?_
      exact Ev.pos rfl (Ev.val rfl)
theorem joinI_ev (a b : ByteArray) : Ev (fun k => impl_JoinLoops.f k a b) (joinR a b) := by
    unfold impl_JoinLoops.f joinR
    refine Ev.bindk (isLoop_ev a) ?_
    by_cases h : goodS a = true
    · have h16 := good_size h
      refine Ev.pos h (Ev.bindk (isLoop_ev b) ?_)
      by_cases h2 : goodS b = true
      · have h16b := good_size h2
        refine Ev.pos h2 (Ev.pos ⟨⟨h16, h16b⟩, List.all_eq_true.2 (fun x hx => by
          have := good_letters (show goodL (bytesOf b) = true from h2) x hx
          exact decide_eq_true (by omega))⟩ ?_)
        by_cases hc : a.size + b.size ≤ 16
        · refine Ev.pos hc ?_
          rw [if_pos ⟨⟨h, h2⟩, hc⟩]
          exact Ev.val rfl
        · refine Ev.neg hc ?_
          rw [if_neg (fun e => hc e.2)]
          exact Ev.val rfl
      · refine Ev.neg h2 ?_
        rw [if_neg (fun e => h2 e.1.2)]
        exact Ev.val rfl
    · refine Ev.neg h ?_
      rw [if_neg (fun e => h e.1.1)]
      exact Ev.val rfl
def sameR (w v : ByteArray) : Bool × Bool := if goodS w = true ∧ goodS v = true then ((firstS w).toList == (firstS v).toList, true) else (false, false)
theorem sameS_ev (w v : ByteArray) : Ev (fun k => spec_SameLoops.f k w v) (sameR w v) := by
    unfold spec_SameLoops.f sameR
    refine Ev.bindk (loGood_ev w) ?_
    by_cases h : goodS w = true
    · refine Ev.pos h (Ev.bindk (loGood_ev v) ?_)
      refine Ev.step (fun k => by rw [spec_SameLoops.j0]) ?_
      by_cases h2 : goodS v = true
      · rw [if_pos ⟨h, h2⟩]
        exact Ev.neg (by simp [h2]) (Ev.bindk (loFirst_ev w h) (Ev.bindk (loFirst_ev v h2) (Ev.val rfl)))
      · rw [if_neg (fun e => h2 e.2)]
        exact Ev.pos (by simpa using h2) (Ev.val rfl)
    · refine Ev.neg h ?_
      rw [if_neg (fun e => h e.1)]
      refine Ev.step (fun k => by rw [spec_SameLoops.j0]) ?_
      exact Ev.pos rfl (Ev.val rfl)
theorem sameI_ev (w v : ByteArray) : Ev (fun k => impl_SameLoops.f k w v) (sameR w v) := by
    unfold impl_SameLoops.f sameR
    refine Ev.bindk (isLoop_ev w) ?_
    by_cases h : goodS w = true
    · refine Ev.pos h (Ev.bindk (isLoop_ev v) ?_)
      refine Ev.step (fun k => by rw [impl_SameLoops.j0]) ?_
      by_cases h2 : goodS v = true
      · rw [if_pos ⟨h, h2⟩]
        exact Ev.neg (by simp [h2]) (Ev.bindk (firstLoop_ev w (good_size h)) (Ev.bindk (firstLoop_ev v (good_size h2)) (Ev.val rfl)))
      · rw [if_neg (fun e => h2 e.2)]
        exact Ev.pos (by simpa using h2) (Ev.val rfl)
    · refine Ev.neg h ?_
      rw [if_neg (fun e => h e.1)]
      refine Ev.step (fun k => by rw [impl_SameLoops.j0]) ?_
      exact Ev.pos rfl (Ev.val rfl)
def firstR (w : ByteArray) : ByteArray × Bool := if goodS w = true then (firstS w, true) else (⟨#[]⟩, false)
theorem firstI_ev (w : ByteArray) : Ev (fun k => impl_FirstLoop.f k w) (firstR w) := by
      unfold impl_FirstLoop.f firstR
      refine Ev.bindk (isLoop_ev w) ?_
      by_cases h : goodS w = true
      · refine Ev.pos h ?_
        rw [if_pos h]
        exact Ev.bindk (firstLoop_ev w (good_size h)) (Ev.val rfl)
      · refine Ev.neg h ?_
        rw [if_neg h]
        exact Ev.val rfl
def drawR (w : ByteArray) : Bool × Bool := if goodS w = true then (drawnL w (w.size / 2), true) else (false, false)
theorem drawI_ev (w : ByteArray) : Ev (fun k => impl_CanBeDrawn.f k w) (drawR w) := by
      unfold impl_CanBeDrawn.f
      refine Ev.bindk (isLoop_ev w) ?_
      by_cases h : goodS w = true
      · obtain ⟨m, hm⟩ := loop_of h
        have hl := bytesOf_length w
        have hlen := hm.len
        refine Ev.pos h ?_
        rw [drawR, if_pos h, show w.size / 2 = m by omega]
        exact Ev.bindk (canBeDrawn_ev hm) (Ev.val rfl)
      · refine Ev.neg h (Ev.val ?_)
        rw [drawR, if_neg h]
def rankR (w : ByteArray) : Int × Bool := if goodS w = true then (((rankG (w.size / 2) [] 0 (bytesOf w) : Nat) : Int), true) else (0, false)
theorem rankS_ev (w : ByteArray) : Ev (fun k => spec_RankOfLoop.f k w) (rankR w) := by
      unfold spec_RankOfLoop.f
      refine Ev.bindk (loGood_ev w) ?_
      by_cases h : goodS w = true
      · obtain ⟨m, hm⟩ := loop_of h
        have hl := bytesOf_length w
        have hlen := hm.len
        refine Ev.pos h ?_
        rw [rankR, if_pos h, show w.size / 2 = m by omega]
        have e := rank_spec hm w.size 0 [] 0 0 (by omega) (by rw [List.take_zero]; exact beg_nil) (by omega) (by rw [List.drop_zero]; exact hm.run) (by omega) (by omega)
        rw [List.drop_zero, Int.zero_add] at e
        exact e
      · refine Ev.neg h (Ev.val ?_)
        rw [rankR, if_neg h]
theorem rankI_ev (w : ByteArray) : Ev (fun k => impl_RankOfLoop.f k w) (rankR w) := by
      unfold impl_RankOfLoop.f
      refine Ev.bindk (isLoop_ev w) ?_
      by_cases h : goodS w = true
      · obtain ⟨m, hm⟩ := loop_of h
        have hl := bytesOf_length w
        have hlen := hm.len
        have hf := hm.few
        refine Ev.pos h (Ev.pos (by omega) ?_)
        rw [rankR, if_pos h, show w.size / 2 = m by omega]
        have e := rank_impl hm w.size 0 [] 0 0 (by omega) (by rw [List.take_zero]; exact beg_nil) (by omega) (by rw [List.drop_zero]; exact hm.run) (by omega) (by omega)
        rw [List.drop_zero, Int.zero_add] at e
        exact Ev.bindk e (Ev.val rfl)
      · refine Ev.neg h (Ev.val ?_)
        rw [rankR, if_neg h]
end Go.Proofs.YtcgoaipbfnhjhaaGreatDoor.M

/- Loops are ranked in order, all of them are told and those that can be drawn counted, and joined loops are drawn if both are: the plain law. -/
namespace Go.Proofs.YtcgoaipbfnhjhaaGreatDoor.M
open Go.RowKit Go.Proofs.YtcgoaipbfnhjhaaGreatDoor.Pr Go.Proofs.YtcgoaipbfnhjhaaGreatDoorW.PrintWords Go.Proofs.YtcgoaipbfnhjhaaGreatDoorW.PrintLast
set_option linter.unusedVariables false
set_option linter.unusedSimpArgs false

theorem rank_bound {w : ByteArray} (h : goodS w = true) : ∃ m, Loop (bytesOf w) m ∧ w.size / 2 = m ∧ w.size = 2 * m ∧ m ≤ 8 := by
  obtain ⟨m, hm⟩ := loop_of (show goodL (bytesOf w) = true from h)
  have h1 := hm.len
  have h2 := bytesOf_length w
  have h3 := hm.few
  exact ⟨m, hm, by omega, by omega, h3⟩
theorem text_of {w : ByteArray} (h : goodS w = true) : loopS (w.size / 2) (rankG (w.size / 2) [] 0 (bytesOf w)) = w ∧ rankG (w.size / 2) [] 0 (bytesOf w) < ways (w.size / 2) 0 := by
  obtain ⟨m, hm, e, _, _⟩ := rank_bound h
  rw [e]
  have h2 := loopN_rank hm
  refine ⟨?_, h2.2⟩
  unfold loopS
  rw [h2.1, strOf_bytesOf]
theorem good_loopS {m r : Nat} (hm : m ≤ 8) (hr : r < ways m 0) : goodS (loopS m r) = true ∧ (loopS m r).size = 2 * m := by
  have h := loopS_loop hm hr
  have h2 := h.len
  rw [bytesOf_length] at h2
  exact ⟨h.good, h2⟩
theorem size_int (w : ByteArray) (h : w.size ≤ 1000) : wrap64 ((w.size : Int) / 2) = ((w.size / 2 : Nat) : Int) := by
  rw [w64 (by omega) (by omega)]
  omega
theorem lor_ok {m r : Nat} (hm : m ≤ 8) (hr : r < ways m 0) : lorR (m : Int) (r : Int) = (loopS m r, true) := by
  unfold lorR
  rw [Int.toNat_natCast, Int.toNat_natCast, if_pos ⟨by omega, by omega, by omega, by omega⟩]
/-- The end: a loop that is ranked is the one with its rank. -/
theorem llR_ev (v : ByteArray) (hv : v.size ≤ 18) : Ev (fun k => llR k v (rankR v)) () := by
  unfold llR
  by_cases h : goodS v = true
  · have ht := text_of h
    obtain ⟨m, hm, e, e2, h8⟩ := rank_bound h
    have hr : rankR v = (((rankG (v.size / 2) [] 0 (bytesOf v) : Nat) : Int), true) := by rw [rankR, if_pos h]
    rw [hr, size_int v (by omega)]
    refine Ev.pos rfl (Ev.bindk (lorI_ev _ _) ?_)
    dsimp only
    rw [lor_ok (by omega) ht.2, ht.1]
    exact Ev.pos ⟨rfl, rfl⟩ (Ev.val rfl)
  · have hr : rankR v = (0, false) := by rw [rankR, if_neg h]
    rw [hr]
    exact Ev.neg (by decide) (Ev.val rfl)
theorem llF_ev (x y : ByteArray) : Ev (fun k => llF k x y (sameR x y)) () := by
  unfold llF
  by_cases h : goodS x = true ∧ goodS y = true
  · have hs : sameR x y = ((firstS x).toList == (firstS y).toList, true) := by rw [sameR, if_pos h]
    rw [hs]
    refine Ev.pos rfl (Ev.bindk (firstI_ev x) (Ev.bindk (firstI_ev y) ?_))
    rw [firstR, if_pos h.1, firstR, if_pos h.2]
    exact Ev.pos ⟨rfl, rfl, rfl⟩ (Ev.val rfl)
  · have hs : sameR x y = (false, false) := by rw [sameR, if_neg h]
    rw [hs]
    exact Ev.neg (by decide) (Ev.val rfl)
theorem join_bytes {a b : ByteArray} {m k : Nat} (ha : Loop (bytesOf a) m) (hb : Loop (bytesOf b) k) (h8 : m + k ≤ 8) : bytesOf (strOfNums (bytesOf a ++ movL m (bytesOf b))) = bytesOf a ++ movL m (bytesOf b) := by
  have h := join_loop ha hb h8
  exact bytesOf_strOf _ (fun x hx => by
    have := h.lo x hx
    have := h.hi x hx
    omega)
theorem llJ_ev (a b : ByteArray) : Ev (fun k => llJ k a b (joinR a b)) () := by
  unfold llJ
  by_cases h : (goodS a = true ∧ goodS b = true) ∧ a.size + b.size ≤ 16
  · obtain ⟨m, ha, e1, e2, e3⟩ := rank_bound h.1.1
    obtain ⟨n, hb, g1, g2, g3⟩ := rank_bound h.1.2
    have h8 : m + n ≤ 8 := by have := h.2; omega
    have hj : joinR a b = (strOfNums (bytesOf a ++ movL m (bytesOf b)), true) := by rw [joinR, if_pos h, e1]; rfl
    obtain ⟨J, hJ⟩ : ∃ J, J = strOfNums (bytesOf a ++ movL m (bytesOf b)) := ⟨_, rfl⟩
    have hJb : bytesOf J = bytesOf a ++ movL m (bytesOf b) := by rw [hJ]; exact join_bytes ha hb h8
    have hJl : Loop (bytesOf J) (m + n) := by rw [hJb]; exact join_loop ha hb h8
    have hJg : goodS J = true := hJl.good
    have hJs : J.size / 2 = m + n := by
      have := hJl.len
      rw [bytesOf_length] at this
      omega
    have hd : drawnL J (m + n) = true ↔ drawnL a m = true ∧ drawnL b n = true := by
      rw [drawnL_iff hJl, drawnL_iff ha, drawnL_iff hb, hJb]
      exact join_drawn ha hb
    rw [hj, ← hJ]
    refine Ev.pos rfl (Ev.bindk (drawI_ev a) (Ev.bindk (drawI_ev b) (Ev.bindk (drawI_ev J) (Ev.bindk (isLoop_ev J) ?_))))
    rw [drawR, if_pos h.1.1, drawR, if_pos h.1.2, drawR, if_pos hJg, e1, g1, hJs]
    refine Ev.pos ⟨hJg, rfl, rfl, rfl, ?_⟩ (Ev.val rfl)
    dsimp only
    rw [Bool.eq_iff_iff, hd, Bool.and_eq_true]
  · have hj : joinR a b = (⟨#[]⟩, false) := by rw [joinR, if_neg h]
    rw [hj]
    exact Ev.neg (by decide) (Ev.val rfl)
theorem flat : ∀ m : Fin 5, ∀ a : Fin 5, ∀ b : Fin 5, tabM (loopN m.val 0) a.val b.val = false := by decide +kernel
theorem first_drawn {m : Nat} (h : m ≤ 4) : drawnL (loopS m 0) m = true := by
  have hl := loopS_loop (m := m) (r := 0) (by omega) (ways_pos _ _)
  rw [drawnL_iff hl, loopS_bytes (by omega) (ways_pos _ _)]
  have hf : ∀ a b, a < m → b < m → tabM (loopN m 0) a b = false := fun a b ha hb => flat ⟨m, by omega⟩ ⟨a, by omega⟩ ⟨b, by omega⟩
  refine ⟨fun a ha => ?_, fun a b ha hb _ _ => ?_, fun _ => 1, fun _ => .inl rfl, fun a b ha hb _ he => ?_⟩
  · unfold degM
    rw [count_none _ m (fun c hc => hf a c ha hc)]
  · unfold bothM
    rw [count_none _ m (fun c hc => by rw [hf a c ha hc]; rfl)]
  · rw [hf a b ha hb] at he
    cases he
theorem cnt_pos {m : Nat} (h : m ≤ 4) : 1 ≤ cntD m (ways m 0) 0 := by
  obtain ⟨d, hd⟩ : ∃ d, ways m 0 = d + 1 := ⟨ways m 0 - 1, by have := ways_pos m 0; omega⟩
  rw [hd, cntD, if_pos (first_drawn h)]
  omega
theorem llL_ev {m : Nat} (h4 : m ≤ 4) : ∀ (d i t : Nat), i + d = ways m 0 → t ≤ i → Ev (fun k => llL k (allL m) d (i : Int) (t : Int)) ((t + cntD m d i : Nat) : Int)
  | 0, i, t, hd, ht => by
    simp only [llL]
    exact Ev.val rfl
  | d + 1, i, t, hd, ht => by
    have hw := ways_top m (by omega)
    have hg := good_loopS (m := m) (r := i) (by omega) (by omega)
    simp only [llL]
    rw [all_get (by omega)]
    refine Ev.bindk (drawI_ev _) ?_
    rw [drawR, if_pos hg.1, hg.2, Nat.mul_div_cancel_left m (by decide : 0 < 2)]
    refine Ev.pos ⟨rfl, fun h => ?_⟩ ?_
    · rw [show (i : Int) - 1 = ((i - 1 : Nat) : Int) by omega, all_get (by omega)]
      exact less_of (by rw [loopS_bytes (by omega) (by omega), loopS_bytes (by omega) (by omega)]; exact loopN_lt (by omega) (by omega))
    · rw [cntD]
      by_cases hdr : drawnL (loopS m i) m = true
      · have e := llL_ev h4 d (i + 1) (t + 1) (by omega) (by omega)
        rw [show (((i + 1 : Nat)) : Int) = (i : Int) + 1 by omega, show (((t + 1 : Nat)) : Int) = (t : Int) + 1 by omega] at e
        dsimp only
        rw [if_pos hdr, if_pos hdr, w64 (by omega) (by omega), show t + (1 + cntD m d (i + 1)) = t + 1 + cntD m d (i + 1) by omega]
        exact e
      · have e := llL_ev h4 d (i + 1) t (by omega) (by omega)
        rw [show (((i + 1 : Nat)) : Int) = (i : Int) + 1 by omega] at e
        dsimp only
        rw [if_neg hdr, if_neg hdr, Nat.zero_add]
        exact e
theorem llAll_ev (n : Int) (h : (alR n).2 = true) : Ev (fun k => llAll k n (alR n).1 (cdR n).1) () := by
  have h4 : 0 ≤ n ∧ n ≤ 4 := by
    unfold alR at h
    by_cases h4 : 0 ≤ n ∧ n ≤ 4
    · exact h4
    · rw [if_neg h4] at h; cases h
  obtain ⟨m, rfl⟩ : ∃ m : Nat, n = (m : Int) := ⟨n.toNat, by omega⟩
  have ha : alR (m : Int) = (allL m, true) := by rw [alR, if_pos h4, Int.toNat_natCast]
  have hc : cdR (m : Int) = (((cntD m (ways m 0) 0 : Nat) : Int), true) := by rw [cdR, if_pos h4, Int.toNat_natCast]
  have hp := cnt_pos (m := m) (by omega)
  have hw := ways_top m (by omega)
  have h5 := ways5 ⟨m, by omega⟩
  dsimp only at h5
  have e := llL_ev (m := m) (by omega) (ways m 0) 0 0 (by omega) (by omega)
  rw [Nat.zero_add] at e
  rw [ha, hc]
  unfold llAll
  refine Ev.bindk (clI_ev _) ?_
  rw [clR, if_pos ⟨by omega, by omega⟩, Int.toNat_natCast, all_len]
  refine Ev.bindk e (Ev.pos ⟨rfl, rfl, rfl, by omega, by omega⟩ (Ev.val rfl))
theorem drawAll_ok {l : List Int} (hl : By l) : ∃ n, spec_DrawAllLoops.f l = some n := by
  obtain ⟨n, a1, s1, e1, _, _⟩ := among_ok hl 0 (n := 0) (a := 0) ⟨by omega, by omega⟩ (by omega) [0, 1, 2, 3, 4, 5, (-1)] (by simp)
  unfold spec_DrawAllLoops.f
  rw [e1]
  exact ⟨_, rfl⟩
theorem drawLoR_ok {l : List Int} (hl : By l) : ∃ n r, spec_DrawLoopOfRank.f l = some (n, r) ∧ r ≤ 4611686018427387904 := by
  obtain ⟨n, a1, s1, e1, _, h1⟩ := among_ok hl 0 (n := 0) (a := 0) ⟨by omega, by omega⟩ (by omega) [0, 1, 2, 3, 4, 5, 8, 9, (-1)] (by simp)
  obtain ⟨r, a2, s2, e2, hm, h2⟩ := among_ok hl s1 h1 (by omega) [0, 1, 2, 7, 14, 100, 944, 2027024, (-1), 4611686018427387904] (by simp)
  unfold spec_DrawLoopOfRank.f
  rw [e1]
  simp only [Option.bind_some]
  rw [e2]
  refine ⟨_, _, rfl, ?_⟩
  simp only [List.mem_cons, List.not_mem_nil, or_false] at hm
  omega
theorem al_cd (n : Int) : (cdR n).2 = (alR n).2 := by
  unfold cdR alR
  split <;> rfl
theorem al_len (n : Int) : (alR n).1.length ≤ 1000000000 := by
  unfold alR
  split
  · rename_i h
    have := ways_top n.toNat (by omega)
    dsimp only
    rw [all_len]
    omega
  · simp
theorem llB_ev {l : List Int} (hl : By l) : Ev (fun k => llB k l) () := by
  obtain ⟨n, e1⟩ := drawAll_ok hl
  obtain ⟨a, b, e2, _, _⟩ := drawJoin_ok hl
  obtain ⟨x, y, e3, _, _⟩ := drawSame_ok hl
  obtain ⟨v, e4, hv⟩ := drawRank_ok hl
  unfold llB
  refine Ev.bindc e1 (Ev.bindk (alI_ev n) (Ev.bindk (alS_ev n) (Ev.bindk (cdI_ev n) (Ev.bindk (cdS_ev n) (Ev.bindk e2 (Ev.bindk (joinI_ev a b) (Ev.bindk (joinS_ev a b) (Ev.bindk e3 (Ev.bindk (sameI_ev x y) (Ev.bindk (sameS_ev x y) (Ev.bindk e4 (Ev.bindk (rankI_ev v) (Ev.bindk (rankS_ev v) (Ev.bindk (texts_ev _ (al_len n)) ?_))))))))))))))
  refine Ev.pos ⟨rfl, rfl, rfl, al_cd n, rfl, rfl, rfl⟩ ?_
  refine Ev.bindk (a := ()) ?_ (Ev.bindk (llJ_ev a b) (Ev.bindk (llF_ev x y) (llR_ev v hv)))
  by_cases h : (alR n).2 = true
  · exact Ev.pos h (llAll_ev n h)
  · exact Ev.neg h (Ev.val rfl)
theorem llC_ev (n r : Int) (hr : r ≤ 4611686018427387904) : Ev (fun k => llC k n r (lorR n r)) () := by
  unfold llC
  by_cases h : 0 ≤ n ∧ n ≤ 8 ∧ 0 ≤ r ∧ r < ((ways n.toNat 0 : Nat) : Int)
  · obtain ⟨m, rfl⟩ : ∃ m : Nat, n = (m : Int) := ⟨n.toNat, by omega⟩
    obtain ⟨q, rfl⟩ : ∃ q : Nat, r = (q : Int) := ⟨r.toNat, by omega⟩
    rw [Int.toNat_natCast] at h
    have hg := good_loopS (m := m) (r := q) (by omega) (by omega)
    have hlo : lorR (m : Int) (q : Int) = (loopS m q, true) := lor_ok (by omega) (by omega)
    have hrk : rankR (loopS m q) = ((q : Int), true) := by
      rw [rankR, if_pos hg.1, hg.2, Nat.mul_div_cancel_left m (by decide : 0 < 2), loopS_bytes (by omega) (by omega), (loopN_loop (by omega) (by omega)).2]
    rw [hlo]
    refine Ev.pos rfl (Ev.bindk (rankI_ev _) (Ev.bindk (isLoop_ev _) ?_))
    rw [hrk]
    refine Ev.pos ⟨rfl, rfl, hg.1, by dsimp only; rw [hg.2, w64 (by omega) (by omega)]; omega⟩ ?_
    by_cases hq : (q : Int) > 0
    · rw [w64 (x := (q : Int) - 1) (by omega) (by omega), show (q : Int) - 1 = ((q - 1 : Nat) : Int) by omega]
      refine Ev.pos hq (Ev.bindk (lorI_ev _ _) ?_)
      rw [lor_ok (by omega) (by omega)]
      exact Ev.pos ⟨rfl, less_of (by rw [loopS_bytes (by omega) (by omega), loopS_bytes (by omega) (by omega)]; exact loopN_lt (by omega) (by omega))⟩ (Ev.val rfl)
    · exact Ev.neg hq (Ev.val rfl)
  · have hlo : lorR n r = (⟨#[]⟩, false) := by rw [lorR, if_neg h]
    rw [hlo]
    exact Ev.neg (by decide) (Ev.val rfl)
theorem llA_ev (n r : Int) (hr : r ≤ 4611686018427387904) : Ev (fun k => llA k n r) () := by
  unfold llA
  refine Ev.bindk (lorI_ev n r) (Ev.bindk (lorS_ev n r) (Ev.bindk (clI_ev n) (Ev.bindk (clS_ev n) (Ev.pos ⟨rfl, rfl, ?_⟩ (llC_ev n r hr)))))
  unfold lorR clR
  by_cases h : 0 ≤ n ∧ n ≤ 8
  · rw [if_pos h]
    by_cases h2 : 0 ≤ r
    · by_cases h3 : r < ((ways n.toNat 0 : Nat) : Int)
      · rw [if_pos ⟨h.1, h.2, h2, h3⟩]; simp [h2, h3]
      · rw [if_neg (fun e => h3 e.2.2.2)]; simp [h2, h3]
    · rw [if_neg (fun e => h2 e.2.2.1)]; simp [h2]
  · rw [if_neg h, if_neg (fun e => h ⟨e.1, e.2.1⟩)]
    rfl
theorem big_ok (l m : List Int) : ∃ b, laws_big.f l m = some b := by
  unfold laws_big.f
  split <;> exact ⟨_, rfl⟩
theorem listed_ev (l0 l1 : List Int) (h0 : By l0) (h1 : By l1) : Ev (fun k => laws_FnLoopsListed.f k l0 l1) true := by
  unfold laws_FnLoopsListed.f
  obtain ⟨g, hg⟩ := big_ok l0 l1
  refine Ev.bindc hg ?_
  cases g with
  | true => exact Ev.pos rfl (Ev.val rfl)
  | false =>
    obtain ⟨n, r, e1, hr⟩ := drawLoR_ok h0
    exact Ev.neg (by decide) (Ev.bindc e1 (Ev.bindk (llA_ev n r hr) (Ev.bindk (llB_ev h1) (Ev.val rfl))))
end Go.Proofs.YtcgoaipbfnhjhaaGreatDoor.M
namespace Go.Proofs.YtcgoaipbfnhjhaaGreatDoor.Pure
open Go.RowKit Go.Proofs.YtcgoaipbfnhjhaaGreatDoor.Pr
open Go.Proofs.YtcgoaipbfnhjhaaGreatDoorW.PrintWords
theorem FnLoopsListed : ∀ (l0 : List Int) (l1 : List Int), l0.length ≤ maxLen → (∀ x ∈ l0, (Lit.int .u8 x).wf = true) → l1.length ≤ maxLen → (∀ x ∈ l1, (Lit.int .u8 x).wf = true) → ∃ k, laws_FnLoopsListed.f k l0 l1 = some true := by
  intro l0 l1 _ w0 _ w1
  exact Ev.rounds (M.listed_ev l0 l1 (M.by_wf w0) (M.by_wf w1))
end Go.Proofs.YtcgoaipbfnhjhaaGreatDoor.Pure

/- Shared steps of the rows: an argument that is a slice of structs of whole numbers, read as a list of lists of numbers. -/
namespace Go.Proofs.YtcgoaipbfnhjhaaGreatDoor.RowA
open Go.ChangeShapes Go.WideShapes Go.Deep Go.RowKit Go.Proofs.YtcgoaipbfnhjhaaGreatDoorW.PrintWords
section
variable {H : Type} {enc : TypeId × Value → H} {P : Program} {w : World} {base : Nat} {spare : Nat → Bool} {held : Bool}

/-- A slice of structs whose fields are one cell each: nil, or an address with, for each element and each field, the cell and the field's own reading. -/
theorem open_cells {t e : TypeId} {fs : Array Field} {fuel : Nat} {cs : List Value} {x : DataW H × List MemPlace} (ht : P.underlying t = some (.slice e)) (he : P.underlying e = some (.struct fs))
    (hone : oneCellFields P fs = true) (hC : P.cellsOf e = fs.size) (h : DataW.trod enc P w base spare held fuel t cs = some x) :
    cs = [.slice none 0 0] ∨
    ∃ (a : Addr) (len cap : Nat), cs = [.slice (some a) len cap] ∧ len ≤ cap ∧ cap ≤ maxLen ∧
      ∀ i, i < len → ∃ n, ∀ (j : Nat) (f : Field), fs[j]? = some f → ∃ (v : Value) (y : DataW H × List MemPlace), w.cell? (a.add (i * fs.size + j)) = some v ∧ DataW.trod enc P w base spare held n f.type [v] = some y := by
  rcases open_slice ht h with h0 | ⟨a, len, cap, m, n, D, Pl, hcs, hb, hl, hm, hmm, hx, hi⟩
  · exact .inl h0.1
  · refine .inr ⟨a, len, cap, hcs, hl, hm, fun i hil => ?_⟩
    have him : i < m := by
      rw [hmm]
      split
      · omega
      · exact hil
    obtain ⟨cs', hc, ht'⟩ := hi i him
    rw [hC] at hc
    obtain ⟨ys, n', hn', hy, hlen, hyl, hf⟩ := DataW.trod_struct he ht'
    obtain ⟨_, hcl, hat⟩ := World.cells?_some hc
    refine ⟨n', fun j f hj => ?_⟩
    obtain ⟨ho, hk⟩ := hone_of hone j f hj
    have hjl : j < fs.size := (Array.getElem?_eq_some_iff.1 hj).1
    have hcell := hat j hjl
    have hv : cs'[j]? = some (cs'[j]'(by omega)) := List.getElem?_eq_getElem (by omega)
    have h1 := hf j f hj
    rw [ho, hk] at h1
    have hone' : (cs'.drop j).take 1 = [cs'[j]'(by omega)] := by
      rw [List.drop_eq_getElem_cons (by omega)]
      rfl
    rw [hone'] at h1
    have hys : ys[j]? = some (ys[j]'(by omega)) := List.getElem?_eq_getElem (by omega)
    refine ⟨_, _, ?_, h1.trans hys⟩
    rw [← Go.Deep.add_add, hcell, hv]

/-- One whole number's reading. -/
theorem read_i64 {t : TypeId} {n : Nat} {v : Value} {y : DataW H × List MemPlace} (hu : P.underlying t = some (.int .i64)) (h : DataW.trod enc P w base spare held n t [v] = some y) :
    ∃ z : Int, v = .int .i64 z ∧ (Lit.int .i64 z).wf = true := by
  obtain ⟨z, hz, _, hw⟩ := DataW.trod_int hu h
  simp at hz
  exact ⟨z, hz, hw⟩

/-- A slice of structs of m whole numbers, as it is handed over: the numbers by element and field. -/
theorem open_nums {t e : TypeId} {fs : Array Field} {a : Option Addr} {len cap : Nat} {d : DataW H} {ps : List MemPlace} (ht : P.underlying t = some (.slice e)) (he : P.underlying e = some (.struct fs))
    (hone : oneCellFields P fs = true) (hC : P.cellsOf e = fs.size) (hi : ∀ (j : Nat) (f : Field), fs[j]? = some f → P.underlying f.type = some (.int .i64))
    (h : DataW.Trod enc P w base spare held t (.slice a len cap) d ps) :
    len ≤ cap ∧ len ≤ maxLen ∧ ∃ z : Nat → Nat → Int, (∀ i j, i < len → j < fs.size → (Lit.int .i64 (z i j)).wf = true) ∧
      (0 < len → ∃ ad, a = some ad ∧ ∀ i j, i < len → j < fs.size → w.cell? (ad.add (i * fs.size + j)) = some (.int .i64 (z i j))) := by
  obtain ⟨fuel, hf⟩ := h
  rcases open_cells ht he hone hC hf with hcs | ⟨x, l, c, hcs, hl, hm, hcell⟩
  · simp [Value.cells] at hcs
    obtain ⟨rfl, rfl, rfl⟩ := hcs
    exact ⟨Nat.le_refl _, Nat.zero_le _, fun _ _ => 0, fun i j h => absurd h (Nat.not_lt_zero _), fun h => absurd h (Nat.not_lt_zero _)⟩
  · simp [Value.cells] at hcs
    obtain ⟨rfl, rfl, rfl⟩ := hcs
    refine ⟨hl, Nat.le_trans hl hm, ?_⟩
    have hz : ∀ i j, ∃ z : Int, i < len → j < fs.size → w.cell? (x.add (i * fs.size + j)) = some (.int .i64 z) ∧ (Lit.int .i64 z).wf = true := by
      intro i j
      by_cases h1 : i < len
      · by_cases h2 : j < fs.size
        · obtain ⟨n, hn⟩ := hcell i h1
          obtain ⟨v, y, hv, hy⟩ := hn j fs[j] (Array.getElem?_eq_getElem h2)
          obtain ⟨z, rfl, hw⟩ := read_i64 (hi j fs[j] (Array.getElem?_eq_getElem h2)) hy
          exact ⟨z, fun _ _ => ⟨hv, hw⟩⟩
        · exact ⟨0, fun _ h => absurd h h2⟩
      · exact ⟨0, fun h _ => absurd h h1⟩
    exact ⟨fun i j => (hz i j).choose, fun i j h1 h2 => ((hz i j).choose_spec h1 h2).2, fun _ => ⟨x, rfl, fun i j h1 h2 => ((hz i j).choose_spec h1 h2).1⟩⟩
/-- A row of whole numbers, as the walk reads it. -/
theorem open_row {t e : TypeId} {k : IntKind} {a : Option Addr} {len cap : Nat} {d : DataW H} {ps : List MemPlace} (ht : P.underlying t = some (.slice e)) (he : P.underlying e = some (.int k)) (hc : P.cellsOf e = 1)
    (h : DataW.Trod enc P w base spare held t (.slice a len cap) d ps) :
    len ≤ cap ∧ len ≤ maxLen ∧ ∃ l : List Int, (∀ x ∈ l, (Lit.int k x).wf = true) ∧ l.length = len ∧ (Kd.int k).C w a l.length l := by
  obtain ⟨fuel, hf⟩ := h
  rcases Go.ChangeShapes.open_ints ht he hc hf with ⟨hcs, _⟩ | ⟨x, l, c, zs, hcs, _, hl, hm, hz, _, hcell, hw⟩
  · simp [Value.cells] at hcs
    obtain ⟨rfl, rfl, rfl⟩ := hcs
    exact ⟨Nat.le_refl _, Nat.zero_le _, [], fun x hx => (List.not_mem_nil hx).elim, rfl, Kd.C_nil _ _⟩
  · simp [Value.cells] at hcs
    obtain ⟨rfl, rfl, rfl⟩ := hcs
    have hlz : len ≤ zs.length := by rw [hz]; split <;> omega
    have hlen : (zs.take len).length = len := by rw [List.length_take]; omega
    refine ⟨hl, Nat.le_trans hl hm, zs.take len, fun n hn => hw n (List.mem_of_mem_take hn), hlen, ?_⟩
    refine Kd.C_of_reads (d := (0 : Int)) ⟨rfl, by rw [hlen]; unfold maxLen at hm; omega, fun _ => ⟨x, rfl, fun j hj => ?_⟩⟩
    rw [hlen] at hj
    have e1 := hcell j (by omega)
    have e2 : (zs.take len).getD j 0 = zs.getD j 0 := by
      simp only [List.getD_eq_getElem?_getD, List.getElem?_take, if_pos hj]
    rw [e2]
    exact e1
/-- The same, of one reading. -/
theorem open_nums_at {t e : TypeId} {fs : Array Field} {a : Option Addr} {len cap fuel : Nat} {x : DataW H × List MemPlace} (ht : P.underlying t = some (.slice e)) (he : P.underlying e = some (.struct fs))
    (hone : oneCellFields P fs = true) (hC : P.cellsOf e = fs.size) (hi : ∀ (j : Nat) (f : Field), fs[j]? = some f → P.underlying f.type = some (.int .i64))
    (hf : DataW.trod enc P w base spare held fuel t [.slice a len cap] = some x) :
    len ≤ cap ∧ len ≤ maxLen ∧ ∃ z : Nat → Nat → Int, (∀ i j, i < len → j < fs.size → (Lit.int .i64 (z i j)).wf = true) ∧
      (0 < len → ∃ ad, a = some ad ∧ ∀ i j, i < len → j < fs.size → w.cell? (ad.add (i * fs.size + j)) = some (.int .i64 (z i j))) :=
  open_nums (d := x.1) (ps := x.2) ht he hone hC hi ⟨fuel, by simpa [Value.cells] using hf⟩

/-- A struct of one slice. -/
theorem open_one {r : Reach} {b0 : Nat} {t e : TypeId} {f0 : Field} {v : Value} {d : DataW H} {p : List MemPlace} (hs : P.underlying t = some (.struct #[f0])) (hf0 : P.underlying f0.type = some (.slice e)) (hone : oneCellFields P #[f0] = true) (hC : P.cellsOf t = 1)
    (hv : Value.okWide P w r b0 t v) (h : DataW.Trod enc P w base spare held t v d p) :
    ∃ (a : Option Addr) (len cap : Nat) (y : DataW H × List MemPlace) (n : Nat), v = .agg #[.slice a len cap] ∧ DataW.trod enc P w base spare held n f0.type [.slice a len cap] = some y := by
  obtain ⟨cs, rfl, hsz⟩ := okWide_struct hs hv
  rw [hC] at hsz
  obtain ⟨c0, rfl⟩ : ∃ c, cs = #[c] := Array.size_eq_one_iff.mp hsz
  obtain ⟨fuel, hf⟩ := h
  obtain ⟨ys, n', hn', hy, hlen, hyl, hg⟩ := DataW.trod_struct hs hf
  obtain ⟨o0, k0⟩ := hone_of hone 0 f0 rfl
  have h1 := hg 0 f0 rfl
  rw [o0, k0] at h1
  have hv1 : (List.drop 0 (Value.agg #[c0]).cells.toList).take 1 = [c0] := rfl
  have h2 : DataW.trod enc P w base spare held n' f0.type [c0] = ys[0]? := h1
  have hys : ys[0]? = some (ys[0]'(by rw [hyl]; exact Nat.zero_lt_one)) := List.getElem?_eq_getElem _
  rw [hys] at h2
  rcases open_slice hf0 h2 with h0 | ⟨a, len, cap, m, n, D, Pl, hcs, _⟩
  · have := h0.1
    simp at this
    subst this
    exact ⟨none, 0, 0, _, n', rfl, h2⟩
  · simp at hcs
    subst hcs
    exact ⟨some a, len, cap, _, n', rfl, h2⟩
/-- A desk: a struct of two whole numbers, a whole number and a text. -/
theorem open_desk {r : Reach} {b0 : Nat} {t : TypeId} {F0 F1 F2 G0 G1 : Field} {v : Value} {d : DataW H} {p : List MemPlace} (hs : P.underlying t = some (.struct #[F0, F1, F2])) (hs0 : P.underlying F0.type = some (.struct #[G0, G1]))
    (g0 : P.underlying G0.type = some (.int .i64)) (g1 : P.underlying G1.type = some (.int .i64)) (f1 : P.underlying F1.type = some (.int .i64)) (f2 : P.underlying F2.type = some .string) (hone : oneCellFields P #[G0, G1] = true)
    (hC : (P.cellsOf t == 4 && F0.offset == 0 && P.cellsOf F0.type == 2 && F1.offset == 2 && P.cellsOf F1.type == 1 && F2.offset == 3 && P.cellsOf F2.type == 1) = true)
    (hv : Value.okWide P w r b0 t v) (h : DataW.Trod enc P w base spare held t v d p) :
    ∃ (x0 x1 x2 : Int) (s : ByteArray), v = .agg #[.int .i64 x0, .int .i64 x1, .int .i64 x2, .string s] ∧ (Lit.int .i64 x0).wf = true ∧ (Lit.int .i64 x1).wf = true ∧ (Lit.int .i64 x2).wf = true ∧ s.size ≤ maxLen := by
  simp only [Bool.and_eq_true, beq_iff_eq] at hC
  obtain ⟨⟨⟨⟨⟨⟨q0, q1⟩, q2⟩, q3⟩, q4⟩, q5⟩, q6⟩ := hC
  obtain ⟨cs, rfl, hsz⟩ := okWide_struct hs hv
  obtain ⟨l⟩ := cs
  have hl4 : l.length = 4 := hsz.trans q0
  obtain ⟨c0, c1, c2, c3, rfl⟩ : ∃ c0 c1 c2 c3, l = [c0, c1, c2, c3] := by
    match l, hl4 with
    | [c0, c1, c2, c3], _ => exact ⟨c0, c1, c2, c3, rfl⟩
  obtain ⟨fuel, hf⟩ := h
  obtain ⟨ys, n', hn', hy, hlen, hyl, hg⟩ := DataW.trod_struct hs hf
  have hyl3 : ys.length = 3 := hyl
  have k0 := hg 0 F0 rfl
  have k1 := hg 1 F1 rfl
  have k2 := hg 2 F2 rfl
  rw [q1, q2] at k0
  rw [q3, q4] at k1
  rw [q5, q6] at k2
  have k0' : DataW.trod enc P w base spare held n' F0.type [c0, c1] = ys[0]? := k0
  have k1' : DataW.trod enc P w base spare held n' F1.type [c2] = ys[1]? := k1
  have k2' : DataW.trod enc P w base spare held n' F2.type [c3] = ys[2]? := k2
  rw [List.getElem?_eq_getElem (show 0 < ys.length by omega)] at k0'
  rw [List.getElem?_eq_getElem (show 1 < ys.length by omega)] at k1'
  rw [List.getElem?_eq_getElem (show 2 < ys.length by omega)] at k2'
  obtain ⟨x2, rfl, w2⟩ := read_i64 f1 k1'
  obtain ⟨s, hs1, _, hs2⟩ := DataW.trod_string f2 k2'
  simp only [List.cons.injEq, and_true] at hs1
  subst hs1
  obtain ⟨zs, n2, _, _, _, hzl, hz⟩ := DataW.trod_struct hs0 k0'
  have hzl2 : zs.length = 2 := hzl
  obtain ⟨o0, u0⟩ := hone_of hone 0 G0 rfl
  obtain ⟨o1, u1⟩ := hone_of hone 1 G1 rfl
  have m0 := hz 0 G0 rfl
  have m1 := hz 1 G1 rfl
  rw [o0, u0] at m0
  rw [o1, u1] at m1
  have m0' : DataW.trod enc P w base spare held n2 G0.type [c0] = zs[0]? := m0
  have m1' : DataW.trod enc P w base spare held n2 G1.type [c1] = zs[1]? := m1
  rw [List.getElem?_eq_getElem (show 0 < zs.length by omega)] at m0'
  rw [List.getElem?_eq_getElem (show 1 < zs.length by omega)] at m1'
  obtain ⟨x0, rfl, w0⟩ := read_i64 g0 m0'
  obtain ⟨x1, rfl, w1⟩ := read_i64 g1 m1'
  exact ⟨x0, x1, x2, s, rfl, w0, w1, w2, hs2⟩
end
end Go.Proofs.YtcgoaipbfnhjhaaGreatDoor.RowA

/- The row of the law FnLoopsListed: Loops are ranked in order, all of them are told and those that can be drawn counted, and joined loops are drawn if both are. -/
namespace Go.Proofs.YtcgoaipbfnhjhaaGreatDoor.fnLoopsListed
open Go.ChangeShapes Go.WideShapes Go.ChangeAt Go.RowKit Go.Proofs.YtcgoaipbfnhjhaaGreatDoor.Pr Go.Proofs.YtcgoaipbfnhjhaaGreatDoorW.PrintWords
open Go.ChangeMaps (open_string shut_string)
set_option linter.unusedVariables false
theorem own : ownKnob Tryz.prog.godebug = none := by kernel_rfl
theorem laidOut : laidOutB Tryz.prog = true := by kernel_rfl
set_option maxRecDepth 100000 in
theorem lifted (os : Os) (started : os.Started) (H : Type) (enc : TypeId × Value → H) :
    ReturnsInHanded {} Tryz.checked os 3 .any (fun w args => (Rows.fnLoopsListedSpec.pre enc Tryz.prog Tryz.f3 [] false w args ∧ laidMetH Tryz.prog Rows.fnLoopsListedRow.laid w) ∧ sizedMet enc Tryz.prog Tryz.f3 (OpenSpec.ofChange Rows.fnLoopsListedSpec) false w args) (Rows.fnLoopsListedSpec.post enc Tryz.prog Tryz.f3 false true false false) := by
  refine returnsInHanded_of_change_and (C := Tryz.checked) (X := fun w _ => laidMetH Tryz.prog Rows.fnLoopsListedRow.laid w) (fun _ _ _ hh h => h.of_heap hh) own started (by kernel_rfl) Tryz.func3
    (ChangeSpec.witness_shaped (enc := enc) (C := Tryz.checked) (os := os) (X := fun w _ => laidMetH Tryz.prog Rows.fnLoopsListedRow.laid w) false (World.laidAll Tryz.prog os Rows.fnLoopsListedRow.laid) #[.slice none 0 0, .slice none 0 0] 8 (World.laidAll_os _ _ _)
      (World.shaped_of_ZipB (by kernel_rfl) (by kernel_rfl)) (by kernel_rfl) (by kernel_rfl) (by kernel_rfl)
      (by rw [MakeChecks.laidMetH_plain _ _ _ (by kernel_rfl)]; exact laidMet_laidAll _ (by kernel_rfl) (by kernel_rfl))) ?_
  intro W base args ds gs before hval0 hW hcnd hsz0 hlaid _
  have hsz : (DataW.weightsEach Tryz.prog (Tryz.f3.params.toList ++ Rows.fnLoopsListedSpec.plain.varTypes Tryz.prog) (ds ++ gs)).all (· ≤ reachBytes) = true := hsz0
  have hval : ∀ (j : Nat) t v, Tryz.f3.params[j]? = some t → args[j]? = some v → Value.okWide Tryz.prog W .any base t v := hval0
  have hW' := hW
  obtain ⟨p, q, hA0, hV, rfl, hfz, hnd⟩ := hW
  have hA : DataW.TrodAll enc Tryz.prog W 0 (fun _ => true) true Tryz.f3.params.toList args.toList ds p := hA0
  rw [Tryz.params3] at hA hval hsz
  obtain ⟨v0, vs0, d0, ds0, p0, q0, hargs, rfl, rfl, h0, r0⟩ := trodAll_cons hA
  obtain ⟨v1, vs1, d1, ds1, p1, q1, rfl, rfl, rfl, h1, r1⟩ := trodAll_cons r0
  obtain ⟨rfl, rfl, rfl⟩ := trodAll_nil r1
  obtain rfl : args = #[v0, v1] := by cases args; simp_all
  obtain ⟨rfl, rfl⟩ := trodVars_none hV
  obtain ⟨b0, len0, cap0, rfl⟩ := okWide_slice Tryz.underlying22 (hval 0 22 v0 rfl rfl)
  have lt0 : ∀ x ∈ p0, x.block < W.heap.size := by obtain ⟨m, hm⟩ := h0; exact DataW.trod_lt m _ _ _ hm
  obtain ⟨hl0, hm0, l0, hw0, hn0, hr0⟩ := RowA.open_row (k := .u8) Tryz.underlying22 Tryz.underlying5 (by kernel_rfl) h0
  subst hn0
  obtain ⟨b1, len1, cap1, rfl⟩ := okWide_slice Tryz.underlying22 (hval 1 22 v1 rfl rfl)
  have lt1 : ∀ x ∈ p1, x.block < W.heap.size := by obtain ⟨m, hm⟩ := h1; exact DataW.trod_lt m _ _ _ hm
  obtain ⟨hl1, hm1, l1, hw1, hn1, hr1⟩ := RowA.open_row (k := .u8) Tryz.underlying22 Tryz.underlying5 (by kernel_rfl) h1
  subst hn1
  clear hA0 hval0 hsz0 hsz
  obtain ⟨k, hk⟩ := Pure.FnLoopsListed l0 l1 hm0 hw0 hm1 hw1
  refine (laws_FnLoopsListed.calls k _ _ l0 _ _ l1 true W hr0 hl0 hr1 hl1 hk).mono fun e W' he => ?_
  obtain ⟨he, bel0⟩ := he
  have bel : Below W.heap.size W W' := bel0
  subst he
  exact ⟨_, rfl, _, _, _, [], _, [], hW', trodAll_mk1 (shut_bool Tryz.underlying4 _), (trodAll_cons_mk (Below.trod laidOut (by kernel_rfl) (of_decide_eq_true (by kernel_rfl)) h0 bel lt0) (trodAll_cons_mk (Below.trod laidOut (by kernel_rfl) (of_decide_eq_true (by kernel_rfl)) h1 bel lt1) trodAll_mk0)), rfl, bel.frame _, fun h => by cases h⟩
theorem over : Rows.fnLoopsListedRow.holds Tryz.pinned (OpenSpec.ofChange Rows.fnLoopsListedSpec) :=
  OpenClaim.holds_of_wide 3 Tryz.f3 rfl rfl rfl rfl rfl rfl rfl ⟨rfl, rfl, rfl, rfl, rfl⟩ rfl rfl rfl rfl rfl (by kernel_rfl) Tryz.func3 (by kernel_rfl)
    (of_decide_eq_true (by kernel_rfl)) (by unfold Func.isWrapper; first | (rw [if_pos (by decide +kernel)]; kernel_rfl) | (rw [if_neg (by decide +kernel)]; exact ⟨rfl, rfl⟩))
    (fun os started H enc _ => lifted os started H enc)
theorem proved : Rows.FnLoopsListedSaid := over
theorem card_holds : Rows.FnLoopsListedCardSaid :=
  Claim7.holds_tied_plain_at .later [] [.data, .pinned] true (true, "484be979eb5d0110e8a26ef3e27895cbe156ac2638e0ebcaac341f1f8ef913b8") false
    proved (fun _ h => by cases h) (by kernel_rfl) (fun _ h => by cases h) fnLoopsListed_row_tie rfl ⟨rfl, rfl⟩ (by kernel_rfl) rfl
    (fun f fn hf hfn => by
      obtain rfl : f = 3 := Option.some.inj ((show Tryz.prog.funcNamed Rows.fnLoopsListedRow.func = some 3 by kernel_rfl).symm.trans hf) |>.symm
      obtain rfl : fn = Tryz.f3 := (Option.some.inj (Tryz.func3.symm.trans hfn)).symm
      exact ⟨by kernel_rfl, fun j t ht => by
        rw [Tryz.params3] at ht
        have hm : t ∈ [22, 22] := by simpa using Array.mem_of_getElem? ht
        have hall : ([22, 22].all fun u => !Tryz.prog.wantsStandIn u) = true := by kernel_rfl
        exact (show Tryz.prog.wantsStandIn t = false by simpa using List.all_eq_true.1 hall t hm)⟩)
    (by kernel_rfl)
end Go.Proofs.YtcgoaipbfnhjhaaGreatDoor.fnLoopsListed
namespace Go.Proofs.YtcgoaipbfnhjhaaGreatDoor
/-- The row, under a short name, for the claim. -/
theorem fnLoopsListed_holds : Rows.FnLoopsListedCardSaid := fnLoopsListed.card_holds
#print axioms fnLoopsListed_holds
end Go.Proofs.YtcgoaipbfnhjhaaGreatDoor
