/- The program's RankOfLoop returns what the reference's returns, for all arguments. Condition: none. -/
import Derived.Deep.Slices
import Derived.Deep.Fields
import Derived.ChangeSame
import Derived.ChangeShapes
import Derived.Below
import Derived.Carry
import Derived.Lib.SmallJoins
import Derived.RowKit
import Derived.OpenShut
import Derived.Test.YtkfllbbpclgffaaDoorCards
import Derived.Test.YtkfllbbpclgffaaDoorTie
import Derived.LaidMore
import Derived.Lay
import Derived.Stop.Joined
import Derived.Handed
import Derived.SevenTiedAt
import Derived.Test.YtkfllbbpclgffaaDoorRows
import Derived.WalkKit
import Derived.ProofKit
import Derived.ShutString
import Derived.ChangeOld
import Derived.SizedLaws
import Derived.ChangeSlices
import Derived.Test.YtkfllbbpclgffaaDoorKFnExactRankOfLoop0
import Derived.Test.YtkfllbbpclgffaaDoorKFnExactRankOfLoop1
/- What a loop is: the program and the reference tell the same. -/
namespace Go.Proofs.YtkfllbbpclgffaaDoor.M
open Go.RowKit Go.Proofs.YtkfllbbpclgffaaDoorW.PrintWords Go.Proofs.YtkfllbbpclgffaaDoor.Pr
set_option linter.unusedVariables false
set_option linter.unusedSimpArgs false

/-- A text that is a loop. -/
def goodS (w : ByteArray) : Bool := goodL (bytesOf w)
theorem anew_beq (w : ByteArray) (h : w.size ≤ 16) : ((anewS w).toList == w.toList) = (anew [] (bytesOf w) == bytesOf w) := by
  rw [toList_beq, bytesOf_anew w (by omega)]
theorem dropWhile_nil {α : Type} (p : α → Bool) : ∀ l : List α, l.dropWhile p = [] ↔ ∀ x ∈ l, p x = true
  | [] => by simp
  | x :: r => by
    rw [List.dropWhile_cons]
    cases h : p x with
    | true => simp [dropWhile_nil p r, h]
    | false => simp [h]
theorem trim_nil (l cs : List UInt8) : Lib.trimS l cs = [] ↔ ∀ x ∈ l, cs.contains x = true := by
  unfold Lib.trimS Lib.trimLeftS Lib.trimRightS
  rw [dropWhile_nil]
  constructor
  · intro h
    have h2 : (l.reverse.dropWhile (cs.contains ·)) = [] ∨ (l.reverse.dropWhile (cs.contains ·)) ≠ [] := Classical.em _
    rcases h2 with h2 | h2
    · rw [dropWhile_nil] at h2
      intro x hx
      exact h2 x (List.mem_reverse.2 hx)
    · exfalso
      have h3 : cs.contains ((l.reverse.dropWhile (cs.contains ·)).head h2) = false := List.head_dropWhile_not (cs.contains ·) h2
      rw [h _ (List.mem_reverse.2 (List.head_mem h2))] at h3
      cases h3
  · intro h x hx
    rw [List.mem_reverse] at hx
    exact h x (List.mem_reverse.1 ((List.dropWhile_sublist _).mem hx))
theorem isLoop_ev (w : ByteArray) : Ev (fun k => impl_IsLoop.f k w) (goodS w) := by
  unfold impl_IsLoop.f
  by_cases h16 : w.size ≤ 16
  · refine Ev.pos h16 ?_
    have hcon : ∀ b : UInt8, ([97, 98, 99, 100, 101, 102, 103, 104] : List UInt8).contains b = true ↔ 97 ≤ (b.toNat : Int) ∧ (b.toNat : Int) ≤ 104 := by
      intro b
      simp only [List.contains_iff_mem, List.mem_cons, List.not_mem_nil, or_false]
      constructor
      · rintro (rfl | rfl | rfl | rfl | rfl | rfl | rfl | rfl) <;> decide
      · intro h
        have e : b = UInt8.ofNat b.toNat := by simp
        obtain h | h | h | h | h | h | h | h : b.toNat = 97 ∨ b.toNat = 98 ∨ b.toNat = 99 ∨ b.toNat = 100 ∨ b.toNat = 101 ∨ b.toNat = 102 ∨ b.toNat = 103 ∨ b.toNat = 104 := by omega
        all_goals (rw [h] at e; subst e; simp)
    have htr : Lib.trimS w.data.toList [97, 98, 99, 100, 101, 102, 103, 104] = [] ↔ ∀ x ∈ bytesOf w, 97 ≤ x ∧ x ≤ 104 := by
      rw [trim_nil]
      unfold bytesOf
      constructor
      · intro h x hx
        obtain ⟨b, hb, rfl⟩ := List.mem_map.1 hx
        exact (hcon b).1 (h b hb)
      · intro h b hb
        exact (hcon b).2 (h _ (List.mem_map.2 ⟨b, hb, rfl⟩))
    have hmiss : (!((bytesOf w).any (missB w))) = (bytesOf w).all (fun x => (bytesOf w).count x == 2) := by
      rw [List.not_any_eq_all_not]
      have key : ∀ x ∈ bytesOf w, (!(missB w x)) = ((bytesOf w).count x == 2) := fun x hx => by
        have := bytesOf_byte w x hx
        unfold missB
        rw [count_eq w x this.1 this.2, Bool.eq_iff_iff]
        simp
        omega
      rw [Bool.eq_iff_iff, List.all_eq_true, List.all_eq_true]
      exact ⟨fun h x hx => (key x hx) ▸ h x hx, fun h x hx => (key x hx).symm ▸ h x hx⟩
    by_cases ht : Lib.trimS w.data.toList [97, 98, 99, 100, 101, 102, 103, 104] = []
    · have hz := htr.1 ht
      refine Ev.pos ⟨ht, fun x hx => by have := hz x hx; omega⟩ (Ev.bindk (named_ev w (by omega)) ?_)
      have hb := bytesOf_length w
      by_cases e : anewS w = w
      · refine Ev.pos e (Ev.val ?_)
        have e2 : anew [] (bytesOf w) = bytesOf w := by rw [← bytesOf_anew w (by omega), e]
        rw [hmiss]
        unfold goodS goodL
        rw [e2]
        simp [hb, h16]
      · refine Ev.neg e (Ev.val ?_)
        have e2 : anew [] (bytesOf w) ≠ bytesOf w := fun h => e (bytesOf_inj (by rw [bytesOf_anew w (by omega), h]))
        unfold goodS goodL
        rw [show (anew [] (bytesOf w) == bytesOf w) = false by simpa using e2]
        simp
    · refine Ev.neg (fun h => ht h.1) (Ev.neg ht (Ev.val ?_))
      have hg : goodS w = false := by
        cases hg : goodS w with
        | false => rfl
        | true => exact absurd (htr.2 (good_letters hg)) ht
      exact hg.symm
  · refine Ev.neg h16 (Ev.val ?_)
    unfold goodS goodL
    rw [decide_eq_false (by rw [bytesOf_length]; exact h16)]
    rfl

theorem good_l1 (w : ByteArray) (i : Int) (x : Int) (hi0 : 0 ≤ i) (hi : i < (w.size : Int)) (hx : bt w i = x) (hw : w.size ≤ 1000) (r : Bool)
    (hr : Ev (fun k => spec_loGood.l1 k w i (((bytesOf w).count x : Nat) : Int) (w.size : Int)) r) : Ev (fun k => spec_loGood.l1 k w i 0 0) r := by
  have hlen := bytesOf_length w
  have hcl : (bytesOf w).count x ≤ (bytesOf w).length := List.count_le_length
  have e := Ev.cpsB (fun k j (t : Int) => spec_loGood.l1 k w i t j) (fun k t => spec_loGood.l1 k w i t ((bytesOf w).length : Int)) (bytesOf w)
    (fun rest t => t + ((rest.count x : Nat) : Int)) (fun j t => 0 ≤ t ∧ t ≤ j)
    (fun t r _ hr => by simpa using hr)
    (fun j hj t hp => by
      have hgj := bytesOf_get w j hj
      generalize (bytesOf w)[j] = y at hgj ⊢
      by_cases e : y = x
      · refine ⟨t + 1, by omega, ?_, fun r hr2 => ?_⟩
        · subst e
          rw [List.count_cons_self]
          omega
        · refine Ev.step (fun k => by rw [spec_loGood.l1]) ?_
          refine Ev.pos (by omega) (Ev.pos (by omega) (Ev.pos hi0 (Ev.pos hi ?_)))
          rw [w64 (x := (j : Int) + 1) (by omega) (by omega), w64 (x := t + 1) (by omega) (by omega)]
          exact Ev.pos (by rw [hgj, hx]; exact e) hr2
      · refine ⟨t, by omega, ?_, fun r hr2 => ?_⟩
        · rw [List.count_cons, if_neg (by simpa using e)]
          omega
        · refine Ev.step (fun k => by rw [spec_loGood.l1]) ?_
          refine Ev.pos (by omega) (Ev.pos (by omega) (Ev.pos hi0 (Ev.pos hi ?_)))
          rw [w64 (x := (j : Int) + 1) (by omega) (by omega)]
          exact Ev.neg (by rw [hgj, hx]; exact e) hr2)
    (bytesOf w).length 0 0 r (by omega) (by omega) (by
      rw [List.drop_zero, hlen]
      simpa using hr)
  simpa using e
theorem loGood_l0 (w : ByteArray) (h16 : w.size ≤ 16) : Ev (fun k => spec_loGood.l0 k w 0) ((bytesOf w).all (fun x => (bytesOf w).count x == 2) && (anew [] (bytesOf w) == bytesOf w)) := by
  have hlen := bytesOf_length w
  exact Ev.scan0 (fun k i (_ : Unit) => spec_loGood.l0 k w i) (bytesOf w) (fun rest _ => rest.all (fun x => (bytesOf w).count x == 2) && (anew [] (bytesOf w) == bytesOf w)) (fun _ _ => True)
    (fun _ _ => by
      refine Ev.step (fun k => by rw [spec_loGood.l0]) ?_
      refine Ev.neg (by omega) (Ev.bindk (loAnew_ev w h16) (Ev.val ?_))
      rw [anew_beq w h16]
      rfl)
    (fun i hi _ _ => by
      have hx := bytesOf_get w i hi
      generalize (bytesOf w)[i] = x at hx ⊢
      have hstep : ∀ r, Ev (fun k => spec_loGood.l1 k w i (((bytesOf w).count x : Nat) : Int) (w.size : Int)) r → Ev (fun k => spec_loGood.l0 k w i) r := fun r hr => by
        refine Ev.step (fun k => by rw [spec_loGood.l0]) ?_
        exact Ev.pos (by omega) (good_l1 w i x (by omega) (by omega) hx (by omega) r hr)
      rw [List.all_cons]
      by_cases hc : (bytesOf w).count x = 2
      · refine .inl ⟨(), trivial, by rw [hc]; rfl, fun r hr => hstep r ?_⟩
        refine Ev.step (fun k => by rw [spec_loGood.l1]) ?_
        refine Ev.neg (by omega) (Ev.pos (by omega) ?_)
        rw [w64 (x := (i : Int) + 1) (by omega) (by omega)]
        exact hr
      · refine .inr (hstep _ ?_)
        refine Ev.step (fun k => by rw [spec_loGood.l1]) ?_
        refine Ev.neg (by omega) (Ev.neg (by omega) (Ev.val ?_))
        rw [show ((bytesOf w).count x == 2) = false by simpa using hc]
        rfl)
    () trivial
theorem loGood_ev (w : ByteArray) : Ev (fun k => spec_loGood.f k w) (goodS w) := by
  unfold spec_loGood.f
  have hlen := bytesOf_length w
  by_cases h16 : w.size ≤ 16
  · refine Ev.neg (by omega) ?_
    refine Ev.step (fun k => by rw [spec_loGood.j0]) ?_
    by_cases he : w.size % 2 = 0
    · refine Ev.neg (by simp; omega) ?_
      have e := loGood_l0 w h16
      have e2 : goodS w = ((bytesOf w).all (fun x => (bytesOf w).count x == 2) && (anew [] (bytesOf w) == bytesOf w)) := by
        unfold goodS goodL
        rw [decide_eq_true (by omega), Bool.true_and, Bool.and_comm]
      rw [e2]
      exact e
    · refine Ev.pos (by simp; omega) (Ev.val ?_)
      cases hg : goodS w with
      | false => rfl
      | true => have := good_even hg; omega
  · refine Ev.pos (by omega) ?_
    refine Ev.step (fun k => by rw [spec_loGood.j0]) ?_
    refine Ev.pos rfl (Ev.val ?_)
    unfold goodS goodL
    rw [decide_eq_false (by rw [bytesOf_length]; exact h16)]
    rfl
theorem good_size {w : ByteArray} (h : goodS w = true) : w.size ≤ 16 := by
  have := bytesOf_length w
  unfold goodS goodL at h
  simp only [Bool.and_eq_true, decide_eq_true_eq] at h
  omega
end Go.Proofs.YtkfllbbpclgffaaDoor.M

/- The rank of a loop: what the reference's walk tells. -/
namespace Go.Proofs.YtkfllbbpclgffaaDoor.M
open Go.RowKit Go.Proofs.YtkfllbbpclgffaaDoor.Pr Go.Proofs.YtkfllbbpclgffaaDoorW.PrintWords
set_option linter.unusedVariables false
set_option linter.unusedSimpArgs false

theorem ahead_sorted (x : Int) : ∀ (O : List Int), O.Pairwise (· < ·) → x ∈ O → aheadL O x = O.idxOf x
  | a :: O, h, hx => by
    rw [List.pairwise_cons] at h
    rw [List.idxOf_cons]
    unfold aheadL
    by_cases e : a = x
    · subst e
      rw [List.countP_cons_of_neg (by simp), List.countP_eq_zero.2 (fun y hy => by have := h.1 y hy; simp; omega)]
      simp
    · have hx2 : x ∈ O := by
        rcases List.mem_cons.1 hx with e2 | e2
        · exact absurd e2.symm e
        · exact e2
      have := h.1 x hx2
      rw [List.countP_cons_of_pos (by simpa using this), show (a == x) = false by simpa using e]
      have ih := ahead_sorted x O h.2 hx2
      unfold aheadL at ih
      rw [ih]
      rfl
theorem ahead_all (x : Int) (O : List Int) (h : ∀ y ∈ O, y < x) : aheadL O x = O.length := by
  unfold aheadL
  exact List.countP_eq_length.2 (fun y hy => by simpa using h y hy)
theorem rank_l1 (w opn : ByteArray) (m i j : Nat) (O : List Int) (x : Int) (hO : bytesOf opn = O) (hnd : O.Nodup) (hi : i < (bytesOf w).length) (hx : (bytesOf w)[i] = x) (hw : w.size = 2 * m) (hm : m ≤ 8) (hj : j ≤ m) (hol : O.length ≤ j) (r : Int × Bool) :
    ∀ (d kk : Nat) (q : Int), kk + d = O.length → (∀ n (h : n < O.length), n < kk → O[n] ≠ x) → 0 ≤ q → q + 2027025 * (d : Int) ≤ 100000000000 →
      (if x ∈ O then Ev (fun k => spec_RankOfLoop.l0 k w (q + (((O.idxOf x - kk) * ways (m - j) (O.length - 1) : Nat) : Int)) (strOfNums (O.erase x)) (j : Int) ((i : Int) + 1)) r
        else Ev (fun k => spec_RankOfLoop.l0 k w (q + ((d * ways (m - j) (O.length - 1) : Nat) : Int)) (strOfNums (O ++ [x])) ((j : Int) + 1) ((i : Int) + 1)) r) →
      Ev (fun k => spec_RankOfLoop.l1 k w q opn (j : Int) (i : Int) false (kk : Int)) r
  | 0, kk, q, hd, hno, h0, h1, hr => by
    have hl := bytesOf_length w
    have hlo := bytesOf_length opn
    have hbo := bytesOf_byte opn
    have hx1 := bytesOf_one w i hi
    have hxb := bytesOf_byte w _ (List.getElem_mem hi)
    rw [hx] at hx1 hxb
    rw [hO] at hlo
    have hnx : x ∉ O := fun hxo => by
      obtain ⟨n, hn, e⟩ := List.getElem_of_mem hxo
      exact hno n hn (by omega) e
    rw [if_neg hnx] at hr
    have e1 : strOfNums (O ++ [x]) = opn ++ w.extract i (i + 1) := by
      refine bytesOf_inj ?_
      rw [bytesOf_append, hx1, hO, bytesOf_strOf _ (fun y hy => by
        rcases List.mem_append.1 hy with hy | hy
        · exact hbo y (hO ▸ hy)
        · obtain rfl : y = x := by simpa using hy
          exact hxb)]
    have hes : (w.extract i (i + 1)).size = 1 := by rw [← bytesOf_length, hx1]; rfl
    rw [e1] at hr
    refine Ev.step (fun k => by rw [spec_RankOfLoop.l1]) ?_
    refine Ev.neg (by omega) ?_
    refine Ev.step (fun k => by rw [spec_RankOfLoop.j2]) ?_
    refine Ev.neg (by simp) (Ev.neg (by simp) (Ev.pos (by omega) ?_))
    rw [w64 (x := (i : Int) + 1) (by omega) (by omega), w64 (x := (j : Int) + 1) (by omega) (by omega), show ((i : Int) + 1).toNat = i + 1 by omega, Int.toNat_natCast]
    refine Ev.pos (by omega) (Ev.pos (by omega) (Ev.pos (by omega) ?_))
    simpa using hr
  | d + 1, kk, q, hd, hno, h0, h1, hr => by
    have hl := bytesOf_length w
    have hlo := bytesOf_length opn
    have hbo := bytesOf_byte opn
    have hkl : kk < O.length := by omega
    have hgk : bt opn (kk : Int) = O[kk] := by
      subst hO
      exact bytesOf_get opn kk hkl
    have hgi : bt w (i : Int) = x := by rw [← hx]; exact bytesOf_get w i hi
    rw [hO] at hlo
    have hW : ways (m - j) (O.length - 1) ≤ 2027025 := ways_small _ _ (by omega)
    refine Ev.step (fun k => by rw [spec_RankOfLoop.l1]) ?_
    refine Ev.pos (by omega) ?_
    refine Ev.step (fun k => by rw [spec_RankOfLoop.j2]) ?_
    refine Ev.pos (by simp) (Ev.pos (by omega) (Ev.pos (by omega) (Ev.pos (by omega) (Ev.pos (by omega) ?_))))
    rw [hgk, hgi, w64 (x := (kk : Int) + 1) (by omega) (by omega)]
    by_cases e : O[kk] = x
    · have hxo : x ∈ O := e ▸ List.getElem_mem hkl
      have hix : O.idxOf x = kk := by
        rw [← e]
        exact hnd.idxOf_getElem kk hkl
      rw [if_pos hxo, hix, Nat.sub_self, Nat.zero_mul] at hr
      refine Ev.pos e (Ev.pos (by omega) (Ev.pos (by omega) (Ev.pos (by omega) ?_)))
      rw [show ((kk : Int) + 1).toNat = kk + 1 by omega, Int.toNat_natCast]
      have e1 : strOfNums (O.erase x) = opn.extract 0 kk ++ opn.extract (kk + 1) opn.size := by
        refine bytesOf_inj ?_
        rw [bytesOf_append, bytesOf_extract, bytesOf_extract, hO, bytesOf_strOf _ (fun y hy => hbo y (hO ▸ List.mem_of_mem_erase hy)), List.drop_zero, ← hlo, List.take_length, List.erase_eq_eraseIdx_of_idxOf hix, List.eraseIdx_eq_take_drop_succ]
      rw [e1] at hr
      refine Ev.pos (by simp only [ByteArray.size_extract]; omega) ?_
      refine Ev.step (fun k => by rw [spec_RankOfLoop.l1]) ?_
      have hgo : Ev (fun k => spec_RankOfLoop.j2 k w q (opn.extract 0 kk ++ opn.extract (kk + 1) opn.size) (j : Int) (i : Int) true ((kk : Int) + 1) false) r := by
        refine Ev.step (fun k => by rw [spec_RankOfLoop.j2]) ?_
        refine Ev.neg (by simp) (Ev.pos rfl ?_)
        rw [w64 (x := (i : Int) + 1) (by omega) (by omega)]
        simpa using hr
      by_cases hs : (kk : Int) + 1 < ((opn.extract 0 kk ++ opn.extract (kk + 1) opn.size).size : Int)
      · exact Ev.pos hs hgo
      · exact Ev.neg hs hgo
    · have eW := loWays_ev (m - j) (O.length - 1) (by omega)
      refine Ev.neg e ?_
      rw [w64 (x := (opn.size : Int) - 1) (by omega) (by omega), w64 (x := (w.size : Int) / 2) (by omega) (by omega), w64 (x := (w.size : Int) / 2 - (j : Int)) (by omega) (by omega), show (opn.size : Int) - 1 = ((O.length - 1 : Nat) : Int) by omega, show (w.size : Int) / 2 - (j : Int) = ((m - j : Nat) : Int) by omega]
      refine Ev.bindk eW ?_
      rw [w64 (by omega) (by omega)]
      have ih := rank_l1 w opn m i j O x hO hnd hi hx hw hm hj hol r d (kk + 1) (q + (ways (m - j) (O.length - 1) : Int)) (by omega) (fun n hn hlt => by
        by_cases en : n = kk
        · subst en; exact e
        · exact hno n hn (by omega)) (by omega) (by omega) (by
        by_cases hxo : x ∈ O
        · rw [if_pos hxo] at hr ⊢
          have hge : kk < O.idxOf x := by
            have hlt := List.idxOf_lt_length_iff.2 hxo
            have hgx := List.getElem_idxOf hlt
            by_cases hc : kk < O.idxOf x
            · exact hc
            · by_cases he : O.idxOf x = kk
              · exact absurd (by simpa [he] using hgx) e
              · exact absurd hgx (hno _ hlt (by omega))
          have e3 : (O.idxOf x - kk) * ways (m - j) (O.length - 1) = (O.idxOf x - (kk + 1)) * ways (m - j) (O.length - 1) + ways (m - j) (O.length - 1) := by
            rw [show O.idxOf x - kk = (O.idxOf x - (kk + 1)) + 1 by omega, Nat.add_mul, Nat.one_mul]
          rw [e3] at hr
          rw [show q + ((ways (m - j) (O.length - 1) : Nat) : Int) + (((O.idxOf x - (kk + 1)) * ways (m - j) (O.length - 1) : Nat) : Int) = q + (((O.idxOf x - (kk + 1)) * ways (m - j) (O.length - 1) + ways (m - j) (O.length - 1) : Nat) : Int) by omega]
          exact hr
        · rw [if_neg hxo] at hr ⊢
          rw [Nat.add_mul, Nat.one_mul] at hr
          rw [show q + ((ways (m - j) (O.length - 1) : Nat) : Int) + ((d * ways (m - j) (O.length - 1) : Nat) : Int) = q + ((d * ways (m - j) (O.length - 1) + ways (m - j) (O.length - 1) : Nat) : Int) by omega]
          exact hr)
      rw [show (((kk + 1 : Nat)) : Int) = (kk : Int) + 1 by omega] at ih
      exact ih
theorem rank_spec {w : ByteArray} {m : Nat} (h : M.Loop (bytesOf w) m) : ∀ (d i : Nat) (O : List Int) (j : Nat) (q : Int), i + d = w.size → Beg ((bytesOf w).take i) O j → j ≤ m → runL j ((bytesOf w).drop i) = some m → 0 ≤ q → q ≤ 33000000 * (i : Int) →
    Ev (fun k => spec_RankOfLoop.l0 k w q (strOfNums O) (j : Int) (i : Int)) (q + ((rankG m O j ((bytesOf w).drop i) : Nat) : Int), true)
  | 0, i, O, j, q, hd, hb, hj, hr, h0, h1 => by
    have hl := bytesOf_length w
    rw [List.drop_of_length_le (by omega)]
    refine Ev.step (fun k => by rw [spec_RankOfLoop.l0]) ?_
    refine Ev.neg (by omega) (Ev.val ?_)
    simp [rankG]
  | d + 1, i, O, j, q, hd, hb, hj, hr, h0, h1 => by
    have hl := bytesOf_length w
    have hlen := h.len
    have hf := h.few
    have hi : i < (bytesOf w).length := by omega
    have hol := hb.le
    have hby : ∀ y ∈ O, 0 ≤ y ∧ y < 256 := fun y hy => by
      have := (mem_abc j y).1 (hb.back hy)
      omega
    have hstep := hb.next h hi hr
    have hsorted : O.Pairwise (· < ·) := by rw [hb.op]; exact once_sorted _ _
    have hW : ways (m - j) (O.length - 1) ≤ 2027025 := ways_small _ _ (by omega)
    have hmul : ∀ z : Nat, z ≤ 8 → z * ways (m - j) (O.length - 1) ≤ 8 * 2027025 := fun z hz => Nat.mul_le_mul hz hW
    rw [List.drop_eq_getElem_cons hi, rankG]
    obtain ⟨x, hx⟩ : ∃ x, (bytesOf w)[i] = x := ⟨_, rfl⟩
    rw [hx] at hstep ⊢
    refine Ev.step (fun k => by rw [spec_RankOfLoop.l0]) ?_
    refine Ev.pos (by omega) ?_
    have key := rank_l1 w (strOfNums O) m i j O x (bytesOf_strOf O hby) hb.nodup hi hx (by omega) hf hj hol
    rcases hstep with ⟨a1, a2, a3, a4⟩ | ⟨a1, a2, a3, a4, a5⟩
    · rw [if_pos a1, ahead_sorted x O hsorted a1]
      have hlt := List.idxOf_lt_length_iff.2 a1
      refine key _ O.length 0 q (by omega) (fun n _ hn => by omega) h0 (by omega) ?_
      rw [if_pos a1, Nat.sub_zero]
      have hz := hmul (O.idxOf x) (by omega)
      generalize O.idxOf x * ways (m - j) (O.length - 1) = z at hz ⊢
      have ih := rank_spec h d (i + 1) _ j (q + (z : Int)) (by omega) a3 hj a4 (by omega) (by omega)
      rw [show q + (z : Int) + ((rankG m (O.erase x) j ((bytesOf w).drop (i + 1)) : Nat) : Int) = q + ((z + rankG m (O.erase x) j ((bytesOf w).drop (i + 1)) : Nat) : Int) by omega, show (((i + 1 : Nat)) : Int) = (i : Int) + 1 by omega] at ih
      exact ih
    · rw [if_neg a1, ahead_all x O (fun y hy => by have := (mem_abc j y).1 (hb.back hy); omega)]
      refine key _ O.length 0 q (by omega) (fun n _ hn => by omega) h0 (by omega) ?_
      rw [if_neg a1]
      have hz := hmul O.length (by omega)
      generalize O.length * ways (m - j) (O.length - 1) = z at hz ⊢
      have ih := rank_spec h d (i + 1) _ (j + 1) (q + (z : Int)) (by omega) a4 (by omega) a5 (by omega) (by omega)
      rw [show q + (z : Int) + ((rankG m (O ++ [x]) (j + 1) ((bytesOf w).drop (i + 1)) : Nat) : Int) = q + ((z + rankG m (O ++ [x]) (j + 1) ((bytesOf w).drop (i + 1)) : Nat) : Int) by omega, show (((i + 1 : Nat)) : Int) = (i : Int) + 1 by omega, show (((j + 1 : Nat)) : Int) = (j : Int) + 1 by omega] at ih
      exact ih
end Go.Proofs.YtkfllbbpclgffaaDoor.M

/- RankOfLoop: the plain law. -/
namespace Go.Proofs.YtkfllbbpclgffaaDoor.Pure
open Go.RowKit Go.Proofs.YtkfllbbpclgffaaDoor.Pr Go.Proofs.YtkfllbbpclgffaaDoorW.PrintWords Go.Proofs.YtkfllbbpclgffaaDoorW.PrintLast Go.Proofs.YtkfllbbpclgffaaDoor.M
set_option linter.unusedVariables false

def rankR (w : ByteArray) : Int × Bool := if goodS w = true then (((rankG (w.size / 2) [] 0 (bytesOf w) : Nat) : Int), true) else (0, false)
theorem FnExactRankOfLoop : ∀ (a0 : ByteArray), a0.size ≤ 140737488351232 → ∃ k, laws_FnExactRankOfLoop.f k a0 = some true := by
  intro w _
  refine Ev.rounds ?_
  unfold laws_FnExactRankOfLoop.f
  by_cases hb : (w.size : Int) > 1048576
  · exact Ev.pos hb (Ev.val rfl)
  · have hs : Ev (fun k => spec_RankOfLoop.f k w) (rankR w) := by
      unfold spec_RankOfLoop.f
      refine Ev.bindk (loGood_ev w) ?_
      by_cases h : goodS w = true
      · obtain ⟨m, hm⟩ := loop_of h
        have hl := bytesOf_length w
        have hlen := hm.len
        refine Ev.pos h ?_
        rw [rankR, if_pos h, show w.size / 2 = m by omega]
        have e := rank_spec hm w.size 0 [] 0 0 (by omega) (by rw [List.take_zero]; exact beg_nil) (by omega) (by rw [List.drop_zero]; exact hm.run) (by omega) (by omega)
        rw [List.drop_zero, Int.zero_add] at e
        exact e
      · refine Ev.neg h (Ev.val ?_)
        rw [rankR, if_neg h]
    have hi : Ev (fun k => impl_RankOfLoop.f k w) (rankR w) := by
      unfold impl_RankOfLoop.f
      refine Ev.bindk (isLoop_ev w) ?_
      by_cases h : goodS w = true
      · obtain ⟨m, hm⟩ := loop_of h
        have hl := bytesOf_length w
        have hlen := hm.len
        have hf := hm.few
        refine Ev.pos h (Ev.pos (by omega) ?_)
        rw [rankR, if_pos h, show w.size / 2 = m by omega]
        have e := rank_impl hm w.size 0 [] 0 0 (by omega) (by rw [List.take_zero]; exact beg_nil) (by omega) (by rw [List.drop_zero]; exact hm.run) (by omega) (by omega)
        rw [List.drop_zero, Int.zero_add] at e
        exact Ev.bindk e (Ev.val rfl)
      · refine Ev.neg h (Ev.val ?_)
        rw [rankR, if_neg h]
    refine Ev.neg hb (Ev.bindk hs (Ev.bindk hi ?_))
    exact Ev.pos rfl (Ev.neg (by simp) (Ev.val rfl))
end Go.Proofs.YtkfllbbpclgffaaDoor.Pure

/- Shared steps of the rows: an argument that is a slice of structs of whole numbers, read as a list of lists of numbers. -/
namespace Go.Proofs.YtkfllbbpclgffaaDoor.RowA
open Go.ChangeShapes Go.WideShapes Go.Deep Go.RowKit Go.Proofs.YtkfllbbpclgffaaDoorW.PrintWords
section
variable {H : Type} {enc : TypeId × Value → H} {P : Program} {w : World} {base : Nat} {spare : Nat → Bool} {held : Bool}

/-- A slice of structs whose fields are one cell each: nil, or an address with, for each element and each field, the cell and the field's own reading. -/
theorem open_cells {t e : TypeId} {fs : Array Field} {fuel : Nat} {cs : List Value} {x : DataW H × List MemPlace} (ht : P.underlying t = some (.slice e)) (he : P.underlying e = some (.struct fs))
    (hone : oneCellFields P fs = true) (hC : P.cellsOf e = fs.size) (h : DataW.trod enc P w base spare held fuel t cs = some x) :
    cs = [.slice none 0 0] ∨
    ∃ (a : Addr) (len cap : Nat), cs = [.slice (some a) len cap] ∧ len ≤ cap ∧ cap ≤ maxLen ∧
      ∀ i, i < len → ∃ n, ∀ (j : Nat) (f : Field), fs[j]? = some f → ∃ (v : Value) (y : DataW H × List MemPlace), w.cell? (a.add (i * fs.size + j)) = some v ∧ DataW.trod enc P w base spare held n f.type [v] = some y := by
  rcases open_slice ht h with h0 | ⟨a, len, cap, m, n, D, Pl, hcs, hb, hl, hm, hmm, hx, hi⟩
  · exact .inl h0.1
  · refine .inr ⟨a, len, cap, hcs, hl, hm, fun i hil => ?_⟩
    have him : i < m := by
      rw [hmm]
      split
      · omega
      · exact hil
    obtain ⟨cs', hc, ht'⟩ := hi i him
    rw [hC] at hc
    obtain ⟨ys, n', hn', hy, hlen, hyl, hf⟩ := DataW.trod_struct he ht'
    obtain ⟨_, hcl, hat⟩ := World.cells?_some hc
    refine ⟨n', fun j f hj => ?_⟩
    obtain ⟨ho, hk⟩ := hone_of hone j f hj
    have hjl : j < fs.size := (Array.getElem?_eq_some_iff.1 hj).1
    have hcell := hat j hjl
    have hv : cs'[j]? = some (cs'[j]'(by omega)) := List.getElem?_eq_getElem (by omega)
    have h1 := hf j f hj
    rw [ho, hk] at h1
    have hone' : (cs'.drop j).take 1 = [cs'[j]'(by omega)] := by
      rw [List.drop_eq_getElem_cons (by omega)]
      rfl
    rw [hone'] at h1
    have hys : ys[j]? = some (ys[j]'(by omega)) := List.getElem?_eq_getElem (by omega)
    refine ⟨_, _, ?_, h1.trans hys⟩
    rw [← Go.Deep.add_add, hcell, hv]

/-- One whole number's reading. -/
theorem read_i64 {t : TypeId} {n : Nat} {v : Value} {y : DataW H × List MemPlace} (hu : P.underlying t = some (.int .i64)) (h : DataW.trod enc P w base spare held n t [v] = some y) :
    ∃ z : Int, v = .int .i64 z ∧ (Lit.int .i64 z).wf = true := by
  obtain ⟨z, hz, _, hw⟩ := DataW.trod_int hu h
  simp at hz
  exact ⟨z, hz, hw⟩

/-- A slice of structs of m whole numbers, as it is handed over: the numbers by element and field. -/
theorem open_nums {t e : TypeId} {fs : Array Field} {a : Option Addr} {len cap : Nat} {d : DataW H} {ps : List MemPlace} (ht : P.underlying t = some (.slice e)) (he : P.underlying e = some (.struct fs))
    (hone : oneCellFields P fs = true) (hC : P.cellsOf e = fs.size) (hi : ∀ (j : Nat) (f : Field), fs[j]? = some f → P.underlying f.type = some (.int .i64))
    (h : DataW.Trod enc P w base spare held t (.slice a len cap) d ps) :
    len ≤ cap ∧ len ≤ maxLen ∧ ∃ z : Nat → Nat → Int, (∀ i j, i < len → j < fs.size → (Lit.int .i64 (z i j)).wf = true) ∧
      (0 < len → ∃ ad, a = some ad ∧ ∀ i j, i < len → j < fs.size → w.cell? (ad.add (i * fs.size + j)) = some (.int .i64 (z i j))) := by
  obtain ⟨fuel, hf⟩ := h
  rcases open_cells ht he hone hC hf with hcs | ⟨x, l, c, hcs, hl, hm, hcell⟩
  · simp [Value.cells] at hcs
    obtain ⟨rfl, rfl, rfl⟩ := hcs
    exact ⟨Nat.le_refl _, Nat.zero_le _, fun _ _ => 0, fun i j h => absurd h (Nat.not_lt_zero _), fun h => absurd h (Nat.not_lt_zero _)⟩
  · simp [Value.cells] at hcs
    obtain ⟨rfl, rfl, rfl⟩ := hcs
    refine ⟨hl, Nat.le_trans hl hm, ?_⟩
    have hz : ∀ i j, ∃ z : Int, i < len → j < fs.size → w.cell? (x.add (i * fs.size + j)) = some (.int .i64 z) ∧ (Lit.int .i64 z).wf = true := by
      intro i j
      by_cases h1 : i < len
      · by_cases h2 : j < fs.size
        · obtain ⟨n, hn⟩ := hcell i h1
          obtain ⟨v, y, hv, hy⟩ := hn j fs[j] (Array.getElem?_eq_getElem h2)
          obtain ⟨z, rfl, hw⟩ := read_i64 (hi j fs[j] (Array.getElem?_eq_getElem h2)) hy
          exact ⟨z, fun _ _ => ⟨hv, hw⟩⟩
        · exact ⟨0, fun _ h => absurd h h2⟩
      · exact ⟨0, fun h _ => absurd h h1⟩
    exact ⟨fun i j => (hz i j).choose, fun i j h1 h2 => ((hz i j).choose_spec h1 h2).2, fun _ => ⟨x, rfl, fun i j h1 h2 => ((hz i j).choose_spec h1 h2).1⟩⟩
/-- The same, of one reading. -/
theorem open_nums_at {t e : TypeId} {fs : Array Field} {a : Option Addr} {len cap fuel : Nat} {x : DataW H × List MemPlace} (ht : P.underlying t = some (.slice e)) (he : P.underlying e = some (.struct fs))
    (hone : oneCellFields P fs = true) (hC : P.cellsOf e = fs.size) (hi : ∀ (j : Nat) (f : Field), fs[j]? = some f → P.underlying f.type = some (.int .i64))
    (hf : DataW.trod enc P w base spare held fuel t [.slice a len cap] = some x) :
    len ≤ cap ∧ len ≤ maxLen ∧ ∃ z : Nat → Nat → Int, (∀ i j, i < len → j < fs.size → (Lit.int .i64 (z i j)).wf = true) ∧
      (0 < len → ∃ ad, a = some ad ∧ ∀ i j, i < len → j < fs.size → w.cell? (ad.add (i * fs.size + j)) = some (.int .i64 (z i j))) :=
  open_nums (d := x.1) (ps := x.2) ht he hone hC hi ⟨fuel, by simpa [Value.cells] using hf⟩

/-- A struct of one slice. -/
theorem open_one {r : Reach} {b0 : Nat} {t e : TypeId} {f0 : Field} {v : Value} {d : DataW H} {p : List MemPlace} (hs : P.underlying t = some (.struct #[f0])) (hf0 : P.underlying f0.type = some (.slice e)) (hone : oneCellFields P #[f0] = true) (hC : P.cellsOf t = 1)
    (hv : Value.okWide P w r b0 t v) (h : DataW.Trod enc P w base spare held t v d p) :
    ∃ (a : Option Addr) (len cap : Nat) (y : DataW H × List MemPlace) (n : Nat), v = .agg #[.slice a len cap] ∧ DataW.trod enc P w base spare held n f0.type [.slice a len cap] = some y := by
  obtain ⟨cs, rfl, hsz⟩ := okWide_struct hs hv
  rw [hC] at hsz
  obtain ⟨c0, rfl⟩ : ∃ c, cs = #[c] := Array.size_eq_one_iff.mp hsz
  obtain ⟨fuel, hf⟩ := h
  obtain ⟨ys, n', hn', hy, hlen, hyl, hg⟩ := DataW.trod_struct hs hf
  obtain ⟨o0, k0⟩ := hone_of hone 0 f0 rfl
  have h1 := hg 0 f0 rfl
  rw [o0, k0] at h1
  have hv1 : (List.drop 0 (Value.agg #[c0]).cells.toList).take 1 = [c0] := rfl
  have h2 : DataW.trod enc P w base spare held n' f0.type [c0] = ys[0]? := h1
  have hys : ys[0]? = some (ys[0]'(by rw [hyl]; exact Nat.zero_lt_one)) := List.getElem?_eq_getElem _
  rw [hys] at h2
  rcases open_slice hf0 h2 with h0 | ⟨a, len, cap, m, n, D, Pl, hcs, _⟩
  · have := h0.1
    simp at this
    subst this
    exact ⟨none, 0, 0, _, n', rfl, h2⟩
  · simp at hcs
    subst hcs
    exact ⟨some a, len, cap, _, n', rfl, h2⟩
end
end Go.Proofs.YtkfllbbpclgffaaDoor.RowA

/- The row of the law FnExactRankOfLoop: The program's RankOfLoop returns what the reference's returns, for all arguments. -/
namespace Go.Proofs.YtkfllbbpclgffaaDoor.fnExactRankOfLoop
open Go.ChangeShapes Go.WideShapes Go.ChangeAt Go.RowKit Go.Proofs.YtkfllbbpclgffaaDoor.Pr Go.Proofs.YtkfllbbpclgffaaDoorW.PrintWords
open Go.ChangeMaps (open_string shut_string)
set_option linter.unusedVariables false
theorem own : ownKnob Tryd.prog.godebug = none := by kernel_rfl
set_option maxRecDepth 100000 in
theorem lifted (os : Os) (started : os.Started) (H : Type) (enc : TypeId × Value → H) :
    ReturnsInHanded {} Tryd.checked os 6 .any (fun w args => (Rows.fnExactRankOfLoopSpec.pre enc Tryd.prog Tryd.f6 [] false w args ∧ laidMetH Tryd.prog Rows.fnExactRankOfLoopRow.laid w) ∧ sizedMet enc Tryd.prog Tryd.f6 (OpenSpec.ofChange Rows.fnExactRankOfLoopSpec) false w args) (Rows.fnExactRankOfLoopSpec.post enc Tryd.prog Tryd.f6 false true false false) := by
  refine returnsInHanded_of_change_and (C := Tryd.checked) (X := fun w _ => laidMetH Tryd.prog Rows.fnExactRankOfLoopRow.laid w) (fun _ _ _ hh h => h.of_heap hh) own started (by kernel_rfl) Tryd.func6
    (ChangeSpec.witness_shaped (enc := enc) (C := Tryd.checked) (os := os) (X := fun w _ => laidMetH Tryd.prog Rows.fnExactRankOfLoopRow.laid w) false (World.laidAll Tryd.prog os Rows.fnExactRankOfLoopRow.laid) #[.string ByteArray.empty] 8 (World.laidAll_os _ _ _)
      (World.shaped_of_ZipB (by kernel_rfl) (by kernel_rfl)) (by kernel_rfl) (by kernel_rfl) (by kernel_rfl)
      (by rw [MakeChecks.laidMetH_plain _ _ _ (by kernel_rfl)]; exact laidMet_laidAll _ (by kernel_rfl) (by kernel_rfl))) ?_
  intro W base args ds gs before hval0 hW hcnd hsz0 hlaid _
  have hsz : (DataW.weightsEach Tryd.prog (Tryd.f6.params.toList ++ Rows.fnExactRankOfLoopSpec.plain.varTypes Tryd.prog) (ds ++ gs)).all (· ≤ reachBytes) = true := hsz0
  have hval : ∀ (j : Nat) t v, Tryd.f6.params[j]? = some t → args[j]? = some v → Value.okWide Tryd.prog W .any base t v := hval0
  have hW' := hW
  obtain ⟨p, q, hA0, hV, rfl, hfz, hnd⟩ := hW
  have hA : DataW.TrodAll enc Tryd.prog W 0 (fun _ => true) true Tryd.f6.params.toList args.toList ds p := hA0
  rw [Tryd.params6] at hA hval hsz
  obtain ⟨v0, vs0, d0, ds0, p0, q0, hargs, rfl, rfl, h0, r0⟩ := trodAll_cons hA
  obtain ⟨rfl, rfl, rfl⟩ := trodAll_nil r0
  obtain rfl : args = #[v0] := by cases args; simp_all
  obtain ⟨rfl, rfl⟩ := trodVars_none hV
  obtain ⟨a0, rfl, rfl, rfl, y0⟩ := open_string Tryd.underlying9 (hval 0 9 v0 rfl rfl) h0
  have w0 : a0.size ≤ 140737488351232 := by
    have z := sized_string hsz (j := 0) (t := 9) rfl rfl
    rw [Array.length_toList] at z
    exact z
  clear hA0 hval0 hsz0 hsz
  obtain ⟨k, hk⟩ := Pure.FnExactRankOfLoop a0 w0
  refine (laws_FnExactRankOfLoop.calls k a0 true W  hk).mono fun e W' he => ?_
  obtain ⟨he, bel0⟩ := he
  have bel : Below W.heap.size W W' := bel0
  subst he
  exact ⟨_, rfl, _, _, _, [], _, [], hW', trodAll_mk1 (shut_bool Tryd.underlying4 _), (trodAll_cons_mk (shut_string Tryd.underlying9 y0) trodAll_mk0), rfl, bel.frame _, fun h => by cases h⟩
theorem over : Rows.fnExactRankOfLoopRow.holds Tryd.pinned (OpenSpec.ofChange Rows.fnExactRankOfLoopSpec) :=
  OpenClaim.holds_of_wide 6 Tryd.f6 rfl rfl rfl rfl rfl rfl rfl ⟨rfl, rfl, rfl, rfl, rfl⟩ rfl rfl rfl rfl rfl (by kernel_rfl) Tryd.func6 (by kernel_rfl)
    (of_decide_eq_true (by kernel_rfl)) (by unfold Func.isWrapper; first | (rw [if_pos (by decide +kernel)]; kernel_rfl) | (rw [if_neg (by decide +kernel)]; exact ⟨rfl, rfl⟩))
    (fun os started H enc _ => lifted os started H enc)
theorem proved : Rows.FnExactRankOfLoopSaid := over
theorem card_holds : Rows.FnExactRankOfLoopCardSaid :=
  Claim7.holds_tied_plain_at .later [] [.data, .pinned] true (true, "31d9a1dc8ffde667586e844323c58886a518d04f40daedfe91c3de4547a48eb1") false
    proved (fun _ h => by cases h) (by kernel_rfl) (fun _ h => by cases h) fnExactRankOfLoop_row_tie rfl ⟨rfl, rfl⟩ (by kernel_rfl) rfl
    (fun f fn hf hfn => by
      obtain rfl : f = 6 := Option.some.inj ((show Tryd.prog.funcNamed Rows.fnExactRankOfLoopRow.func = some 6 by kernel_rfl).symm.trans hf) |>.symm
      obtain rfl : fn = Tryd.f6 := (Option.some.inj (Tryd.func6.symm.trans hfn)).symm
      exact ⟨by kernel_rfl, fun j t ht => by
        rw [Tryd.params6] at ht
        have hm : t ∈ [9] := by simpa using Array.mem_of_getElem? ht
        have hall : ([9].all fun u => !Tryd.prog.wantsStandIn u) = true := by kernel_rfl
        exact (show Tryd.prog.wantsStandIn t = false by simpa using List.all_eq_true.1 hall t hm)⟩)
    (by kernel_rfl)
end Go.Proofs.YtkfllbbpclgffaaDoor.fnExactRankOfLoop
namespace Go.Proofs.YtkfllbbpclgffaaDoor
/-- The row, under a short name, for the claim. -/
theorem fnExactRankOfLoop_holds : Rows.FnExactRankOfLoopCardSaid := fnExactRankOfLoop.card_holds
#print axioms fnExactRankOfLoop_holds
end Go.Proofs.YtkfllbbpclgffaaDoor
