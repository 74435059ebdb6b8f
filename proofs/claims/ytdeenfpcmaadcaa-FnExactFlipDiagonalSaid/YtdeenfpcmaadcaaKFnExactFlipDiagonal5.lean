/- The program's FlipDiagonal returns what the reference's returns, for all arguments. Condition: none. -/
import Derived.Sort.Grow
import Derived.Shelf.SlSortCmp.InsertionK
import Derived.Shelf.SlGeneric
import Derived.Shelf.SlSortCmp.WholeK
import Derived.Ground.SlsfProg
import Derived.Test.YtdeenfpcmaadcaaProg
import Derived.Shelf.SlSortCmp.NoneTotal
import Derived.Deep.CutRange
import Derived.Lib.SlicesCompact
import Derived.Sort.LotA
import Derived.Deep.Slices
import Derived.Deep.Fields
import Derived.ChangeSame
import Derived.ChangeShapes
import Derived.Below
import Derived.Carry
import Derived.Lib.SmallJoins
import Derived.RowKit
import Derived.OpenShut
import Derived.Test.YtdeenfpcmaadcaaRows
import Derived.WalkKit
import Derived.ProofKit
import Derived.ShutString
import Derived.ChangeOld
import Derived.SizedLaws
import Derived.ChangeSlices
import Derived.Test.YtdeenfpcmaadcaaKFnExactFlipDiagonal0
import Derived.Test.YtdeenfpcmaadcaaKFnExactFlipDiagonal1
import Derived.Test.YtdeenfpcmaadcaaKFnExactFlipDiagonal2
import Derived.Test.YtdeenfpcmaadcaaKFnExactFlipDiagonal3
import Derived.Test.YtdeenfpcmaadcaaKFnExactFlipDiagonal4
set_option linter.unusedVariables false
set_option linter.unusedSimpArgs false
/- What the functions on chords of the program and of the reference compute, in plain words: valid sets. -/
namespace Go.Proofs.Ytdeenfpcmaadcaa.M
open Go.RowKit Go.Proofs.YtdeenfpcmaadcaaW.PrintWords Go.Proofs.Ytdeenfpcmaadcaa.Pr
theorem isChord_eq (p a b : Int) : impl_isChord.f p a b = some (okB p ⟨a, b⟩) := by
  unfold impl_isChord.f okB
  by_cases h : a ≥ 0
  · rw [if_pos h]
    by_cases h2 : a < b
    · rw [if_pos h2]; congr 1; rw [Bool.eq_iff_iff]; simp; omega
    · rw [if_neg h2]; congr 1; rw [Bool.eq_iff_iff]; simp; omega
  · rw [if_neg h]; congr 1; rw [Bool.eq_iff_iff]; simp; omega
theorem srIs_eq (p a b : Int) (hp : 3 ≤ p ∧ p ≤ 60) : spec_srIs.f p a b = some (okB p ⟨a, b⟩) := by
  unfold spec_srIs.f okB
  rw [w64 (by omega) (by omega), l1In_eq]
  simp only [Option.bind_some]
  by_cases h : inB a 0 (p - 1) = true
  · rw [if_pos h]
    have h' : 0 ≤ a ∧ a ≤ p - 1 := by simpa [inB] using h
    rw [w64 (by omega) (by omega), l1In_eq]
    simp only [Option.bind_some, inB]
    congr 1; rw [Bool.eq_iff_iff]; simp; omega
  · rw [if_neg h]
    have h' : ¬ (0 ≤ a ∧ a ≤ p - 1) := by simpa [inB] using h
    congr 1; rw [Bool.eq_iff_iff]; simp; omega
/-- A list of valid chords, each behind the one before. -/
def chain (p : Int) : Option Ch → List Ch → Bool
  | _, [] => true
  | prev, c :: r => okB p c && ((match prev with | none => true | some b => ltB b c) && chain p (some c) r)
def goodB (p : Int) (l : List Ch) : Bool := decide (3 ≤ p ∧ p ≤ 60) && (decide (l.length ≤ 40) && chain p none l)
/-- What stood before place i. -/
def before (l : List Ch) (i : Nat) (prev : Option Ch) : Prop := (i = 0 ∧ prev = none) ∨ ∃ h : i - 1 < l.length, 0 < i ∧ prev = some l[i - 1]
theorem before_next (l : List Ch) (i : Nat) (h : i < l.length) : before l (i + 1) (some l[i]) := .inr ⟨by simpa using h, by omega, by simp⟩
theorem areChords_ev (p : Int) (l : List Ch) (hl : l.length ≤ 9223372036854775807) : Ev (fun k => impl_AreChords.f k p l) (goodB p l) := by
  unfold impl_AreChords.f
  refine Ev.bindc (within_eq _ _ _) ?_
  by_cases hp : 3 ≤ p ∧ p ≤ 60
  · refine Ev.pos (by simpa [inB] using hp) ?_
    have e := Ev.scan0 (fun k i (_ : Option Ch) => impl_AreChords.l0 k p l l (l.length : Int) i) l (fun rest prev => chain p prev rest && decide (l.length ≤ 40)) (fun i prev => before l i prev)
      (fun prev _ => by
        refine Ev.step (fun k => by rw [impl_AreChords.l0]) ?_
        refine Ev.neg (by omega) (Ev.val ?_)
        rw [Bool.eq_iff_iff]
        simp only [chain, Bool.true_and, decide_eq_true_eq]
        omega)
      (fun i h prev hb => by
        have hr := rd_ch l i h
        by_cases hc : okB p l[i] = true
        · have hstep : ∀ r, (prev = none ∨ ∃ b, prev = some b ∧ ltB b l[i] = true) → Ev (fun k => impl_AreChords.l0 k p l l (l.length : Int) ((i : Int) + 1)) r → Ev (fun k => impl_AreChords.l0 k p l l (l.length : Int) (i : Int)) r := by
            intro r hpv hr2
            refine Ev.step (fun k => by rw [impl_AreChords.l0]) ?_
            refine Ev.pos (by omega) (Ev.pos (by omega) (Ev.pos (by omega) ?_))
            rw [hr]
            refine Ev.bindc (isChord_eq _ _ _) (Ev.pos hc ?_)
            rw [w64 (x := (i : Int) + 1) (by omega) (by omega)]
            rcases hb with ⟨hi0, hpn⟩ | ⟨h1, h0, hpn⟩
            · exact Ev.neg (by omega) hr2
            · have hx : wrap64 ((i : Int) - 1) = ((i - 1 : Nat) : Int) := by rw [w64 (by omega) (by omega)]; omega
              refine Ev.pos (by omega) ?_
              rw [hx, rd_ch l (i - 1) h1]
              refine Ev.pos (by omega) (Ev.pos (by omega) ?_)
              refine Ev.bindk (compareChords_ev _ _) ?_
              rcases hpv with hpv | ⟨b, hpv, hlt⟩
              · rw [hpv] at hpn; cases hpn
              · rw [hpv] at hpn
                obtain rfl := Option.some.inj hpn
                refine Ev.neg ?_ hr2
                rw [cmpC_ge, hlt]; simp
          cases prev with
          | none => exact .inl ⟨some l[i], before_next l i h, by simp [chain, hc], fun r hr2 => hstep r (.inl rfl) hr2⟩
          | some b =>
            by_cases hlt : ltB b l[i] = true
            · exact .inl ⟨some l[i], before_next l i h, by simp [chain, hc, hlt], fun r hr2 => hstep r (.inr ⟨b, rfl, hlt⟩) hr2⟩
            · refine .inr ?_
              rcases hb with ⟨hi0, hpn⟩ | ⟨h1, h0, hpn⟩
              · cases hpn
              · obtain rfl := Option.some.inj hpn
                refine Ev.step (fun k => by rw [impl_AreChords.l0]) ?_
                refine Ev.pos (by omega) (Ev.pos (by omega) (Ev.pos (by omega) ?_))
                rw [hr]
                have hx : wrap64 ((i : Int) - 1) = ((i - 1 : Nat) : Int) := by rw [w64 (by omega) (by omega)]; omega
                refine Ev.bindc (isChord_eq _ _ _) (Ev.pos hc (Ev.pos (by omega) ?_))
                rw [hx, rd_ch l (i - 1) h1]
                refine Ev.pos (by omega) (Ev.pos (by omega) (Ev.bindk (compareChords_ev _ _) (Ev.pos ?_ (Ev.val ?_))))
                · rw [cmpC_ge]; simpa using hlt
                · simp [chain, hlt]
        · refine .inr ?_
          refine Ev.step (fun k => by rw [impl_AreChords.l0]) ?_
          refine Ev.pos (by omega) (Ev.pos (by omega) (Ev.pos (by omega) ?_))
          rw [hr]
          refine Ev.bindc (isChord_eq _ _ _) (Ev.neg hc (Ev.val ?_))
          simp [chain, hc])
      none (.inl ⟨rfl, rfl⟩)
    have hg : goodB p l = (chain p none l && decide (l.length ≤ 40)) := by
      unfold goodB
      rw [Bool.and_comm (chain p none l)]
      simp [hp]
    rw [hg]
    exact e
  · refine Ev.neg (by simpa [inB] using hp) (Ev.val ?_)
    simp [goodB, hp]
theorem isSet_ev (p : Int) (l : List Ch) (hl : l.length ≤ 9223372036854775807) : Ev (fun k => impl_isSet.f k p l) (goodB p l) := by
  unfold impl_isSet.f impl_isCircle.f
  rw [within_eq]
  simp only [Option.bind_some]
  by_cases hp : 3 ≤ p ∧ p ≤ 60
  · refine Ev.pos (by simpa [inB] using hp) (Ev.bindk (areChords_ev p l hl) (Ev.now _))
  · refine Ev.neg (by simpa [inB] using hp) (Ev.val ?_)
    simp [goodB, hp]
theorem cdGood_ev (p : Int) (l : List Ch) (hl : l.length ≤ 9223372036854775807) : Ev (fun k => spec_cdGood.f k p l) (goodB p l) := by
  unfold spec_cdGood.f spec_srPoints.f
  rw [l1In_eq]
  simp only [Option.bind_some]
  by_cases hp : 3 ≤ p ∧ p ≤ 60
  · refine Ev.pos (by simpa [inB] using hp) ?_
    refine Ev.step (fun k => by rw [spec_cdGood.j0]) ?_
    by_cases h40 : l.length ≤ 40
    · refine Ev.neg (by simp; omega) ?_
      have e := Ev.scan0 (fun k i (_ : Option Ch) => spec_cdGood.l0 k p l l (l.length : Int) i) l (fun rest prev => chain p prev rest) (fun i prev => before l i prev)
        (fun prev _ => by
          refine Ev.step (fun k => by rw [spec_cdGood.l0]) ?_
          exact Ev.neg (by omega) (Ev.val (by simp [chain])))
        (fun i h prev hb => by
          have hr := rd_ch l i h
          by_cases hc : okB p l[i] = true
          · have hstep : ∀ r, (prev = none ∨ ∃ b, prev = some b ∧ ltB b l[i] = true) → Ev (fun k => spec_cdGood.l0 k p l l (l.length : Int) ((i : Int) + 1)) r → Ev (fun k => spec_cdGood.l0 k p l l (l.length : Int) (i : Int)) r := by
              intro r hpv hr2
              refine Ev.step (fun k => by rw [spec_cdGood.l0]) ?_
              refine Ev.pos (by omega) (Ev.pos (by omega) (Ev.pos (by omega) ?_))
              rw [hr]
              refine Ev.bindc (srIs_eq _ _ _ hp) (Ev.pos hc ?_)
              rw [w64 (x := (i : Int) + 1) (by omega) (by omega)]
              rcases hb with ⟨hi0, hpn⟩ | ⟨h1, h0, hpn⟩
              · exact Ev.neg (by omega) hr2
              · have hx : wrap64 ((i : Int) - 1) = ((i - 1 : Nat) : Int) := by rw [w64 (by omega) (by omega)]; omega
                refine Ev.pos (by omega) ?_
                rw [hx, rd_ch l (i - 1) h1]
                refine Ev.pos (by omega) (Ev.pos (by omega) ?_)
                refine Ev.bindc (srLess_eq _ _ _ _) ?_
                rcases hpv with hpv | ⟨b, hpv, hlt⟩
                · rw [hpv] at hpn; cases hpn
                · rw [hpv] at hpn
                  obtain rfl := Option.some.inj hpn
                  exact Ev.pos hlt hr2
            cases prev with
            | none => exact .inl ⟨some l[i], before_next l i h, by simp [chain, hc], fun r hr2 => hstep r (.inl rfl) hr2⟩
            | some b =>
              by_cases hlt : ltB b l[i] = true
              · exact .inl ⟨some l[i], before_next l i h, by simp [chain, hc, hlt], fun r hr2 => hstep r (.inr ⟨b, rfl, hlt⟩) hr2⟩
              · refine .inr ?_
                rcases hb with ⟨hi0, hpn⟩ | ⟨h1, h0, hpn⟩
                · cases hpn
                · obtain rfl := Option.some.inj hpn
                  refine Ev.step (fun k => by rw [spec_cdGood.l0]) ?_
                  refine Ev.pos (by omega) (Ev.pos (by omega) (Ev.pos (by omega) ?_))
                  rw [hr]
                  have hx : wrap64 ((i : Int) - 1) = ((i - 1 : Nat) : Int) := by rw [w64 (by omega) (by omega)]; omega
                  refine Ev.bindc (srIs_eq _ _ _ hp) (Ev.pos hc (Ev.pos (by omega) ?_))
                  rw [hx, rd_ch l (i - 1) h1]
                  refine Ev.pos (by omega) (Ev.pos (by omega) (Ev.bindc (srLess_eq _ _ _ _) (Ev.neg hlt (Ev.val ?_))))
                  simp [chain, hlt]
          · refine .inr ?_
            refine Ev.step (fun k => by rw [spec_cdGood.l0]) ?_
            refine Ev.pos (by omega) (Ev.pos (by omega) (Ev.pos (by omega) ?_))
            rw [hr]
            refine Ev.bindc (srIs_eq _ _ _ hp) (Ev.neg hc (Ev.val ?_))
            simp [chain, hc])
        none (.inl ⟨rfl, rfl⟩)
      have hg : goodB p l = chain p none l := by
        unfold goodB
        simp [hp, h40]
      rw [hg]
      exact e
    · refine Ev.pos (by simp; omega) (Ev.val ?_)
      simp [goodB, h40]
  · refine Ev.neg (by simpa [inB] using hp) ?_
    refine Ev.step (fun k => by rw [spec_cdGood.j0]) (Ev.pos rfl (Ev.val ?_))
    simp [goodB, hp]
/-- The chords of a valid set are valid. -/
theorem chain_ok (p : Int) : ∀ (l : List Ch) (prev : Option Ch), chain p prev l = true → ∀ c ∈ l, okB p c = true
  | [], _, _, _, h => by cases h
  | d :: r, prev, h, c, hc => by
    unfold chain at h
    simp only [Bool.and_eq_true] at h
    rcases List.mem_cons.1 hc with rfl | hc
    · exact h.1
    · exact chain_ok p r (some d) h.2.2 c hc
theorem good_ok {p : Int} {l : List Ch} (h : goodB p l = true) : (3 ≤ p ∧ p ≤ 60) ∧ l.length ≤ 40 ∧ ∀ c ∈ l, 0 ≤ c.f0 ∧ c.f0 < c.f1 ∧ c.f1 < p := by
  unfold goodB at h
  simp only [Bool.and_eq_true, decide_eq_true_eq] at h
  exact ⟨h.1, h.2.1, fun c hc => by simpa [okB] using chain_ok p l none h.2.2 c hc⟩
end Go.Proofs.Ytdeenfpcmaadcaa.M
/- How many chords cross. -/
namespace Go.Proofs.Ytdeenfpcmaadcaa.M
open Go.RowKit Go.Proofs.YtdeenfpcmaadcaaW.PrintWords Go.Proofs.Ytdeenfpcmaadcaa.Pr
theorem Ev.cps {α β γ : Type} (L : Nat → Int → β → Option γ) (K : Nat → β → Option γ) (xs : List α) (F : List α → β → β) (P : Nat → β → Prop)
    (h0 : ∀ acc r, P xs.length acc → Ev (fun k => K k (F [] acc)) r → Ev (fun k => L k (xs.length : Int) acc) r)
    (h1 : ∀ (i : Nat) (h : i < xs.length) (acc : β), P i acc → ∃ acc', P (i + 1) acc' ∧ F (xs[i] :: xs.drop (i + 1)) acc = F (xs.drop (i + 1)) acc' ∧ ∀ r, Ev (fun k => L k ((i : Int) + 1) acc') r → Ev (fun k => L k (i : Int) acc) r) :
    ∀ (d i : Nat) (acc : β) (r : γ), i + d = xs.length → P i acc → Ev (fun k => K k (F (xs.drop i) acc)) r → Ev (fun k => L k (i : Int) acc) r := by
  intro d
  induction d with
  | zero =>
    intro i acc r hi hp hr
    obtain rfl : i = xs.length := by omega
    rw [List.drop_length] at hr
    exact h0 acc r hp hr
  | succ d ih =>
    intro i acc r hi hp hr
    have hlt : i < xs.length := by omega
    rw [List.drop_eq_getElem_cons hlt] at hr
    obtain ⟨acc', hp', hF, hk⟩ := h1 i hlt acc hp
    rw [hF] at hr
    refine hk r ?_
    have e := ih (i + 1) acc' r (by omega) hp' hr
    rw [show (((i + 1 : Nat)) : Int) = (i : Int) + 1 from by omega] at e
    exact e
def cnt (c : Ch) (l : List Ch) : Nat := l.countP (crB c)
theorem cnt_pos {c d : Ch} (r : List Ch) (h : crB c d = true) : cnt c (d :: r) = cnt c r + 1 := by
  unfold cnt
  rw [List.countP_cons, if_pos h]
theorem cnt_neg {c d : Ch} (r : List Ch) (h : ¬ crB c d = true) : cnt c (d :: r) = cnt c r := by
  unfold cnt
  rw [List.countP_cons, if_neg h]
  rfl
theorem cnt_le (c : Ch) (l : List Ch) : cnt c l ≤ l.length := List.countP_le_length
theorem crossed_ev (l : List Ch) (c : Ch) (hl : l.length ≤ 4611686018427387904) : Ev (fun k => impl_crossed.f k l c.f0 c.f1) (cnt c l : Int) := by
  unfold impl_crossed.f
  have e := Ev.scan0 (fun k i (acc : Int) => impl_crossed.l0 k acc l (l.length : Int) i c.f0 c.f1) l (fun rest acc => acc + (cnt c rest : Int)) (fun i acc => 0 ≤ acc ∧ acc ≤ i)
    (fun acc hp => by
      refine Ev.step (fun k => by rw [impl_crossed.l0]) ?_
      exact Ev.neg (by omega) (Ev.val (by simp [cnt])))
    (fun i h acc hp => by
      have hr := rd_ch l i h
      by_cases hc : crB c l[i] = true
      · refine .inl ⟨acc + 1, ⟨by omega, by omega⟩, by rw [cnt_pos _ hc]; omega, fun r hr2 => ?_⟩
        refine Ev.step (fun k => by rw [impl_crossed.l0]) ?_
        refine Ev.pos (by omega) (Ev.pos (by omega) (Ev.pos (by omega) ?_))
        rw [hr]
        refine Ev.bindc (crossing_eq _ _) (Ev.pos hc ?_)
        rw [w64 (x := (i : Int) + 1) (by omega) (by omega), w64 (x := acc + 1) (by omega) (by omega)]
        exact hr2
      · refine .inl ⟨acc, ⟨by omega, by omega⟩, by rw [cnt_neg _ hc], fun r hr2 => ?_⟩
        refine Ev.step (fun k => by rw [impl_crossed.l0]) ?_
        refine Ev.pos (by omega) (Ev.pos (by omega) (Ev.pos (by omega) ?_))
        rw [hr]
        refine Ev.bindc (crossing_eq _ _) (Ev.neg hc ?_)
        rw [w64 (x := (i : Int) + 1) (by omega) (by omega)]
        exact hr2)
    0 ⟨by omega, by omega⟩
  simpa using e
/-- Pairs of chords that cross, each chord with those behind it. -/
def pairsN : List Ch → Nat
  | [] => 0
  | c :: r => cnt c r + pairsN r
/-- The same, each chord with those ahead of it. -/
def aheadN : List Ch → List Ch → Nat
  | _, [] => 0
  | pre, c :: r => cnt c pre + aheadN (pre ++ [c]) r
def withN (pre : List Ch) (l : List Ch) : Nat := (l.map fun c => cnt c pre).sum
theorem withN_cons (pre : List Ch) (c : Ch) : ∀ l : List Ch, withN (pre ++ [c]) l = withN pre l + cnt c l
  | [] => by simp [withN, cnt]
  | d :: r => by
    have ih := withN_cons pre c r
    unfold withN at *
    simp only [List.map_cons, List.sum_cons, ih]
    unfold cnt
    rw [List.countP_append, List.countP_cons]
    simp only [List.countP_cons, List.countP_nil, crB_comm c d]
    omega
theorem aheadN_eq : ∀ (l pre : List Ch), aheadN pre l = withN pre l + pairsN l
  | [], pre => by simp [aheadN, withN, pairsN]
  | c :: r, pre => by
    rw [aheadN, aheadN_eq r, withN_cons, pairsN]
    simp only [withN, List.map_cons, List.sum_cons]
    omega
theorem pairs_ahead (l : List Ch) : aheadN [] l = pairsN l := by
  rw [aheadN_eq]
  have : withN [] l = 0 := by
    unfold withN
    induction l with
    | nil => rfl
    | cons c r ih => rw [List.map_cons, List.sum_cons, ih]; rfl
  omega
theorem pairsN_le : ∀ l : List Ch, pairsN l ≤ l.length * l.length
  | [] => by simp [pairsN]
  | c :: r => by
    have h1 := pairsN_le r
    have h2 := cnt_le c r
    simp only [pairsN, List.length_cons]
    have : (r.length + 1) * (r.length + 1) = r.length * r.length + 2 * r.length + 1 := by
      rw [Nat.add_mul, Nat.mul_add]; omega
    omega
theorem crossings_evB (l : List Ch) (hl : l.length ≤ 1000) : Ev (fun k => impl_crossings.f k l) (pairsN l : Int) := by
  unfold impl_crossings.f
  have e := Ev.scan0 (fun k i (acc : Int × List Ch) => impl_crossings.l0 k l acc.1 l (l.length : Int) i) l (fun rest acc => acc.1 + (aheadN acc.2 rest : Int)) (fun i acc => acc.2 = l.take i ∧ 0 ≤ acc.1 ∧ acc.1 ≤ i * 1000)
    (fun acc hp => by
      refine Ev.step (fun k => by rw [impl_crossings.l0]) ?_
      exact Ev.neg (by omega) (Ev.val (by simp [aheadN])))
    (fun i h acc hp => by
      obtain ⟨hp1, hp2, hp3⟩ := hp
      have hr := rd_ch l i h
      have hcn := cnt_le l[i] (l.take i)
      have htl : (l.take i).length = i := by rw [List.length_take]; omega
      refine .inl ⟨(acc.1 + cnt l[i] (l.take i), l.take (i + 1)), ⟨rfl, by omega, by simp only; omega⟩, ?_, fun r hr2 => ?_⟩
      · rw [hp1, aheadN, List.take_succ_eq_append_getElem h]
        simp only
        omega
      · refine Ev.step (fun k => by rw [impl_crossings.l0]) ?_
        refine Ev.pos (by omega) (Ev.pos (by omega) (Ev.pos (by omega) (Ev.pos (by omega) ?_)))
        rw [hr, Int.toNat_natCast]
        refine Ev.bindk (crossed_ev (l.take i) l[i] (by omega)) ?_
        rw [w64 (x := (i : Int) + 1) (by omega) (by omega), w64 (x := acc.1 + (cnt l[i] (l.take i) : Int)) (by omega) (by omega)]
        exact hr2)
    (0, []) ⟨by simp, by omega, by simp⟩
  simp only [pairs_ahead, Int.zero_add] at e
  exact e
theorem crossings_ev (l : List Ch) (hl : l.length ≤ 40) : Ev (fun k => impl_crossings.f k l) (pairsN l : Int) := crossings_evB l (by omega)
end Go.Proofs.Ytdeenfpcmaadcaa.M
namespace Go.Proofs.Ytdeenfpcmaadcaa.Pr
open Go.RowKit Go.Proofs.YtdeenfpcmaadcaaW.PrintWords Go.Proofs.YtdeenfpcmaadcaaW.PrintLast Go.Proofs.YtdeenfpcmaadcaaW.PrintMore
attribute [local go_sem] max2_int min2_int max_two min_two max_three min_three max_four min_four
def slices_Compare_int_int.l0 : Nat → List Int → List Int → List Int → Int → Int → Option (Int)
 | 0, _, _, _, _, _ => none
 | k + 1, x0, x1, x9, x10, x11 => if x11 < x10 then (if 0 ≤ x11 then (if x11 < (x9.length : Int) then (if x11 ≥ (x1.length : Int) then (some 1) else (if x11 < (x1.length : Int) then ((cmp_Compare_int.f (rd x9 x11) (rd x1 x11)).bind fun t148 => (if t148 = 0 then (slices_Compare_int_int.l0 k x0 x1 x9 x10 (wrap64 (x11 + 1))) else (some t148))) else (none))) else (none)) else (none)) else (if (x0.length : Int) < (x1.length : Int) then (some (-1)) else (some 0))
def slices_Compare_int_int.f (k : Nat) (l0 : List Int) (l1 : List Int) : Option (Int) := slices_Compare_int_int.l0 k l0 l1 l0 (l0.length : Int) 0
theorem slices_Compare_int_int.mono_l : ∀ k, (∀ y0 y1 y2 y3 y4, LeO (slices_Compare_int_int.l0 k y0 y1 y2 y3 y4) (slices_Compare_int_int.l0 (k + 1) y0 y1 y2 y3 y4))
 | 0 => fun _ _ _ _ _ r h => by simp [slices_Compare_int_int.l0] at h
 | k + 1 => by
  have ih0 := slices_Compare_int_int.mono_l k
  ·intro y0 y1 y2 y3 y4
   unfold slices_Compare_int_int.l0
   repeat' first
   | (with_reducible exact ih0 _ _ _ _ _)
   | (with_reducible exact LeO.refl _)
   | (with_reducible exact LeO.none _)
   | (with_reducible refine LeO.ite ?_ ?_)
   | (with_reducible refine LeO.bind ?_ (fun _ => ?_))
   | exact ih0 _ _ _ _ _
   | exact LeO.none _
   | refine LeO.ite ?_ ?_
   | refine LeO.bind ?_ (fun _ => ?_)
theorem slices_Compare_int_int.mono : ∀ a0 a1 k, LeO (slices_Compare_int_int.f k a0 a1) (slices_Compare_int_int.f (k + 1) a0 a1) := by
 intro a0 a1 k
 have ih0 := slices_Compare_int_int.mono_l k
 unfold slices_Compare_int_int.f
 repeat' first
   | (with_reducible exact ih0 _ _ _ _ _)
   | (with_reducible exact LeO.refl _)
   | (with_reducible exact LeO.none _)
   | (with_reducible refine LeO.ite ?_ ?_)
   | (with_reducible refine LeO.bind ?_ (fun _ => ?_))
   | exact ih0 _ _ _ _ _
   | exact LeO.none _
   | refine LeO.ite ?_ ?_
   | refine LeO.bind ?_ (fun _ => ?_)
set_option maxHeartbeats 8000000 in
set_option maxRecDepth 100000 in
theorem slices_Compare_int_int.calls (k : Nat) (A0 : Option Addr) (c0 : Nat) (l0 : List Int) (A1 : Option Addr) (c1 : Nat) (l1 : List Int) (r : Int) (w : World) (hr0 : Kd.C (Kd.int .i64) w A0 l0.length l0) (hc0 : l0.length ≤ c0) (hr1 : Kd.C (Kd.int .i64) w A1 l1.length l1) (hc1 : l1.length ≤ c1) (h : slices_Compare_int_int.f k l0 l1 = some r) :
  Calls Try.prog 66 #[.slice A0 l0.length c0, .slice A1 l1.length c1] w fun e w' => e = .returned (.int .i64 r) ∧ Drawn0 w w' := by
 have HR0 := Aside0.mk hr0
 have HC0 := Aside0.mk hc0
 clear hr0 hc0
 have HR1 := Aside0.mk hr1
 have HC1 := Aside0.mk hc1
 clear hr1 hc1
 have H : (slices_Compare_int_int.l0 k l0 l1 l0 (l0.length : Int) 0) = some r := h
 clear h
 have H' := Aside0.mk H
 clear H
 go_enter Try.func66, Try.ntmps66
 go_wp2
 go_loopg [11] k (fun kq v11 w' => ∃ (x11_1 : Int), v11 = .int .i64 x11_1 ∧ Aside0 (slices_Compare_int_int.l0 kq l0 l1 l0 (l0.length : Int) x11_1 = some r) ∧ Aside0 (kq ≤ k) ∧ Drawn0 w w')
 case atStart => exact ⟨(0), (by first | rfl | (simp; done) | (simp [*]; done)), H', ⟨Nat.le_refl _⟩, by repeat (first | exact Drawn0.refl _ | apply Drawn0.step)⟩
 case round =>
  clear H'
  try clear c1
  try clear p2
  obtain ⟨x11_1, rfl, HA, HK1, ⟨m1, rfl⟩⟩ := hrel
  cases gk with
  | zero => exact absurd HA.out (by simp [slices_Compare_int_int.l0])
  | succ k1 =>
   have H := HA.out
   clear HA
   simp only [slices_Compare_int_int.l0] at H
   by_cases c3 : x11_1 < (l0.length : Int)
   ·rw [if_pos c3] at H
    have c3b0 : decide (x11_1 < (l0.length : Int)) = true := decide_eq_true c3
    clear c3
    by_cases c4 : 0 ≤ x11_1
    ·rw [if_pos c4] at H
     have c4b0 : decide (0 ≤ x11_1) = true := decide_eq_true c4
     clear c4
     by_cases c5 : x11_1 < (l0.length : Int)
     ·rw [if_pos c5] at H
      have c5b0 : decide (x11_1 < (l0.length : Int)) = true := decide_eq_true c5
      clear c5
      by_cases c6 : x11_1 ≥ (l1.length : Int)
      ·rw [if_pos c6] at H
       have c6b0 : decide ((l1.length : Int) ≤ x11_1) = true := decide_eq_true c6
       clear c6
       obtain rfl := oI H
       have p146 : 0 ≤ (x11_1 : Int) := of_decide_eq_true (by assumption)
       have q146 : x11_1 < (l0.length : Int) := of_decide_eq_true (by assumption)
       obtain ⟨ad146, e146, hx146_0⟩ := Kd.at_int HR0.out x11_1 p146 q146
       cases e146
       replace p146 := eq_true p146
       replace q146 := eq_true q146
       go_wp2
       go_ret
       exact ⟨by first | rfl | (simp; done) | (simp [*]; done), by repeat (first | exact Drawn0.refl _ | apply Drawn0.step)⟩
      ·rw [if_neg c6] at H
       have c6b0 : decide ((l1.length : Int) ≤ x11_1) = false := decide_eq_false c6
       clear c6
       by_cases c7 : x11_1 < (l1.length : Int)
       ·rw [if_pos c7] at H
        have c7b0 : decide (x11_1 < (l1.length : Int)) = true := decide_eq_true c7
        clear c7
        replace H := bI H
        obtain ⟨t148, A80, H⟩ := H
        replace H : (if t148 = 0 then (slices_Compare_int_int.l0 k1 l0 l1 l0 (l0.length : Int) (wrap64 (x11_1 + 1))) else (some t148)) = some r := H
        have A8 := Aside0.mk A80
        clear A80
        by_cases c9 : t148 = 0
        ·rw [if_pos c9] at H
         have c9b0 : (t148 == 0) = true := beq_iff_eq.mpr c9
         have c9b1 : (t148 != 0) = false := bne_eq_false_iff_eq.mpr c9
         clear c9
         have H' := Aside0.mk H
         clear H
         have p146 : 0 ≤ (x11_1 : Int) := of_decide_eq_true (by assumption)
         have q146 : x11_1 < (l0.length : Int) := of_decide_eq_true (by assumption)
         obtain ⟨ad146, e146, hx146_0⟩ := Kd.at_int HR0.out x11_1 p146 q146
         cases e146
         replace p146 := eq_true p146
         replace q146 := eq_true q146
         have p147 : 0 ≤ (x11_1 : Int) := of_decide_eq_true (by assumption)
         have q147 : x11_1 < (l1.length : Int) := of_decide_eq_true (by assumption)
         obtain ⟨ad147, e147, hx147_0⟩ := Kd.at_int HR1.out x11_1 p147 q147
         cases e147
         replace p147 := eq_true p147
         replace q147 := eq_true q147
         go_wp2_with (first | ((with_reducible refine gate_callee (f := 86) rfl ?_); refine goesL_ (some 26) rfl rfl Try.func86 (by kernel_rfl) rfl #[.int .i64 (rd l0 x11_1), .int .i64 (rd l1 x11_1)] rfl ar_ ?_; (with_reducible refine (cmp_Compare_int.calls (rd l0 x11_1) (rd l1 x11_1) t148 _ A8.out).mono ?_); rintro e w' ⟨rfl, ⟨nd, rfl⟩⟩; refine ⟨_, rfl, ?_⟩))
         go_roundg k1
         case measure => have := HK1.out; omega
         case rel => exact ⟨(wrap64 (x11_1 + 1)), (by first | rfl | (simp; done) | (simp [*]; done)), H', ⟨by have := HK1.out; omega⟩, by repeat (first | exact Drawn0.refl _ | apply Drawn0.step)⟩
        ·rw [if_neg c9] at H
         have c9b0 : (t148 == 0) = false := beq_eq_false_iff_ne.mpr c9
         have c9b1 : (t148 != 0) = true := bne_iff_ne.mpr c9
         obtain rfl := oI H
         have p146 : 0 ≤ (x11_1 : Int) := of_decide_eq_true (by assumption)
         have q146 : x11_1 < (l0.length : Int) := of_decide_eq_true (by assumption)
         obtain ⟨ad146, e146, hx146_0⟩ := Kd.at_int HR0.out x11_1 p146 q146
         cases e146
         replace p146 := eq_true p146
         replace q146 := eq_true q146
         have p147 : 0 ≤ (x11_1 : Int) := of_decide_eq_true (by assumption)
         have q147 : x11_1 < (l1.length : Int) := of_decide_eq_true (by assumption)
         obtain ⟨ad147, e147, hx147_0⟩ := Kd.at_int HR1.out x11_1 p147 q147
         cases e147
         replace p147 := eq_true p147
         replace q147 := eq_true q147
         go_wp2_with (first | ((with_reducible refine gate_callee (f := 86) rfl ?_); refine goesL_ (some 26) rfl rfl Try.func86 (by kernel_rfl) rfl #[.int .i64 (rd l0 x11_1), .int .i64 (rd l1 x11_1)] rfl ar_ ?_; (with_reducible refine (cmp_Compare_int.calls (rd l0 x11_1) (rd l1 x11_1) t148 _ A8.out).mono ?_); rintro e w' ⟨rfl, ⟨nd, rfl⟩⟩; refine ⟨_, rfl, ?_⟩))
         go_ret
         exact ⟨by first | rfl | (simp; done) | (simp [*]; done), by repeat (first | exact Drawn0.refl _ | apply Drawn0.step)⟩
       ·rw [if_neg c7] at H
        exact absurd H (by simp)
     ·rw [if_neg c5] at H
      exact absurd H (by simp)
    ·rw [if_neg c4] at H
     exact absurd H (by simp)
   ·rw [if_neg c3] at H
    have c3b0 : decide (x11_1 < (l0.length : Int)) = false := decide_eq_false c3
    clear c3
    by_cases c10 : (l0.length : Int) < (l1.length : Int)
    ·rw [if_pos c10] at H
     have c10b0 : decide ((l0.length : Int) < (l1.length : Int)) = true := decide_eq_true c10
     have c10b1 : decide (l0.length < l1.length) = true := decide_eq_true (Int.ofNat_lt.mp c10)
     clear c10
     obtain rfl := oI H
     go_wp2
     go_ret
     exact ⟨by first | rfl | (simp; done) | (simp [*]; done), by repeat (first | exact Drawn0.refl _ | apply Drawn0.step)⟩
    ·rw [if_neg c10] at H
     have c10b0 : decide ((l0.length : Int) < (l1.length : Int)) = false := decide_eq_false c10
     have c10b1 : decide (l0.length < l1.length) = false := decide_eq_false (fun h => c10 (Int.ofNat_lt.mpr h))
     clear c10
     obtain rfl := oI H
     go_wp2
     go_ret
     exact ⟨by first | rfl | (simp; done) | (simp [*]; done), by repeat (first | exact Drawn0.refl _ | apply Drawn0.step)⟩
end Go.Proofs.Ytdeenfpcmaadcaa.Pr
/- What the comparison of two regions says: which row of points is ahead. -/
namespace Go.Proofs.Ytdeenfpcmaadcaa.M
open Go.RowKit Go.Proofs.YtdeenfpcmaadcaaW.PrintWords Go.Proofs.Ytdeenfpcmaadcaa.Pr
def cmpL (a b : List Int) : Int := if lexB a b = true then -1 else if lexB b a = true then 1 else 0
theorem cmpI_eq (a b : Int) : cmp_Compare_int.f a b = some (if a < b then -1 else if a > b then 1 else 0) := by
  unfold cmp_Compare_int.f
  simp only [cmp_isNaN_int.f, Option.bind_some]
  split <;> rename_i h1 <;> (try split) <;> (try split) <;> (try split) <;> simp_all <;> omega
theorem cmpL_l0 (a b : List Int) (ha : a.length ≤ 1000000) : ∀ (d i : Nat), i + d = a.length → i ≤ b.length → a.take i = b.take i → Ev (fun k => slices_Compare_int_int.l0 k a b a (a.length : Int) (i : Int)) (cmpL a b)
  | 0, i, h, hb, he => by
    obtain rfl : i = a.length := by omega
    rw [List.take_length] at he
    refine Ev.step (fun k => by rw [slices_Compare_int_int.l0]) ?_
    refine Ev.neg (by omega) ?_
    obtain ⟨c, hc⟩ : ∃ c, b = a ++ c := ⟨b.drop a.length, by
      have e := (List.take_append_drop a.length b).symm
      rwa [← he] at e⟩
    subst hc
    cases c with
    | nil =>
      refine Ev.neg (by simp) (Ev.val ?_)
      rw [List.append_nil, cmpL, lexB_irrefl, if_neg (by decide), if_neg (by decide)]
    | cons x c =>
      refine Ev.pos (by rw [List.length_append, List.length_cons]; omega) (Ev.val ?_)
      have e := lexB_app [] (x :: c) a
      rw [List.append_nil] at e
      rw [cmpL, e]
      rfl
  | d + 1, i, h, hb, he => by
    have hi : i < a.length := by omega
    have hra := rd_int a i hi
    have ea : a = a.take i ++ a[i] :: a.drop (i + 1) := by rw [← List.drop_eq_getElem_cons hi, List.take_append_drop]
    refine Ev.step (fun k => by rw [slices_Compare_int_int.l0]) ?_
    refine Ev.pos (by omega) (Ev.pos (by omega) (Ev.pos (by omega) ?_))
    by_cases hib : i = b.length
    · refine Ev.pos (by omega) (Ev.val ?_)
      have eb : b = a.take i := by rw [he, hib, List.take_length]
      have e := lexB_app (a[i] :: a.drop (i + 1)) [] (a.take i)
      rw [List.append_nil, ← ea, ← eb] at e
      have e2 := lexB_app [] (a[i] :: a.drop (i + 1)) (a.take i)
      rw [List.append_nil, ← ea, ← eb] at e2
      rw [cmpL, e, e2]
      rfl
    · have hib2 : i < b.length := by omega
      have hrb := rd_int b i hib2
      have eb : b = a.take i ++ b[i] :: b.drop (i + 1) := by rw [he, ← List.drop_eq_getElem_cons hib2, List.take_append_drop]
      have e : lexB a b = lexB (a[i] :: a.drop (i + 1)) (b[i] :: b.drop (i + 1)) := by
        conv => lhs; rw [ea, eb]
        exact lexB_app _ _ _
      have e2 : lexB b a = lexB (b[i] :: b.drop (i + 1)) (a[i] :: a.drop (i + 1)) := by
        conv => lhs; rw [ea, eb]
        exact lexB_app _ _ _
      refine Ev.neg (by omega) (Ev.pos (by omega) (Ev.bindc (cmpI_eq _ _) ?_))
      rw [hra, hrb]
      by_cases hx : a[i] = b[i]
      · refine Ev.pos (by rw [if_neg (by omega), if_neg (by omega)]) ?_
        rw [w64 (by omega) (by omega)]
        have ih := cmpL_l0 a b ha d (i + 1) (by omega) (by omega) (by rw [List.take_succ_eq_append_getElem hi, List.take_succ_eq_append_getElem hib2, he, hx])
        rw [show ((i + 1 : Nat) : Int) = (i : Int) + 1 by omega] at ih
        exact ih
      · by_cases hl : a[i] < b[i]
        · refine Ev.neg (by rw [if_pos hl]; decide) (Ev.val ?_)
          rw [cmpL, e, lexB, if_neg hx, if_pos hl, if_pos (by simpa using hl)]
        · refine Ev.neg (by rw [if_neg hl, if_pos (by omega)]; decide) (Ev.val ?_)
          have q1 : lexB a b = false := by rw [e, lexB, if_neg hx]; simpa using hl
          have q2 : lexB b a = true := by rw [e2, lexB, if_neg (Ne.symm hx)]; simp; omega
          rw [cmpL, q1, q2, if_neg hl, if_pos (by omega), if_neg (by decide), if_pos rfl]
theorem cmpL_ev (a b : List Int) (ha : a.length ≤ 1000000) : Ev (fun k => slices_Compare_int_int.f k a b) (cmpL a b) := by
  unfold slices_Compare_int_int.f
  exact cmpL_l0 a b ha a.length 0 (by omega) (by omega) rfl
end Go.Proofs.Ytdeenfpcmaadcaa.M
namespace Go.Proofs.Ytdeenfpcmaadcaa.Pr
open Go.RowKit Go.Proofs.YtdeenfpcmaadcaaW.PrintWords Go.Proofs.YtdeenfpcmaadcaaW.PrintLast Go.Proofs.YtdeenfpcmaadcaaW.PrintMore
def Gw (w w' : World) : Prop := ∃ q os', w' = Sort.grow (w.drewN q) os'
theorem Gw.refl (w : World) : Gw w w := ⟨0, #[], by simp [Sort.grow, World.drewN]⟩
theorem Gw.drewN {w w' : World} (h : Gw w w') (n : Nat) : Gw w (w'.drewN n) := by
  obtain ⟨q, os, rfl⟩ := h
  exact ⟨q + n, os, by simp [Sort.grow, World.drewN, Nat.add_assoc]⟩
theorem Gw.alloc {w w' : World} (h : Gw w w') (o : Obj) : Gw w (w'.alloc o) := by
  obtain ⟨q, os, rfl⟩ := h
  exact ⟨q, os ++ #[o], by rw [Sort.alloc_eq_grow, Sort.grow_grow]⟩
set_option maxHeartbeats 4000000 in
set_option maxRecDepth 100000 in
theorem cmpR_calls (A B : Option Addr) (c e : Nat) (a b : List Int) (v1 v2 u1 u2 : Value) (W : World) (ha : Kd.C (Kd.int .i64) W A a.length a) (hc : a.length ≤ c) (hb : Kd.C (Kd.int .i64) W B b.length b) (he : b.length ≤ e) (hl : a.length ≤ 1000000) (o1 : v1.oneCell' = true) (o2 : v2.oneCell' = true) (p1 : u1.oneCell' = true) (p2 : u2.oneCell' = true) :
    Calls Try.prog 65 #[.agg #[.slice A a.length c, v1, v2], .agg #[.slice B b.length e, u1, u2]] W fun x w' => x = .returned (.int .i64 (M.cmpL a b)) ∧ Gw W w' := by
  have hu := Try.underlying54
  have HA := Aside0.mk ha
  have HB := Aside0.mk hb
  have HC := Aside0.mk (show a.length ≤ c ∧ b.length ≤ e from ⟨hc, he⟩)
  obtain ⟨K, hK⟩ := M.cmpL_ev a b hl
  have HK := Aside0.mk (hK K (Nat.le_refl K))
  clear ha hb hc he hK hl
  go_enter Try.func65, Try.ntmps65
  go_wp2_with (go_at_call 66; refine (slices_Compare_int_int.calls K A c a B e b (M.cmpL a b) _ (Kd.C_below (Kd.C_below HA.out (below_alloc (Below.refl _ _) _)) (below_alloc (Below.refl _ _) _)) HC.out.1 (Kd.C_below (Kd.C_below HB.out (below_alloc (Below.refl _ _) _)) (below_alloc (Below.refl _ _) _)) HC.out.2 HK.out).mono ?_; rintro x w' ⟨rfl, ⟨nd, rfl⟩⟩)
  go_ret
  exact ⟨rfl, (((Gw.refl W).alloc _).alloc _).drewN _⟩
end Go.Proofs.Ytdeenfpcmaadcaa.Pr
/- A row of elements that lie apart, laid open cell by cell and put together again in another order. -/
namespace Go.Proofs.Ytdeenfpcmaadcaa.Pr
open Go.RowKit Go.Sort Go.Proofs.YtdeenfpcmaadcaaW.PrintWords Go.Proofs.YtdeenfpcmaadcaaW.PrintLast Go.Proofs.YtdeenfpcmaadcaaW.PrintMore
/-- An element's cells, the element, its index. -/
abbrev CE (α : Type) := List Value × (α × Nat)
def CellsAt (W : World) (g sz : Nat) (cs : List (List Value)) : Prop := ∀ j (hj : j < cs.length) i, i < sz → W.cell? ⟨g, j * sz + i, none⟩ = cs[j][i]?
theorem idx_lt {j n i sz : Nat} (hj : j < n) (hi : i < sz) : j * sz + i < n * sz := by
  have := Nat.mul_le_mul_right sz (show j + 1 ≤ n from hj)
  rw [Nat.add_mul, Nat.one_mul] at this
  omega
theorem S_open {α : Type} {d : Kd α} {e : Nat} {W : World} {base : Nat} {ok : Nat → Prop} {v : Value} {xs : List α} (h : Kd.S d e W base ok v xs) :
    (v = .slice none 0 0 ∧ xs = []) ∨ ∃ (f : Nat → Nat) (g cap : Nat) (cur : Array Value) (cs : List (CE α)), v = .slice (some ⟨g, 0, none⟩) xs.length cap ∧ ok g ∧ base ≤ g ∧ W.heap[g]? = some (.cells cur e (0, 0)) ∧ xs.length ≤ cap ∧ cap ≤ maxLen ∧ cur.size = cap * d.sz ∧
      cs.map (·.2) = xs.zipIdx ∧ (∀ c ∈ cs, d.M W base (fun k => (ok k ∧ k ≠ g) ∧ f k = c.2.2) c.2.1 c.1) ∧ CellsAt W g d.sz (cs.map (·.1)) := by
  obtain ⟨f, h0, inner, ⟨hl, hv⟩, hr⟩ := h
  rw [List.length_zipIdx] at hl hv
  rcases hv with ⟨rfl, hn⟩ | ⟨g, cap, cur, rfl, hg, hb, hn, hm, hs, ht⟩
  · exact .inl ⟨rfl, List.eq_nil_of_length_eq_zero hn⟩
  · refine .inr ⟨f, g, cap, cur, xs.zipIdx.map (fun q => ((inner.drop (q.2 * d.sz)).take d.sz, q)), rfl, h0 g rfl, hg, hb, hn, hm, hs, ?_, fun c hc => ?_, fun j hj i hi => ?_⟩
    · rw [List.map_map]
      exact List.map_id _
    · obtain ⟨q, hq, rfl⟩ := List.mem_map.1 hc
      obtain ⟨x, i⟩ := q
      have hq2 := List.mem_zipIdx' hq
      have hz : xs.zipIdx[i]? = some (x, i) := Kd.zip_at (by rw [hq2.2]; exact List.getElem?_eq_getElem hq2.1)
      have hM := hr.2 i (x, i) hz
      exact d.M_mono (fun k hk => ⟨⟨hk.1.1, fun e => hk.1.2 (by rw [e]; rfl)⟩, hk.2⟩) hM
    · simp only [List.length_map, List.length_zipIdx] at hj
      have hlt := idx_lt hj hi
      simp only [List.getElem_map, List.getElem_zipIdx, Nat.zero_add]
      change cur.toList.take (xs.length * d.sz) = inner at ht
      rw [List.getElem?_take_of_lt hi, List.getElem?_drop, blk_cell hb, ← ht]
      rw [List.getElem?_take_of_lt hlt, Array.getElem?_toList]
theorem S_shut {α : Type} {d : Kd α} {e : Nat} {W : World} {base g cap : Nat} {ok : Nat → Prop} {cur : Array Value} {cs : List (CE α)} {f : Nat → Nat} (hok : ok g) (hg : base ≤ g) (hb : W.heap[g]? = some (.cells cur e (0, 0))) (hn : cs.length ≤ cap) (hm : cap ≤ maxLen) (hs : cur.size = cap * d.sz)
    (hnd : (cs.map (·.2.2)).Nodup) (hM : ∀ c ∈ cs, d.M W base (fun k => (ok k ∧ k ≠ g) ∧ f k = c.2.2) c.2.1 c.1) (hc : CellsAt W g d.sz (cs.map (·.1))) :
    Kd.S d e W base ok (.slice (some ⟨g, 0, none⟩) cs.length cap) (cs.map (·.2.1)) := by
  classical
  obtain ⟨f', hf⟩ : ∃ f' : Nat → Nat, ∀ (i : Nat) (hi : i < cs.length) (k : Nat), f k = cs[i].2.2 → f' k = i := by
    refine ⟨fun k => if hx : ∃ i, ∃ hi : i < cs.length, f k = cs[i].2.2 then Classical.choose hx else 0, fun i hi k hk => ?_⟩
    have hx : ∃ i, ∃ hi : i < cs.length, f k = cs[i].2.2 := ⟨i, hi, hk⟩
    simp only [dif_pos hx]
    obtain ⟨hj, ek⟩ := Classical.choose_spec hx
    have hp := List.pairwise_iff_getElem.1 hnd
    rcases Nat.lt_trichotomy (Classical.choose hx) i with hlt | heq | hgt
    · exact absurd (ek.symm.trans hk) (by have := hp _ _ (by rw [List.length_map]; exact hj) (by rw [List.length_map]; exact hi) hlt; simpa only [List.getElem_map] using this)
    · exact heq
    · exact absurd (hk.symm.trans ek) (by have := hp _ _ (by rw [List.length_map]; exact hi) (by rw [List.length_map]; exact hj) hgt; simpa only [List.getElem_map] using this)
  have hle : cs.length * d.sz ≤ cur.toList.length := by
    have e : cur.toList.length = cap * d.sz := by rw [Array.length_toList]; exact hs
    rw [e]; exact Nat.mul_le_mul_right _ hn
  have hli : (cur.toList.take (cs.length * d.sz)).length = cs.length * d.sz := by rw [List.length_take]; exact Nat.min_eq_left hle
  refine ⟨f', fun k hk => by have : g = k := by simpa [Value.ownBlock] using hk
                             subst this; exact hok, cur.toList.take (cs.length * d.sz), ?_, ?_, fun j p hj => ?_⟩
  · rw [List.length_zipIdx, List.length_map]
    exact ⟨hli, .inr ⟨g, cap, cur, rfl, hg, hb, hn, hm, hs, rfl⟩⟩
  · rw [List.length_zipIdx, List.length_map]; exact hli
  · rw [List.getElem?_zipIdx, Nat.zero_add] at hj
    obtain ⟨x, hx, rfl⟩ := Option.map_eq_some_iff.1 hj
    rw [List.getElem?_map] at hx
    obtain ⟨c, hcj, rfl⟩ := Option.map_eq_some_iff.1 hx
    have hjl : j < cs.length := (List.getElem?_eq_some_iff.1 hcj).1
    have hcj2 : cs[j] = c := (List.getElem?_eq_some_iff.1 hcj).2
    have hMc := hM c (List.mem_of_getElem? hcj)
    have hlen := d.K_len (d.K_of_M hMc)
    have e1 : ((cur.toList.take (cs.length * d.sz)).drop (j * d.sz)).take d.sz = c.1 := by
      apply List.ext_getElem?
      intro q
      by_cases hq : q < d.sz
      · have h1 := hc j (by rw [List.length_map]; exact hjl) q hq
        rw [blk_cell hb, List.getElem_map, hcj2] at h1
        rw [List.getElem?_take_of_lt hq, List.getElem?_drop, List.getElem?_take_of_lt (idx_lt hjl hq), Array.getElem?_toList, h1]
      · rw [List.getElem?_eq_none (by rw [List.length_take]; omega), List.getElem?_eq_none (by omega)]
    show d.M W base _ c.2.1 _
    rw [show (Kd.tag f' d).sz = d.sz from rfl, e1]
    refine d.M_mono (fun k hk => ⟨⟨hk.1.1, fun e => hk.1.2 ?_⟩, hf j hjl k (by rw [hcj2]; exact hk.2)⟩) hMc
    injection e
end Go.Proofs.Ytdeenfpcmaadcaa.Pr
/-
  DERIVED: THE SHELF's CONTRACTS AT THIS DUMP, IN PLAIN WORDS (tools/lay-plain.mjs out of 'YtdeenfpcmaadcaaSortRgLay.lean', which tools/lay-shelf.mjs wrote): THE SAME DECLARATIONS UNDER THE SAME NAMES: 'import', 'namespace', 'open', 'def', 'theorem' AND NOTHING ELSE: no command of the shelf's: FOR A HAND-IN. Each laying: the table of numbers ('.._ren') and one theorem, a field a fact of the dump's own or the kernel's comparison; each contract: ONE APPLICATION.
-/
namespace Go.Proofs
open Go.Shelf
def Try.sortRg_ren : Go.Shelf.Ren := ⟨fun | 6 => 64 | 15 => 85 | 14 => 84 | 28 => 103 | 29 => 104 | 20 => 95 | 21 => 96 | 22 => 97 | 23 => 98 | 24 => 99 | 25 => 100 | 26 => 101 | 27 => 102 | 46 => 114 | 47 => 115 | 48 => 116 | 49 => 117 | 50 => 118 | 57 => 122 | n => n, fun | 22 => 50 | 24 => 54 | 25 => 75 | 3 => 3 | 39 => 83 | 0 => 0 | 53 => 97 | 55 => 99 | 4 => 4 | 46 => 91 | 45 => 90 | 50 => 34 | 5 => 5 | 9 => 9 | 66 => 105 | 70 => 109 | 76 => 113 | 77 => 114 | n => n, fun | n => n⟩
theorem Try.sortRg : Go.Proofs.SlLaysF0.n6 Try.prog Try.sortRg_ren := {
  mixed := by kernel_rfl
  f6 := ⟨Try.f64.name, by decide, Try.func64.trans (congrArg some (by kernel_rfl))⟩
  f14 := ⟨Try.f84.name, by decide, Try.func84.trans (congrArg some (by kernel_rfl))⟩
  f15 := Try.func85.trans (congrArg some (by kernel_rfl))
  f20 := ⟨Try.f95.name, by decide, Try.func95.trans (congrArg some (by kernel_rfl))⟩
  f21 := ⟨Try.f96.name, by decide, Try.func96.trans (congrArg some (by kernel_rfl))⟩
  f22 := ⟨Try.f97.name, by decide, Try.func97.trans (congrArg some (by kernel_rfl))⟩
  f23 := ⟨Try.f98.name, by decide, Try.func98.trans (congrArg some (by kernel_rfl))⟩
  f24 := ⟨Try.f99.name, by decide, Try.func99.trans (congrArg some (by kernel_rfl))⟩
  f25 := ⟨Try.f100.name, by decide, Try.func100.trans (congrArg some (by kernel_rfl))⟩
  f26 := ⟨Try.f101.name, by decide, Try.func101.trans (congrArg some (by kernel_rfl))⟩
  f27 := ⟨Try.f102.name, by decide, Try.func102.trans (congrArg some (by kernel_rfl))⟩
  f28 := Try.func103.trans (congrArg some (by kernel_rfl))
  f29 := Try.func104.trans (congrArg some (by kernel_rfl))
  f46 := ⟨Try.f114.name, by decide, Try.func114.trans (congrArg some (by kernel_rfl))⟩
  f47 := Try.func115.trans (congrArg some (by kernel_rfl))
  f48 := Try.func116.trans (congrArg some (by kernel_rfl))
  f49 := ⟨Try.f117.name, by decide, Try.func117.trans (congrArg some (by kernel_rfl))⟩
  f50 := ⟨Try.f118.name, by decide, Try.func118.trans (congrArg some (by kernel_rfl))⟩
  f57 := ⟨Try.f122.name, by decide, Try.func122.trans (congrArg some (by kernel_rfl))⟩
  t0 := Try.underlying0
  a0 := Try.isAgg0
  z0 := Try.sizeOf0
  v0 := Try.zeroValue0
  t3 := Try.underlying3
  a3 := Try.isAgg3
  z3 := Try.sizeOf3
  v3 := Try.zeroValue3
  t4 := Try.underlying4
  a4 := Try.isAgg4
  z4 := Try.sizeOf4
  v4 := Try.zeroValue4
  t5 := Try.underlying5
  a5 := Try.isAgg5
  z5 := Try.sizeOf5
  v5 := Try.zeroValue5
  t9 := Try.underlying9
  a9 := Try.isAgg9
  z9 := Try.sizeOf9
  v9 := Try.zeroValue9
  t22 := Try.underlying50
  a22 := Try.isAgg50
  z22 := Try.sizeOf50
  v22 := Try.zeroValue50
  t25 := Try.underlying75
  a25 := Try.isAgg75
  z25 := Try.sizeOf75
  v25 := Try.zeroValue75
  t39 := Try.underlying83
  a39 := Try.isAgg83
  z39 := Try.sizeOf83
  v39 := Try.zeroValue83
  t45 := Try.underlying90
  a45 := Try.isAgg90
  z45 := Try.sizeOf90
  v45 := Try.zeroValue90
  t46 := Try.underlying91
  a46 := Try.isAgg91
  z46 := Try.sizeOf91
  v46 := Try.zeroValue91
  t50 := Try.underlying34
  a50 := Try.isAgg34
  z50 := Try.sizeOf34
  v50 := Try.zeroValue34
  t53 := Try.underlying97
  a53 := Try.isAgg97
  z53 := Try.sizeOf97
  v53 := Try.zeroValue97
  t55 := Try.underlying99
  a55 := Try.isAgg99
  z55 := Try.sizeOf99
  v55 := Try.zeroValue99
  t66 := Try.underlying105
  a66 := Try.isAgg105
  z66 := Try.sizeOf105
  v66 := Try.zeroValue105
  t70 := Try.underlying109
  a70 := Try.isAgg109
  z70 := Try.sizeOf109
  v70 := Try.zeroValue109
  t76 := Try.underlying113
  a76 := Try.isAgg113
  z76 := Try.sizeOf113
  v76 := Try.zeroValue113
  t77 := Try.underlying114
  a77 := Try.isAgg114
  z77 := Try.sizeOf114
  v77 := Try.zeroValue114 }
end Go.Proofs
/- The sort of a row of regions: the row in the order of the points. -/
namespace Go.Proofs.Ytdeenfpcmaadcaa.Pr
open Go.RowKit Go.Sort Go.Lib Go.Proofs.YtdeenfpcmaadcaaW.PrintWords Go.Proofs.YtdeenfpcmaadcaaW.PrintLast Go.Proofs.YtdeenfpcmaadcaaW.PrintMore
abbrev SR := S54
/-- The regions in order. -/
def sortR (xs : List SR) : List SR := xs.mergeSort fun x y => !(M.lexB y.f0 x.f0)
theorem cmpL_lt (a b : List Int) : decide (M.cmpL a b < 0) = M.lexB a b := by
  unfold M.cmpL
  cases h : M.lexB a b with
  | true => simp
  | false =>
    cases M.lexB b a with
    | true => simp
    | false => simp
theorem kept_world {α : Type} {enc : α → List Value} [Inhabited α] {w : World} {g m k : Nat} {dk : Array α} {os : Array Obj} (q : Nat) (hq : q ≠ g) (hl : q < w.heap.size) : (sortWorldK enc k w g 0 m dk os).heap[q]? = w.heap[q]? := by
  show ((putRowK enc k (Sort.ahead w m) g 0 dk).heap ++ os)[q]? = _
  rw [Array.getElem?_append_left (by rw [size_putRowK]; exact hl)]
  show (w.heap.modify g (onCells (putCells id 0 _)))[q]? = _
  rw [Array.getElem?_modify, if_neg (fun e => hq e.symm)]
theorem below_sortWorld {α : Type} {enc : α → List Value} [Inhabited α] {w : World} {base g m k : Nat} {dk : Array α} {os : Array Obj} (hg : base ≤ g) (hB : base ≤ w.heap.size) : Below base w (sortWorldK enc k w g 0 m dk os) := by
  refine ((below_ahead m).trans (below_putRow (flatK enc k dk) hg)).trans (below_grow os ?_)
  rw [show (putRow id (Sort.ahead w m) g 0 (flatK enc k dk)).heap.size = w.heap.size from by simp [putRow, mapBlock, Sort.ahead]]
  exact hB
theorem sort_any {T : Type} [Inhabited T] (enc : T → List Value) (hel : ∀ x, (enc x).length = 3) (heo : ∀ x, ∀ u ∈ enc x, u.oneCell' = true) (cf : T → T → Int) (hO : SWO (ltOf cf)) (g cap : Nat) (d : Array T) (w : World) (hcmp : Go.Proofs.CmpLays Try.prog 65 #[] enc 3 cf g 0 d.size w) (hH : HoldsK enc 3 w g 0 d) (hg : g < w.heap.size) (hsz : d.size < 4611686018427387904) (hT : ∀ x y, ltOf cf x y = false → ltOf cf y x = false → x = y) :
    Calls Try.prog 64 #[.slice (some ⟨g, 0, none⟩) d.size cap, .func (.func 65) #[] #[]] w fun e w' => e = .returned (.tuple #[]) ∧ ∃ n os, w' = sortWorldK enc 3 w g 0 n (d.toList.mergeSort fun x y => !(ltOf cf) y x).toArray os := by
  have h := AnyQ.slices_SortFunc_total Try.sortRg 3 (fun w => Try.isAgg54 w) (fun w => Try.sizeOf54 w) enc hel heo cf hO 65 #[] g 0 cap d w (enters_of Try.func65 (by kernel_rfl) rfl) hcmp hH hg hsz hT
  exact h
set_option maxHeartbeats 400000 in
theorem sort_region (base : Nat) (ok : Nat → Prop) (v : Value) (xs : List SR) (w : World) (h : Kd.S k54 54 w base ok v xs) (hB : base ≤ w.heap.size) (hx : xs ≠ []) (hxl : xs.length ≤ 1000000) (hl : ∀ x ∈ xs, x.f0.length ≤ 1000000) (hd : (xs.map (·.f0)).Nodup) :
    Calls Try.prog 64 #[v, .func (.func 65) #[] #[]] w fun e w' => e = .returned (.tuple #[]) ∧ Kd.S k54 54 w' base ok v (sortR xs) ∧ Below base w w' := by
  rcases S_open h with ⟨rfl, h0⟩ | ⟨f, g, cap, cur, cs, rfl, hok, hg, hb, hn, hm, hs, hz, hM, hc⟩
  · exact absurd h0 hx
  have hcl : cs.length = xs.length := by
    have e := congrArg List.length hz
    rwa [List.length_map, List.length_zipIdx] at e
  have hgs : g < w.heap.size := (Array.getElem?_eq_some_iff.1 hb).1
  have hsz : k54.sz = 3 := rfl
  have hz1 : cs.map (·.2.1) = xs := by
    have e := congrArg (List.map Prod.fst) hz
    rw [List.map_map, List.zipIdx_map_fst] at e
    exact e
  have hz2 : (cs.map (·.2.2)).Nodup := by
    have e := congrArg (List.map Prod.snd) hz
    rw [List.map_map, List.zipIdx_map_snd] at e
    have e2 : cs.map (·.2.2) = List.range' 0 xs.length := e
    rw [e2]
    exact List.nodup_range' ..
  have hz3 : (cs.map (·.2.1.f0)).Nodup := by
    rw [← hz1, List.map_map] at hd
    exact hd
  have hne : cs ≠ [] := fun e => hx (by rw [e] at hcl; exact List.eq_nil_of_length_eq_zero hcl.symm)
  obtain ⟨c0, hc0⟩ := List.exists_mem_of_ne_nil cs hne
  let T := {c : CE SR // c ∈ cs}
  letI : Inhabited T := ⟨⟨c0, hc0⟩⟩
  let enc : T → List Value := fun c => c.1.1
  let cf : T → T → Int := fun a b => M.cmpL a.1.2.1.f0 b.1.2.1.f0
  have hel : ∀ x, (enc x).length = 3 := fun x => k54.K_len (k54.K_of_M (hM x.1 x.2))
  have heo : ∀ x, ∀ u ∈ enc x, u.oneCell' = true := fun x => k54.K_one (k54.K_of_M (hM x.1 x.2))
  have hlt : ∀ a b : T, ltOf cf a b = M.lexB a.1.2.1.f0 b.1.2.1.f0 := fun a b => cmpL_lt _ _
  have hO : SWO (ltOf cf) := {
    irrefl := fun x => by rw [hlt]; exact M.lexB_irrefl _
    trans := fun x y z h1 h2 => by rw [hlt] at *; exact M.lexB_trans _ _ _ h1 h2
    ntrans := fun x y z h1 h2 => by rw [hlt] at *; exact M.lexB_ge_trans h2 h1 }
  have hT : ∀ x y : T, ltOf cf x y = false → ltOf cf y x = false → x = y := fun x y h1 h2 => by
    rw [hlt] at h1 h2
    have e := M.lexB_tri _ _ h1 h2
    apply Subtype.ext
    obtain ⟨i, hi, e1⟩ := List.getElem_of_mem x.2
    obtain ⟨j, hj, e2⟩ := List.getElem_of_mem y.2
    have hij : i = j := by
      have hp := List.pairwise_iff_getElem.1 hz3
      rcases Nat.lt_trichotomy i j with q | q | q
      · exact absurd (by rw [List.getElem_map, List.getElem_map, e1, e2]; exact e) (hp i j (by rw [List.length_map]; exact hi) (by rw [List.length_map]; exact hj) q)
      · exact q
      · exact absurd (by rw [List.getElem_map, List.getElem_map, e1, e2]; exact e.symm) (hp j i (by rw [List.length_map]; exact hj) (by rw [List.length_map]; exact hi) q)
    subst hij
    rw [← e1, ← e2]
  have hda : cs.attach.toArray.size = xs.length := by simp [hcl]
  have hH : HoldsK enc 3 w g 0 cs.attach.toArray := fun j hj => by
    have hj0 : j < cs.attach.toArray.size * 3 := by rw [size_flatK] at hj; exact hj
    have hj' : j < cs.length * 3 := by rw [hda] at hj0; rw [hcl]; exact hj0
    rw [Nat.zero_add]
    refine ⟨?_, blk_frozen hb j⟩
    rw [get_flatK _ _ _ _ hj0]
    have hd3 : j / 3 < cs.length := by omega
    have e : cs.attach.toArray[j / 3]! = ⟨cs[j / 3], List.getElem_mem hd3⟩ := by
      rw [getElem!_pos _ _ (by rw [hda, ← hcl]; exact hd3)]
      simp
    rw [e]
    have h1 := hc (j / 3) (by rw [List.length_map]; exact hd3) (j % 3) (Nat.mod_lt _ (by decide))
    rw [List.getElem_map, hsz, show j / 3 * 3 + j % 3 = j by omega] at h1
    rw [h1]
    have h2 := hel ⟨cs[j / 3], List.getElem_mem hd3⟩
    have h3 : j % 3 < (enc ⟨cs[j / 3], List.getElem_mem hd3⟩).length := by rw [h2]; exact Nat.mod_lt _ (by decide)
    show (enc ⟨cs[j / 3], List.getElem_mem hd3⟩)[j % 3]? = some (enc ⟨cs[j / 3], List.getElem_mem hd3⟩)[j % 3]!
    rw [getElem!_pos (enc ⟨cs[j / 3], List.getElem_mem hd3⟩) (j % 3) h3, List.getElem?_eq_getElem h3]
  have hcmp : Go.Proofs.CmpLays Try.prog 65 #[] enc 3 cf g 0 cs.attach.toArray.size w := fun m os dk hsd x y => by
    obtain ⟨v0, v1, v2, ex, r0, r1, r2⟩ := k54_openM (hM x.1 x.2)
    obtain ⟨u0, u1, u2, ey, s0, s1, s2⟩ := k54_openM (hM y.1 y.2)
    obtain ⟨A, c, rfl⟩ := Kd.R_slice r0
    obtain ⟨B, e, rfl⟩ := Kd.R_slice s0
    have t0 := Kd.R_step (w1 := sortWorldK enc 3 w g 0 m dk os) r0 (fun k hk hlt => kept_world k hk.1.2 hlt)
    have t1 := Kd.R_step (w1 := sortWorldK enc 3 w g 0 m dk os) s0 (fun k hk hlt => kept_world k hk.1.2 hlt)
    have hq := cmpR_calls A B c e x.1.2.1.f0 y.1.2.1.f0 v1 v2 u1 u2 (sortWorldK enc 3 w g 0 m dk os) (Kd.R_reads' t0).2.2 (Kd.R_reads' t0).2.1 (Kd.R_reads' t1).2.2 (Kd.R_reads' t1).2.1
      (hl _ (by rw [← hz1]; exact List.mem_map.2 ⟨x.1, x.2, rfl⟩)) (Kd.R_val r1).2 (Kd.R_val r2).2 (Kd.R_val s1).2 (Kd.R_val s2).2
    have ea : (#[.agg (enc x).toArray, .agg (enc y).toArray] ++ #[] : Array Value) = #[.agg #[.slice A x.1.2.1.f0.length c, v1, v2], .agg #[.slice B y.1.2.1.f0.length e, u1, u2]] := by
      rw [show enc x = _ from ex, show enc y = _ from ey]
      rfl
    rw [ea]
    exact hq.mono fun _ _ h => h
  have hsort := sort_any enc hel heo cf hO g cap cs.attach.toArray w hcmp hH hgs (by rw [hda]; omega) hT
  rw [hda] at hsort
  refine hsort.mono ?_
  rintro e w' ⟨rfl, n, os, hw⟩
  refine ⟨rfl, ?_, hw ▸ below_sortWorld hg hB⟩
  obtain ⟨ds, hds⟩ : ∃ ds, ds = cs.attach.mergeSort fun x y => !(ltOf cf) y x := ⟨_, rfl⟩
  have hw2 : w' = sortWorldK enc 3 w g 0 n ds.toArray os := by rw [hw, hds]
  have hpm : ds.Perm cs.attach := by rw [hds]; exact List.mergeSort_perm _ _
  have hdl : ds.length = xs.length := by rw [hpm.length_eq, List.length_attach, hcl]
  have hH1 : HoldsK enc 3 w' g 0 ds.toArray := by
    rw [hw2]
    exact Go.Proofs.holdsK_sortWorldK_c enc 3 w g 0 cs.attach.toArray ds.toArray n os hH hgs (by rw [hda]; simp [hdl])
  have hb1 : w'.heap[g]? = some (.cells (putCells id 0 (flatK enc 3 ds.toArray) cur) 54 (0, 0)) := by
    rw [hw2]
    show ((putRowK enc 3 (Sort.ahead w n) g 0 ds.toArray).heap ++ os)[g]? = _
    rw [Array.getElem?_append_left (by rw [size_putRowK]; exact hgs)]
    exact blk_putRow (w := Sort.ahead w n) (flatK enc 3 ds.toArray) hb
  have hS := S_shut (d := k54) (e := 54) (W := w') (base := base) (g := g) (cap := cap) (ok := ok) (cs := ds.map (·.1)) (f := f) hok hg hb1 (by rw [List.length_map, hdl]; exact hn) hm (by rw [size_putCells_id]; exact hs)
    (by
      have e : (cs.attach.map (·.1)).map (·.2.2) = cs.map (·.2.2) := by rw [List.attach_map_subtype_val]
      exact (((hpm.map (·.1)).map (·.2.2)).nodup_iff).2 (by rw [e]; exact hz2))
    (fun c hcm => by
      obtain ⟨t, ht, rfl⟩ := List.mem_map.1 hcm
      refine Kd.M_step (hM t.1 t.2) (fun k hk hlt => ?_)
      rw [hw2]
      exact kept_world k hk.1.2 hlt)
    (fun j hj i hi => by
      simp only [List.length_map] at hj
      have h1 := (HoldsK.cell hH1 (show j < ds.toArray.size by simpa using hj) (show i < 3 from hi)).1
      rw [Nat.zero_add, getElem!_pos ds.toArray j (by simpa using hj)] at h1
      have e1 : ds.toArray[j]'(by simpa using hj) = ds[j] := by simp
      rw [e1, getElem!_pos (enc ds[j]) i (by rw [hel]; exact hi)] at h1
      rw [show k54.sz = 3 from rfl, h1]
      simp only [List.getElem_map]
      exact (List.getElem?_eq_getElem (by rw [hel]; exact hi)).symm)
  have e1 : (ds.map (·.1)).map (·.2.1) = sortR xs := by
    rw [hds, List.map_map]
    have e2 := List.map_mergeSort (r := fun x y : T => !(ltOf cf) y x) (s := fun x y : SR => !(M.lexB y.f0 x.f0)) (f := fun t : T => t.1.2.1) (l := cs.attach) (fun a _ b _ => by simp only [hlt])
    have e3 : cs.attach.map (fun t : T => t.1.2.1) = xs := by
      rw [← hz1]
      conv => rhs; rw [← List.attach_map_subtype_val cs, List.map_map]
      rfl
    rw [e3] at e2
    exact e2
  rw [e1, List.length_map, hdl] at hS
  exact hS
end Go.Proofs.Ytdeenfpcmaadcaa.Pr
/- The program's planeRegions, by hand: all regions of a plane set, in the order of the points. -/
namespace Go.Proofs.Ytdeenfpcmaadcaa.Pr
open Go.RowKit Go.Proofs.YtdeenfpcmaadcaaW.PrintWords Go.Proofs.YtdeenfpcmaadcaaW.PrintLast Go.Proofs.YtdeenfpcmaadcaaW.PrintMore
abbrev CH := S47
def mkR (q : List Int × List CH × List Int) : SR := ⟨q.1, q.2.1, q.2.2⟩
def allR (k : Nat) (l : List CH) : List CH → Option (List SR)
  | [] => some []
  | c :: cs => (impl_regionInside.f k l c.f0 c.f1 true).bind fun q => (allR k l cs).bind fun rs => some (mkR q :: rs)
theorem allR_mono (l : List CH) (k : Nat) : ∀ cs, LeO (allR k l cs) (allR (k + 1) l cs)
  | [] => LeO.refl _
  | c :: cs => LeO.bind (impl_regionInside.mono _ _ _ _ _) (fun _ => LeO.bind (allR_mono l k cs) (fun _ => LeO.refl _))
def impl_planeRegions.f (k : Nat) (a0 : Int) (l1 : List CH) : Option ((List SR) × Bool) :=
  (impl_isSet.f k a0 l1).bind fun s => if s = true then (impl_crossings.f k l1).bind fun n => if n > 0 then some ([], false) else
    if 0 ≤ a0 ∧ a0 ≤ 1000 ∧ l1.length ≤ 1000 then (impl_regionInside.f k l1 0 (a0 - 1) false).bind fun q => (allR k l1 l1).bind fun rs =>
      if ((mkR q :: rs).map (·.f0)).Nodup ∧ (∀ x ∈ mkR q :: rs, x.f0.length ≤ 1000000) then some (sortR (mkR q :: rs), true) else none
    else none
  else some ([], false)
theorem impl_planeRegions.mono : ∀ a0 a1 k, LeO (impl_planeRegions.f k a0 a1) (impl_planeRegions.f (k + 1) a0 a1) := by
  intro a0 a1 k
  unfold impl_planeRegions.f
  exact LeO.bind (impl_isSet.mono _ _ _) (fun _ => LeO.ite (LeO.bind (impl_crossings.mono _ _) (fun _ => LeO.ite (LeO.refl _) (LeO.ite (LeO.bind (impl_regionInside.mono _ _ _ _ _) (fun _ => LeO.bind (allR_mono _ _ _) (fun _ => LeO.refl _))) (LeO.refl _)))) (LeO.refl _))
section
variable {w W w3 : World} {base : Nat} {v v0 v1 v2 : Value} {xs : List SR} {r1 : List Int} {r2 : List CH} {r3 : List Int} {P0 P1 P2 : Nat → Prop}
theorem reg_M (hb : base ≤ W.heap.size) (h0 : (Kd.int .i64).R 3 w3 W.heap.size P0 v0 r1) (h1 : k47.R 47 w3 W.heap.size P1 v1 r2) (h2 : (Kd.int .i64).R 3 w3 W.heap.size P2 v2 r3) : k54.M w3 base (fun k => W.heap.size ≤ k) (mkR (r1, r2, r3)) [v0, v1, v2] :=
  k54_mkM w3 base _ (mkR (r1, r2, r3)) (Kd.R_mono (Kd.R_bound (Kd.R_lower h0 (Nat.le_refl _))) (fun k hk => hk.2.1) |> fun h => Kd.R_lower h hb) (Kd.R_mono (Kd.R_bound h1) (fun k hk => hk.2.1) |> fun h => Kd.R_lower h hb) (Kd.R_mono (Kd.R_bound h2) (fun k hk => hk.2.1) |> fun h => Kd.R_lower h hb)
theorem S_one {x : SR} {ok : Nat → Prop} (hb : base ≤ W.heap.size) (h : k54.M W base ok x [v0, v1, v2]) : Kd.S k54 54 (W.alloc (.cells #[v0, v1, v2] 54)) base (fun _ => True) (.slice (some ⟨W.heap.size, 0, none⟩) 1 1) [x] := by
  have hb1 : (W.alloc (.cells #[v0, v1, v2] 54)).heap[W.heap.size]? = some (.cells #[v0, v1, v2] 54 (0, 0)) := by
    show (W.heap.push _)[W.heap.size]? = _
    exact Array.getElem?_push_size
  exact S_shut (d := k54) (e := 54) (W := W.alloc (.cells #[v0, v1, v2] 54)) (base := base) (g := W.heap.size) (cap := 1) (cur := #[v0, v1, v2]) (cs := [([v0, v1, v2], (x, 0))]) (f := fun _ => 0) trivial hb hb1 (Nat.le_refl 1) (by unfold maxLen; omega) rfl (by simp)
    (fun c hc => by
      rw [List.mem_singleton.1 hc]
      exact Kd.M_below (k54.M_mono (fun k hk => ⟨⟨trivial, by have := hk.2.2.1; omega⟩, rfl⟩) (k54.M_bound h)) (below_alloc (Below.refl _ _) _))
    (fun j hj i hi => by
      obtain rfl : j = 0 := by simpa using hj
      rw [blk_cell hb1]
      simp)
/-- A region that was made, beside those that were there. -/
structure PB (w w3 : World) (N : Nat) (v : Value) (xs : List SR) (v0 v1 v2 : Value) (x : SR) : Prop where
  so : Kd.S k54 54 w3 w.heap.size (fun k => True ∧ ¬ (N ≤ k)) v xs
  m : k54.M w3 w.heap.size (fun k => N ≤ k) x [v0, v1, v2]
  ne : ∀ k, N ≤ k → True ∧ some k ≠ v.ownBlock
  bl : Below w.heap.size w w3
theorem PB.of {o : Obj} (hB : Below w.heap.size w W) (hS : Kd.S k54 54 W w.heap.size (fun _ => True) v xs) (hb : Below (W.alloc o).heap.size (W.alloc o) w3)
    (h0 : (Kd.int .i64).R 3 w3 (W.alloc o).heap.size P0 v0 r1) (h1 : k47.R 47 w3 (W.alloc o).heap.size P1 v1 r2) (h2 : (Kd.int .i64).R 3 w3 (W.alloc o).heap.size P2 v2 r3) : PB w w3 (W.alloc o).heap.size v xs v0 v1 v2 (mkR (r1, r2, r3)) := by
  have hs : (W.alloc o).heap.size = W.heap.size + 1 := by simp
  have hb2 : Below W.heap.size W w3 := (below_alloc (Below.refl _ _) o).trans (hb.mono (by omega))
  refine ⟨Kd.S_mono (Kd.S_old hS hb2) (fun k hk => ⟨trivial, by omega⟩), reg_M (by have := hB.size; omega) h0 h1 h2, fun k hk => ⟨trivial, fun e => ?_⟩, below_step hB hb2⟩
  have := Kd.S_lt hS k e.symm
  omega
end
set_option maxHeartbeats 4000000 in
set_option maxRecDepth 100000 in
theorem impl_planeRegions.calls (k : Nat) (a0 : Int) (A1 : Option Addr) (c1 : Nat) (l1 : List CH) (r1 : List SR) (r2 : Bool) (w : World) (hr1 : Kd.C k47 w A1 l1.length l1) (hc1 : l1.length ≤ c1) (h : impl_planeRegions.f k a0 l1 = some (r1, r2)) :
    Calls Try.prog 35 #[.int .i64 a0, .slice A1 l1.length c1] w fun e w' => ∃ v0_ : Value, e = .returned (.tuple #[v0_, .bool r2]) ∧ Kd.S k54 54 w' w.heap.size (fun _ => True) v0_ r1 ∧ Below w.heap.size w w' := by
  obtain ⟨s, hs, h⟩ := bI h
  have HI := Aside0.mk (impl_isSet.calls k a0 A1 c1 l1 s w hr1 hc1 hs)
  have HR1 := Aside0.mk hr1
  have HC1 := Aside0.mk hc1
  clear hr1 hc1 hs
  cases s with
  | false =>
    rw [if_neg (by simp)] at h
    injection h with h
    injection h with h1 h2
    subst h1 h2
    go_enter Try.func35, Try.ntmps35
    go_wp2_with (go_at_call 61; refine HI.out.mono ?_; rintro e w' ⟨rfl, hb⟩)
    go_ret2
    exact ⟨_, rfl, Kd.S_nil _ _ _ _ _, hb⟩
  | true =>
    rw [if_pos rfl] at h
    obtain ⟨n, hn, h⟩ := bI h
    have HN := Aside0.mk (fun (W : World) (hb : Below w.heap.size w W) => impl_crossings.calls k A1 c1 l1 n W (Kd.C_below HR1.out hb) HC1.out hn)
    clear hn
    by_cases h0 : n > 0
    · rw [if_pos h0] at h
      injection h with h
      injection h with h1 h2
      subst h1 h2
      have e0 : decide (n > 0) = true := decide_eq_true h0
      have e1 : decide (0 < n) = true := decide_eq_true h0
      clear h0
      go_enter Try.func35, Try.ntmps35
      go_wp2_with (first | (go_at_call 61; refine HI.out.mono ?_; rintro e w' ⟨rfl, hb⟩; have HBa := Aside0.mk hb; clear hb) | (go_at_call 62; refine (HN.out _ HBa.out).mono ?_; rintro e w' ⟨rfl, hb⟩; have HBb := Aside0.mk (below_step HBa.out hb); clear hb))
      go_ret2
      exact ⟨_, rfl, Kd.S_nil _ _ _ _ _, HBb.out⟩
    · rw [if_neg h0] at h
      by_cases hr : 0 ≤ a0 ∧ a0 ≤ 1000 ∧ l1.length ≤ 1000
      rotate_left
      · rw [if_neg hr] at h; cases h
      rw [if_pos hr] at h
      obtain ⟨q, hq, h⟩ := bI h
      obtain ⟨rs, hrs, h⟩ := bI h
      split at h
      rotate_left
      · cases h
      rename_i hok
      injection h with h
      injection h with h1 h2
      subst h1 h2
      have e0 : decide (n > 0) = false := decide_eq_false h0
      have e1 : decide (0 < n) = false := decide_eq_false h0
      have e2 : IntKind.i64.wrap (a0 - 1) = a0 - 1 := by
        rw [i64_w]
        exact M.w64 (by omega) (by omega)
      obtain ⟨q1, q2, q3⟩ := q
      have HQ := Aside0.mk (fun (W : World) (hb : Below w.heap.size w W) => impl_regionInside.calls k A1 c1 l1 0 (a0 - 1) false q1 q2 q3 W (Kd.C_below HR1.out hb) HC1.out hq)
      obtain ⟨al, hal⟩ : ∃ al, al = mkR (q1, q2, q3) :: rs := ⟨_, rfl⟩
      rw [← hal] at hok ⊢
      have HOK := Aside0.mk hok
      have HAL := Aside0.mk (show (allR k l1 (l1.drop 0)).bind (fun rs => some ([mkR (q1, q2, q3)] ++ rs)) = some al by rw [List.drop_zero, hrs, hal]; rfl)
      have HL := Aside0.mk hr
      have hlen : l1.length ≤ 1000 := hr.2.2
      clear h0 hq hrs hok hal hr
      go_enter Try.func35, Try.ntmps35
      go_wp2_with (first | (go_at_call 61; refine HI.out.mono ?_; rintro e w' ⟨rfl, hb⟩; have HBa := Aside0.mk hb; clear hb) | (go_at_call 62; refine (HN.out _ HBa.out).mono ?_; rintro e w' ⟨rfl, hb⟩; have HBb := Aside0.mk (below_step HBa.out hb); clear hb) | (go_at_call 63; refine (HQ.out _ HBb.out).mono ?_; rintro e w3 ⟨v0, v1, v2, rfl, g0, g1, g2, hb⟩; have HBc := Aside0.mk (below_alloc (below_step HBb.out hb) (.cells #[v0, v1, v2] 54)); have HS := Aside0.mk (S_one (Nat.le_trans HBb.out.size hb.size) (reg_M HBb.out.size g0 g1 g2)); clear hb g0 g1 g2))
      clear e0 e1 e2
      obtain ⟨N, hN⟩ : ∃ N, N = l1.length := ⟨_, rfl⟩
      go_loopg [6, 26] N (fun gg v6 v26 W => ∃ (j : Nat) (xs : List SR), v26 = .int .i64 j ∧ Aside0 (j + gg = N) ∧ Aside0 (Below w.heap.size w W) ∧ Aside0 (Kd.S k54 54 W w.heap.size (fun _ => True) v6 xs) ∧ Aside0 (xs.length = j + 1) ∧ Aside0 ((allR k l1 (l1.drop j)).bind (fun rs => some (xs ++ rs)) = some al))
      case atStart => exact ⟨0, [mkR (q1, q2, q3)], by first | rfl | (simp; done), ⟨by omega⟩, HBc, HS, ⟨rfl⟩, HAL⟩
      case round =>
        clear HBc HS HAL HI HN HQ HBa HBb
        obtain ⟨j, xs, rfl, HG, HB, HS, HXL, HA⟩ := hrel
        have hN2 : (N : Int) = (l1.length : Int) := by omega
        by_cases hj : j < N
        · have hjl : j < l1.length := by omega
          have e1 : decide ((j : Int) < (l1.length : Int)) = true := decide_eq_true (by omega)
          have e2 : IntKind.i64.wrap ((j : Int) + 1) = ((j + 1 : Nat) : Int) := by
            rw [i64_w]
            exact M.w64 (by omega) (by omega)
          obtain ⟨gm, rfl⟩ : ∃ gm, gk = gm + 1 := ⟨gk - 1, by have := HG.out; omega⟩
          obtain ⟨c, hc⟩ : ∃ c, c = l1[j] := ⟨_, rfl⟩
          have hA := HA.out
          rw [List.drop_eq_getElem_cons hjl, ← hc, allR] at hA
          obtain ⟨rs', hA, hA2⟩ := bI hA
          obtain ⟨⟨p1, p2, p3⟩, hp, hA⟩ := bI hA
          obtain ⟨rs2, hA3, hA⟩ := bI hA
          injection hA with hA
          subst hA
          have HA2 := Aside0.mk (show (allR k l1 (l1.drop (j + 1))).bind (fun rs => some ((xs ++ [mkR (p1, p2, p3)]) ++ rs)) = some al by
            rw [hA3, ← hA2]
            simp)
          have HP := Aside0.mk (fun (W : World) (hb : Below w.heap.size w W) => impl_regionInside.calls k A1 c1 l1 c.f0 c.f1 true p1 p2 p3 W (Kd.C_below HR1.out hb) HC1.out hp)
          obtain ⟨ad, ea, x0, x1⟩ := at_T47 (Kd.C_below HR1.out HB.out) (j : Int) (by omega) (by omega)
          rw [M.rd_ch l1 j hjl, ← hc] at x0 x1
          rw [Int.toNat_natCast] at x0 x1
          cases ea
          clear hc hA2 hA3 hp HA
          go_wp2_with (first | (go_at_call 63; refine (HP.out _ (below_alloc HB.out _)).mono ?_; rintro e w3 ⟨v0, v1, v2, rfl, g0, g1, g2, hb⟩; have HPB := Aside0.mk (PB.of HB.out HS.out hb g0 g1 g2); clear hb g0 g1 g2) | ((with_reducible refine gate_builtin (b := .append) (xs := #[.tmp 30, .tmp 34]) rfl ?_); at_builtin; refine Kd.S_append k54 (w0 := w) w.heap.size rfl (.tmp 30) (.tmp 34) 50 54 (.agg #[.slice none 0 0, .slice none 0 0, .slice none 0 0]) 72 rfl Try.underlying50 info54 rfl (by decide) (by omega) _ xs (mkR (p1, p2, p3)) [v0, v1, v2] (fun _ => True) _ rfl rfl HPB.out.m HPB.out.ne (fun _ _ => trivial) HPB.out.so HPB.out.bl HPB.out.bl.size ?hl1 ?_; (case hl1 => have := HXL.out; omega); intro v7 w7 hs7 hb7 hg7 hat7; have HS7 := Aside0.mk hs7; have HB7 := Aside0.mk hb7; clear hs7 hb7 hg7 hat7))
          go_roundg gm
          case measure => omega
          case rel => exact ⟨j + 1, xs ++ [mkR (p1, p2, p3)], by first | rfl | (simp; done), ⟨by have := HG.out; omega⟩, HB7, HS7, ⟨by rw [List.length_append, HXL.out]; rfl⟩, HA2⟩
        · have hA := HA.out
          have e1 : decide ((j : Int) < (l1.length : Int)) = false := decide_eq_false (by omega)
          have e1' : decide (j < l1.length) = false := decide_eq_false (by omega)
          have hxl : xs.length ≤ 1000000 := by have := HXL.out; have := HG.out; omega
          have hxn : xs ≠ [] := fun e => by have := HXL.out; rw [e] at this; simp at this
          rw [List.drop_eq_nil_of_le (by omega), allR, Option.bind_some, List.append_nil] at hA
          injection hA with hA
          subst hA
          have HX := Aside0.mk (show xs.length ≤ 1000000 ∧ xs ≠ [] from ⟨hxl, hxn⟩)
          clear HA hj hxl hxn
          go_wp2_with (go_at_call 64; refine (sort_region w.heap.size (fun _ => True) _ xs _ HS.out HB.out.size HX.out.2 HX.out.1 HOK.out.2 HOK.out.1).mono ?_; rintro e w8 ⟨rfl, hs8, hb8⟩; have HS8 := Aside0.mk hs8; have HB8 := Aside0.mk (HB.out.trans hb8); clear hs8 hb8)
          go_ret2
          exact ⟨_, by first | rfl | (simp; done), HS8.out, HB8.out⟩
end Go.Proofs.Ytdeenfpcmaadcaa.Pr
/- All regions of a plane set: the program's row and the reference's. -/
namespace Go.Proofs.Ytdeenfpcmaadcaa.M
open Go.RowKit Go.Proofs.YtdeenfpcmaadcaaW.PrintWords Go.Proofs.Ytdeenfpcmaadcaa.Pr
theorem chain_lt (p : Int) : ∀ (l : List Ch) (b : Ch), chain p (some b) l = true → ∀ c ∈ l, ltB b c = true
  | [], _, _, _, h => by cases h
  | d :: r, b, h, c, hc => by
    unfold chain at h
    simp only [Bool.and_eq_true] at h
    rcases List.mem_cons.1 hc with rfl | hc
    · exact h.2.1
    · have h2 := chain_lt p r d h.2.2 c hc
      have h1 := h.2.1
      unfold ltB at *
      rw [decide_eq_true_iff] at *
      omega
theorem chain_nodup (p : Int) : ∀ (l : List Ch) (prev : Option Ch), chain p prev l = true → l.Nodup
  | [], _, _ => List.nodup_nil
  | d :: r, prev, h => by
    unfold chain at h
    simp only [Bool.and_eq_true] at h
    refine List.nodup_cons.2 ⟨fun q => ?_, chain_nodup p r (some d) h.2.2⟩
    have := chain_lt p r d h.2.2 d q
    unfold ltB at this
    rw [decide_eq_true_iff] at this
    omega
theorem crB_self (c : Ch) : crB c c = false := by
  unfold crB
  rw [decide_eq_false_iff_not]
  omega
theorem pairs_zero : ∀ l : List Ch, pairsN l = 0 → ∀ c ∈ l, ∀ d ∈ l, crB c d = false
  | [], _, c, hc, _, _ => by cases hc
  | x :: r, h, c, hc, d, hd => by
    rw [pairsN] at h
    have h1 : cnt x r = 0 := by omega
    have h2 : pairsN r = 0 := by omega
    have hx : ∀ y ∈ r, crB x y = false := fun y hy => by
      unfold cnt at h1
      have := List.countP_eq_zero.1 h1 y hy
      simpa using this
    rcases List.mem_cons.1 hc with rfl | hc2
    · rcases List.mem_cons.1 hd with rfl | hd2
      · exact crB_self _
      · exact hx d hd2
    · rcases List.mem_cons.1 hd with rfl | hd2
      · rw [crB_comm]; exact hx c hc2
      · exact pairs_zero r h2 c hc2 d hd2
theorem planeP_of {p : Int} {l : List Ch} (hg : goodB p l = true) (hc : pairsN l = 0) : PlaneP p l := by
  obtain ⟨hp, h40, hv⟩ := good_ok hg
  refine ⟨⟨fun c hcm => (hv c hcm).2.1, pairs_zero l hc⟩, ?_, hp.1, fun d hd => ⟨(hv d hd).1, (hv d hd).2.2⟩⟩
  unfold goodB at hg
  simp only [Bool.and_eq_true, decide_eq_true_eq] at hg
  exact chain_nodup p l none hg.2.2
def regS (p : Int) (P : List Ch) (c : Ch) : SR := ⟨ptsW p P c, chsW p P c, arcsW p P c⟩
def rgsS (p : Int) (P : List Ch) : List SR := sortR ((outC p :: P).map (regS p P))
theorem sortR_perm (xs : List SR) : (sortR xs).Perm xs := List.mergeSort_perm _ _
theorem sortR_sorted (xs : List SR) : LS ((sortR xs).map (·.f0)) := by
  have h := List.pairwise_mergeSort (le := fun x y : SR => !(lexB y.f0 x.f0))
    (fun a b c h1 h2 => by
      rw [Bool.not_eq_true'] at *
      exact lexB_ge_trans h1 h2)
    (fun a b => by
      cases e : lexB b.f0 a.f0 with
      | false => rfl
      | true =>
        cases e2 : lexB a.f0 b.f0 with
        | false => rfl
        | true =>
          have := lexB_trans _ _ _ e e2
          rw [lexB_irrefl] at this
          cases this) xs
  unfold LS sortR
  rw [List.pairwise_map]
  exact h.imp (fun h => by rwa [Bool.not_eq_true'] at h)
section
variable {p : Int} {P : List Ch} (H : PlaneP p P)
include H
theorem map_pts : ((outC p :: P).map (regS p P)).map (·.f0) = (outC p :: P).map (regN p P) := by
  rw [List.map_map]
  exact List.map_congr_left (fun c hc => ptsW_eq H (List.mem_cons.1 hc))
/-- The reference's rows are the points of the program's regions. -/
theorem ref_eq : (foldR P [ptsTo p]).foldl (insB lexB) [] = (rgsS p P).map (·.f0) := by
  obtain ⟨h1, h2⟩ := ref_perm H
  refine ls_uniq _ _ (h1.trans ?_) h2 (sortR_sorted _)
  have e := (sortR_perm ((outC p :: P).map (regS p P))).map (·.f0)
  rw [map_pts H] at e
  exact e.symm
theorem allR_ev (hp : p ≤ 1000) (hl : P.length ≤ 1000) : ∀ cs : List Ch, (∀ c ∈ cs, c ∈ P) → Ev (fun k => allR k P cs) (cs.map (regS p P))
  | [], _ => Ev.val rfl
  | c :: cs, h => by
    have e := allR_ev hp hl cs (fun d hd => h d (List.mem_cons_of_mem _ hd))
    show Ev (fun k => (impl_regionInside.f k P c.f0 c.f1 true).bind fun q => (allR k P cs).bind fun rs => some (mkR q :: rs)) _
    exact Ev.bindk (inside_ev H (h c List.mem_cons_self) hp hl) (Ev.bindk e (Ev.val rfl))
end
theorem pts_le (p : Int) (P : List Ch) (c : Ch) : (regN p P c).length ≤ p.toNat := by
  unfold regN
  refine Nat.le_trans (List.length_filter_le _ _) ?_
  simp [ptsTo]
/-- What planeRegions computes. -/
def planeB (p : Int) (l : List Ch) : List SR × Bool := if goodB p l = true ∧ pairsN l = 0 then (rgsS p l, true) else ([], false)
theorem planeRegions_ev (p : Int) (l : List Ch) (hl : l.length ≤ 9223372036854775807) : Ev (fun k => impl_planeRegions.f k p l) (planeB p l) := by
  unfold impl_planeRegions.f
  refine Ev.bindk (isSet_ev p l hl) ?_
  by_cases hg : goodB p l = true
  · obtain ⟨hp, h40, hv⟩ := good_ok hg
    refine Ev.pos hg (Ev.bindk (crossings_ev l h40) ?_)
    by_cases hc : pairsN l = 0
    · have H := planeP_of hg hc
      refine Ev.neg (by omega) (Ev.pos ⟨by omega, by omega, by omega⟩ (Ev.bindk (outer_ev H (by omega) (by omega)) (Ev.bindk (allR_ev H (by omega) (by omega) l (fun _ h => h)) ?_)))
      have e : (mkR (ptsW p l (outC p), chsW p l (outC p), arcsW p l (outC p)) :: l.map (regS p l)) = (outC p :: l).map (regS p l) := rfl
      rw [e]
      refine Ev.pos ⟨?_, fun x hx => ?_⟩ (Ev.val ?_)
      · rw [map_pts H]; exact regs_nodup H
      · obtain ⟨c, hc, rfl⟩ := List.mem_map.1 hx
        show (ptsW p l c).length ≤ 1000000
        rw [ptsW_eq H (List.mem_cons.1 hc)]
        have := pts_le p l c
        omega
      · rw [planeB, if_pos ⟨hg, hc⟩]; rfl
    · refine Ev.pos (by omega) (Ev.val ?_)
      rw [planeB, if_neg (fun h => hc h.2)]
  · refine Ev.neg hg (Ev.val ?_)
    rw [planeB, if_neg (fun h => hg h.1)]
theorem reList_ev (p : Int) (l : List Ch) (hg : goodB p l = true) (hc : pairsN l = 0) : spec_reList.f p l = some ((rgsS p l).map (·.f0)) := by
  obtain ⟨hp, h40, hv⟩ := good_ok hg
  unfold spec_reList.f
  rw [if_pos ⟨⟨by omega, by omega⟩, by omega⟩, ref_eq (planeP_of hg hc)]
end Go.Proofs.Ytdeenfpcmaadcaa.M
/- How many chords cross: the program's counts and the reference's pairs are one number. -/
namespace Go.Proofs.Ytdeenfpcmaadcaa.M
open Go.RowKit Go.Proofs.YtdeenfpcmaadcaaW.PrintWords Go.Proofs.Ytdeenfpcmaadcaa.Pr
/-- The rows of pairs that the reference lists. -/
def rowOf (i : Int) (c : Ch) : Int → List Ch → List (List Int)
  | _, [] => []
  | j, d :: r => if crB c d = true then [i, j] :: rowOf i c (j + 1) r else rowOf i c (j + 1) r
def pairsOf : Int → List Ch → List (List Int)
  | _, [] => []
  | i, c :: r => rowOf i c (i + 1) r ++ pairsOf (i + 1) r
theorem rowOf_length (i : Int) (c : Ch) : ∀ (l : List Ch) (j : Int), (rowOf i c j l).length = cnt c l
  | [], j => by simp [rowOf, cnt]
  | d :: r, j => by
    have ih := rowOf_length i c r (j + 1)
    unfold cnt at *
    rw [rowOf, List.countP_cons]
    split
    · rename_i h
      simp [ih, h]
    · rename_i h
      simp [ih, h]
theorem pairsOf_length : ∀ (l : List Ch) (i : Int), (pairsOf i l).length = pairsN l
  | [], i => by simp [pairsOf, pairsN]
  | c :: r, i => by
    rw [pairsOf, pairsN, List.length_append, rowOf_length, pairsOf_length r]
theorem cdPairs_ev (l : List Ch) (hl : l.length ≤ 40) (hv : ∀ c ∈ l, c.f0 < c.f1) : Ev (fun k => spec_cdPairs.f k l) (pairsOf 0 l) := by
  unfold spec_cdPairs.f
  have inner : ∀ (i : Nat) (hi : i < l.length) (r : List (List Int)) (acc : List (List Int)), acc.length ≤ i * 40 → Ev (fun k => spec_cdPairs.l0 k l (acc ++ rowOf i l[i] (i + 1) (l.drop (i + 1))) l (l.length : Int) ((i : Int) + 1)) r →
      Ev (fun k => spec_cdPairs.l1 k l acc (i : Int) ((i : Int) + 1) l (l.length : Int) (i : Int) l[i].f0 l[i].f1) r := by
    intro i hi r acc hacc hr
    have e := Ev.cps (fun k j (a : List (List Int)) => spec_cdPairs.l1 k l a (i : Int) j l (l.length : Int) (i : Int) l[i].f0 l[i].f1)
      (fun k a => spec_cdPairs.l0 k l a l (l.length : Int) ((i : Int) + 1)) l
      (fun rest a => a ++ rowOf i l[i] ((l.length : Int) - rest.length) rest) (fun j a => i + 1 ≤ j ∧ a.length ≤ i * 40 + j)
      (fun a r _ hr => by
        refine Ev.step (fun k => by rw [spec_cdPairs.l1]) ?_
        refine Ev.neg (by omega) ?_
        rw [w64 (x := (i : Int) + 1) (by omega) (by omega)]
        simpa [rowOf] using hr)
      (fun j hj a hp => by
        obtain ⟨hp1, hp2⟩ := hp
        have hrd := rd_ch l j hj
        have hlen : ((l.drop (j + 1)).length : Int) = l.length - (j + 1) := by rw [List.length_drop]; omega
        have hx : ∀ q : Nat, q = (l.drop (j + 1)).length + 1 → (l.length : Int) - (q : Int) = (j : Int) := by intro q hq; omega
        have hcv := hv l[i] (List.getElem_mem hi)
        have hdv := hv l[j] (List.getElem_mem hj)
        by_cases hc : crB l[i] l[j] = true
        · refine ⟨a ++ [[(i : Int), (j : Int)]], ⟨by omega, by simp; omega⟩, ?_, fun r hr2 => ?_⟩
          · rw [List.length_cons, rowOf, if_pos hc, hx _ rfl, show (l.length : Int) - ((l.drop (j + 1)).length : Int) = (j : Int) + 1 by omega]
            simp
          · refine Ev.step (fun k => by rw [spec_cdPairs.l1]) ?_
            refine Ev.pos (by omega) (Ev.pos (by omega) ?_)
            rw [hrd]
            refine Ev.bindc (srCross_eq _ _ hcv hdv) (Ev.pos hc (Ev.pos ?_ ?_))
            · have : i * 40 ≤ 1600 := by omega
              omega
            · rw [w64 (x := (j : Int) + 1) (by omega) (by omega)]
              exact hr2
        · refine ⟨a, ⟨by omega, by omega⟩, ?_, fun r hr2 => ?_⟩
          · rw [List.length_cons, rowOf, if_neg hc, hx _ rfl, show (l.length : Int) - ((l.drop (j + 1)).length : Int) = (j : Int) + 1 by omega]
          · refine Ev.step (fun k => by rw [spec_cdPairs.l1]) ?_
            refine Ev.pos (by omega) (Ev.pos (by omega) ?_)
            rw [hrd]
            refine Ev.bindc (srCross_eq _ _ hcv hdv) (Ev.neg hc ?_)
            rw [w64 (x := (j : Int) + 1) (by omega) (by omega)]
            exact hr2)
      (l.length - (i + 1)) (i + 1) acc r (by omega) ⟨by omega, by omega⟩ (by
        have : (l.length : Int) - ((l.drop (i + 1)).length : Int) = (i : Int) + 1 := by rw [List.length_drop]; omega
        rw [this]
        exact hr)
    rw [show (((i + 1 : Nat)) : Int) = (i : Int) + 1 from by omega] at e
    exact e
  have e := Ev.scan0 (fun k i (acc : List (List Int)) => spec_cdPairs.l0 k l acc l (l.length : Int) i) l (fun rest acc => acc ++ pairsOf ((l.length : Int) - rest.length) rest) (fun i acc => acc.length ≤ i * 40)
    (fun acc hp => by
      refine Ev.step (fun k => by rw [spec_cdPairs.l0]) ?_
      exact Ev.neg (by omega) (Ev.val (by simp [pairsOf])))
    (fun i h acc hp => by
      have hr := rd_ch l i h
      have hcl := cnt_le l[i] (l.drop (i + 1))
      have hdl : (l.drop (i + 1)).length = l.length - (i + 1) := List.length_drop
      have hx : ∀ q : Nat, q = (l.drop (i + 1)).length + 1 → (l.length : Int) - (q : Int) = (i : Int) := by intro q hq; omega
      refine .inl ⟨acc ++ rowOf i l[i] (i + 1) (l.drop (i + 1)), ?_, ?_, fun r hr2 => ?_⟩
      · rw [List.length_append, rowOf_length]; omega
      · rw [List.length_cons, pairsOf, hx _ rfl, show (l.length : Int) - ((l.drop (i + 1)).length : Int) = (i : Int) + 1 by omega, List.append_assoc]
      · refine Ev.step (fun k => by rw [spec_cdPairs.l0]) ?_
        refine Ev.pos (by omega) (Ev.pos (by omega) (Ev.pos (by omega) ?_))
        rw [hr, w64 (x := (i : Int) + 1) (by omega) (by omega)]
        exact inner i h r acc hp hr2)
    [] (by simp)
  simpa using e
end Go.Proofs.Ytdeenfpcmaadcaa.M
/- Sets that leave triangles: the program's test and the reference's are one. -/
namespace Go.Proofs.Ytdeenfpcmaadcaa.M
open Go.RowKit Go.Proofs.YtdeenfpcmaadcaaW.PrintWords Go.Proofs.Ytdeenfpcmaadcaa.Pr
def triB (p : Int) (l : List Ch) : Bool := goodB p l && (decide ((l.length : Int) = p - 3) && (decide (pairsN l = 0) && l.all (dgB p)))
theorem any_not_all {α : Type} (p : α → Bool) (l : List α) : (!(l.any fun x => !(p x))) = l.all p := by
  induction l with
  | nil => rfl
  | cons x r ih => rw [List.any_cons, List.all_cons, Bool.not_or, ih, Bool.not_not]
theorem all_congr {α : Type} {p q : α → Bool} : ∀ {l : List α}, (∀ x ∈ l, p x = q x) → l.all p = l.all q
  | [], _ => rfl
  | x :: r, h => by rw [List.all_cons, List.all_cons, h x (List.mem_cons_self ..), all_congr (fun y hy => h y (List.mem_cons_of_mem _ hy))]
theorem leaves_ev (p : Int) (l : List Ch) (hl : l.length ≤ 1048576) : Ev (fun k => impl_leavesTriangles.f k p l) (triB p l) := by
  unfold impl_leavesTriangles.f
  refine Ev.bindk (isSet_ev p l (by omega)) ?_
  by_cases hg : goodB p l = true
  · obtain ⟨hp, h40, hv⟩ := good_ok hg
    refine Ev.pos hg ?_
    rw [w64 (by omega) (by omega)]
    unfold triB
    rw [hg, Bool.true_and]
    by_cases hn : (l.length : Int) = p - 3
    · refine Ev.pos hn (Ev.bindk (crossings_ev l h40) ?_)
      rw [decide_eq_true hn, Bool.true_and]
      by_cases h0 : pairsN l = 0
      · refine Ev.pos (by omega) (Ev.val ?_)
        rw [decide_eq_true h0, Bool.true_and, any_not_all]
        exact all_congr (fun c hc => diagR_eq p c (hv c hc) hp.2)
      · refine Ev.neg (by omega) (Ev.val ?_)
        rw [decide_eq_false h0, Bool.false_and]
    · refine Ev.neg hn (Ev.val ?_)
      rw [decide_eq_false hn, Bool.false_and]
  · refine Ev.neg hg (Ev.val ?_)
    unfold triB
    rw [Bool.eq_false_iff.2 hg, Bool.false_and]
theorem rePlane_ev (p : Int) (l : List Ch) (hl : l.length ≤ 1048576) : Ev (fun k => spec_rePlane.f k p l) (goodB p l && decide (pairsN l = 0)) := by
  unfold spec_rePlane.f
  refine Ev.bindk (cdGood_ev p l (by omega)) ?_
  by_cases hg : goodB p l = true
  · obtain ⟨hp, h40, hv⟩ := good_ok hg
    refine Ev.pos hg (Ev.bindk (cdPairs_ev l h40 (fun c hc => (hv c hc).2.1)) (Ev.val ?_))
    rw [pairsOf_length, hg, Bool.true_and, Bool.eq_iff_iff]
    simp
  · refine Ev.neg hg (Ev.val ?_)
    rw [Bool.eq_false_iff.2 hg, Bool.false_and]
theorem reTri_ev (p : Int) (l : List Ch) (hl : l.length ≤ 1048576) (hg : goodB p l = true) : Ev (fun k => spec_reTriangled.f k p l) (triB p l) := by
  unfold spec_reTriangled.f
  obtain ⟨hp, h40, hv⟩ := good_ok hg
  have e := Ev.scan0 (fun k i (_ : Unit) => spec_reTriangled.l0 k p l l (l.length : Int) i) l (fun rest _ => rest.all (dgB p) && (decide (pairsN l = 0) && decide ((l.length : Int) = p - 3))) (fun _ _ => True)
    (fun acc _ => by
      refine Ev.step (fun k => by rw [spec_reTriangled.l0]) ?_
      refine Ev.neg (by omega) (Ev.bindk (rePlane_ev p l hl) ?_)
      rw [hg, Bool.true_and, w64 (by omega) (by omega)]
      by_cases h0 : pairsN l = 0
      · refine Ev.pos (by simpa using h0) (Ev.val ?_)
        rw [decide_eq_true h0, Bool.eq_iff_iff]
        simp
      · refine Ev.neg (by simpa using h0) (Ev.val ?_)
        rw [decide_eq_false h0]
        rfl)
    (fun i h acc _ => by
      have hr := rd_ch l i h
      by_cases hd : dgB p l[i] = true
      · refine .inl ⟨(), trivial, by simp only [List.all_cons, hd, Bool.true_and], fun r hr2 => ?_⟩
        refine Ev.step (fun k => by rw [spec_reTriangled.l0]) ?_
        refine Ev.pos (by omega) (Ev.pos (by omega) (Ev.pos (by omega) ?_))
        rw [hr]
        refine Ev.bindc (reDiagonal_eq p l[i] (hv _ (List.getElem_mem h)) hp.2) (Ev.pos hd ?_)
        rw [w64 (x := (i : Int) + 1) (by omega) (by omega)]
        exact hr2
      · refine .inr ?_
        refine Ev.step (fun k => by rw [spec_reTriangled.l0]) ?_
        refine Ev.pos (by omega) (Ev.pos (by omega) (Ev.pos (by omega) ?_))
        rw [hr]
        refine Ev.bindc (reDiagonal_eq p l[i] (hv _ (List.getElem_mem h)) hp.2) (Ev.neg hd (Ev.val ?_))
        simp only [List.all_cons, Bool.eq_false_iff.2 hd, Bool.false_and])
    () trivial
  have ht : triB p l = (l.all (dgB p) && (decide (pairsN l = 0) && decide ((l.length : Int) = p - 3))) := by
    unfold triB
    rw [hg, Bool.true_and]
    cases decide (pairsN l = 0) <;> cases l.all (dgB p) <;> cases decide ((l.length : Int) = p - 3) <;> rfl
  rw [ht]
  exact e
end Go.Proofs.Ytdeenfpcmaadcaa.M
/- Rows in order, each element once: sorted and compacted, or put in one after the other. -/
namespace Go.Proofs.Ytdeenfpcmaadcaa.M
open Go.Lib
set_option linter.unusedSectionVars false
section
variable {α : Type} [Inhabited α] [DecidableEq α] {lt : α → α → Bool}
/-- A strict order in which two elements are the same or one is ahead of the other. -/
structure Ord (lt : α → α → Bool) : Prop where
  irrefl : ∀ x, lt x x = false
  trans : ∀ x y z, lt x y = true → lt y z = true → lt x z = true
  tri : ∀ x y, lt x y = false → lt y x = false → x = y
theorem Ord.asym (h : Ord lt) {x y : α} (h1 : lt x y = true) : lt y x = false := by
  rw [Bool.eq_false_iff]
  intro h2
  have := h.trans _ _ _ h1 h2
  rw [h.irrefl] at this
  cases this
def put (lt : α → α → Bool) : List α → α → List α
  | [], c => [c]
  | x :: r, c => if lt x c = true then x :: put lt r c else if x = c then x :: r else c :: x :: r
theorem mem_put (lt : α → α → Bool) (x c : α) : ∀ l : List α, x ∈ put lt l c ↔ x = c ∨ x ∈ l
  | [] => by simp [put]
  | y :: r => by
    have ih := mem_put lt x c r
    unfold put
    split
    · rw [List.mem_cons, ih, List.mem_cons]
      constructor
      · rintro (h | h | h)
        · exact .inr (.inl h)
        · exact .inl h
        · exact .inr (.inr h)
      · rintro (h | h | h)
        · exact .inr (.inl h)
        · exact .inl h
        · exact .inr (.inr h)
    · split
      · rename_i e
        subst e
        simp
      · simp
theorem length_put (lt : α → α → Bool) (c : α) : ∀ l : List α, (put lt l c).length ≤ l.length + 1
  | [] => by simp [put]
  | y :: r => by
    have ih := length_put lt c r
    unfold put
    split
    · simp; omega
    · split
      · simp
      · simp
def SS (lt : α → α → Bool) (l : List α) : Prop := l.Pairwise fun x y => lt x y = true
theorem ss_put (h : Ord lt) (c : α) : ∀ l : List α, SS lt l → SS lt (put lt l c)
  | [], _ => by simp [put, SS]
  | y :: r, hs => by
    obtain ⟨h1, h2⟩ := List.pairwise_cons.1 hs
    unfold put
    split
    · rename_i hy
      refine List.pairwise_cons.2 ⟨fun z hz => ?_, ss_put h c r h2⟩
      rcases (mem_put lt z c r).1 hz with rfl | hz
      · exact hy
      · exact h1 z hz
    · rename_i hy
      split
      · exact hs
      · rename_i hne
        have hcy : lt c y = true := by
          cases e : lt c y with
          | true => rfl
          | false => exact absurd (h.tri y c (Bool.eq_false_iff.2 hy) e) hne
        refine List.pairwise_cons.2 ⟨fun z hz => ?_, hs⟩
        rcases List.mem_cons.1 hz with rfl | hz
        · exact hcy
        · exact h.trans _ _ _ hcy (h1 z hz)
theorem ss_uniq (h : Ord lt) : ∀ l1 l2 : List α, SS lt l1 → SS lt l2 → (∀ x, x ∈ l1 ↔ x ∈ l2) → l1 = l2
  | [], [], _, _, _ => rfl
  | [], b :: s, _, _, hm => absurd ((hm b).2 (List.mem_cons_self ..)) (by simp)
  | a :: r, [], _, _, hm => absurd ((hm a).1 (List.mem_cons_self ..)) (by simp)
  | a :: r, b :: s, h1, h2, hm => by
    obtain ⟨p1, q1⟩ := List.pairwise_cons.1 h1
    obtain ⟨p2, q2⟩ := List.pairwise_cons.1 h2
    have hab : a = b := by
      rcases List.mem_cons.1 ((hm a).1 (List.mem_cons_self ..)) with e | ha
      · exact e
      · rcases List.mem_cons.1 ((hm b).2 (List.mem_cons_self ..)) with e | hb
        · exact e.symm
        · have x1 := p2 a ha
          have x2 := p1 b hb
          rw [h.asym x1] at x2
          cases x2
    subst hab
    rw [ss_uniq h r s q1 q2 (fun x => ?_)]
    have hx := hm x
    constructor
    · intro hr
      rcases List.mem_cons.1 (hx.1 (List.mem_cons_of_mem _ hr)) with rfl | hs
      · have := p1 x hr
        rw [h.irrefl] at this
        cases this
      · exact hs
    · intro hs
      rcases List.mem_cons.1 (hx.2 (List.mem_cons_of_mem _ hs)) with rfl | hr
      · have := p2 x hs
        rw [h.irrefl] at this
        cases this
      · exact hr
theorem ss_fold (h : Ord lt) : ∀ (xs acc : List α), SS lt acc → SS lt (xs.foldl (put lt) acc)
  | [], _, hs => hs
  | x :: r, acc, hs => ss_fold h r _ (ss_put h x acc hs)
theorem mem_fold (lt : α → α → Bool) (x : α) : ∀ (xs acc : List α), x ∈ xs.foldl (put lt) acc ↔ x ∈ acc ∨ x ∈ xs
  | [], acc => by simp
  | y :: r, acc => by
    rw [List.foldl_cons, mem_fold lt x r, mem_put, List.mem_cons]
    constructor
    · rintro ((h | h) | h)
      · exact .inr (.inl h)
      · exact .inl h
      · exact .inr (.inr h)
    · rintro (h | h | h)
      · exact .inl (.inr h)
      · exact .inl (.inl h)
      · exact .inr h
theorem length_fold (lt : α → α → Bool) : ∀ (xs acc : List α), (xs.foldl (put lt) acc).length ≤ acc.length + xs.length
  | [], acc => by simp
  | y :: r, acc => by
    have h1 := length_fold lt r (put lt acc y)
    have h2 := length_put lt y acc
    rw [List.foldl_cons, List.length_cons]
    omega
/-- Of a row in order: what is kept is in order strictly, and is the same elements. -/
theorem compact_ss (h : Ord lt) (d : Array α) (hd : ∀ i j, i < j → j < d.size → lt d[j]! d[i]! = false) : ∀ m, m < d.size →
    SS lt (compactUpTo d (m + 1)) ∧ (∀ x, x ∈ compactUpTo d (m + 1) ↔ ∃ j, j < m + 1 ∧ d[j]! = x) ∧ ∀ x ∈ compactUpTo d (m + 1), x = d[m]! ∨ lt x d[m]! = true
  | 0, hm => by
    have e : compactUpTo d 1 = [d[0]!] := by
      rw [compactUpTo_succ, if_pos (keeps_lt_one d 0 (by omega))]
      simp [compactUpTo]
    rw [e]
    refine ⟨by simp [SS], fun x => ?_, fun x hx => .inl (by simpa using hx)⟩
    constructor
    · intro hx
      exact ⟨0, by omega, (List.mem_singleton.1 hx).symm⟩
    · rintro ⟨j, hj, rfl⟩
      have : j = 0 := by omega
      subst this
      simp
  | m + 1, hm => by
    obtain ⟨i1, i2, i3⟩ := compact_ss h d hd m (by omega)
    have hs := compactUpTo_succ d (m + 1)
    have hw := hd m (m + 1) (by omega) hm
    by_cases hk : d[m + 1]! = d[m]!
    · have hf : keeps d (m + 1) = false := keeps_neg (by omega) hk
      rw [hf] at hs
      simp only [Bool.false_eq_true, if_false, List.append_nil] at hs
      rw [hs, hk]
      refine ⟨i1, fun x => ?_, i3⟩
      rw [i2]
      constructor
      · rintro ⟨j, hj, e⟩
        exact ⟨j, by omega, e⟩
      · rintro ⟨j, hj, e⟩
        by_cases hjm : j < m + 1
        · exact ⟨j, hjm, e⟩
        · have : j = m + 1 := by omega
          subst this
          exact ⟨m, by omega, by rw [← hk]; exact e⟩
    · have hf : keeps d (m + 1) = true := keeps_pos hk
      rw [hf] at hs
      simp only [if_true] at hs
      rw [hs]
      have hlt : lt d[m]! d[m + 1]! = true := by
        cases e : lt d[m]! d[m + 1]! with
        | true => rfl
        | false => exact absurd (h.tri _ _ hw e) hk
      have hall : ∀ x ∈ compactUpTo d (m + 1), lt x d[m + 1]! = true := fun x hx => by
        rcases i3 x hx with rfl | hx
        · exact hlt
        · exact h.trans _ _ _ hx hlt
      refine ⟨List.pairwise_append.2 ⟨i1, by simp, fun x hx y hy => ?_⟩, fun x => ?_, fun x hx => ?_⟩
      · have : y = d[m + 1]! := by simpa using hy
        subst this
        exact hall x hx
      · rw [List.mem_append, i2]
        constructor
        · rintro (⟨j, hj, e⟩ | hx)
          · exact ⟨j, by omega, e⟩
          · exact ⟨m + 1, by omega, by have : x = d[m + 1]! := by simpa using hx
                                       exact this.symm⟩
        · rintro ⟨j, hj, e⟩
          by_cases hjm : j < m + 1
          · exact .inl ⟨j, hjm, e⟩
          · have : j = m + 1 := by omega
            subst this
            exact .inr (by simpa using e.symm)
      · rcases List.mem_append.1 hx with hx | hx
        · exact .inr (hall x hx)
        · exact .inl (by simpa using hx)
/-- Sorted and compacted: the same as put in one after the other. -/
theorem sort_compact (h : Ord lt) (xs : List α) : compactUpTo (xs.mergeSort fun x y => !(lt y x)).toArray (xs.mergeSort fun x y => !(lt y x)).toArray.size = xs.foldl (put lt) [] := by
  have hsort : (xs.mergeSort fun x y => !(lt y x)).Pairwise fun x y => (!(lt y x)) = true := by
    apply List.pairwise_mergeSort
    · intro a b c h1 h2
      cases e : lt c a with
      | false => rfl
      | true =>
        simp only [Bool.not_eq_true'] at h1 h2
        exfalso
        cases e2 : lt c b with
        | true => rw [h2] at e2; cases e2
        | false =>
          cases e3 : lt b c with
          | true =>
            have := h.trans _ _ _ e3 e
            rw [h1] at this
            cases this
          | false =>
            have := h.tri _ _ e2 e3
            subst this
            rw [h1] at e
            cases e
    · intro a b
      cases e : lt b a with
      | false => rfl
      | true => rw [h.asym e]; rfl
  have hmem : ∀ x, x ∈ (xs.mergeSort fun x y => !(lt y x)) ↔ x ∈ xs := fun x => List.mem_mergeSort
  generalize xs.mergeSort (fun x y => !(lt y x)) = s at hsort hmem
  have hss : SS lt (compactUpTo s.toArray s.toArray.size) ∧ ∀ x, x ∈ compactUpTo s.toArray s.toArray.size ↔ x ∈ s := by
    cases s with
    | nil => exact ⟨by simp [compactUpTo, SS], fun x => by simp [compactUpTo]⟩
    | cons a r =>
      have hc := compact_ss h (a :: r).toArray (fun i j hij hj => by
        have hj' : j < (a :: r).length := by simpa using hj
        have := List.pairwise_iff_getElem.1 hsort i j (by omega) hj' hij
        have e1 : (a :: r).toArray[j]! = (a :: r)[j] := by rw [getElem!_pos (a :: r).toArray j hj]; simp
        have e2 : (a :: r).toArray[i]! = (a :: r)[i]'(by omega) := by rw [getElem!_pos (a :: r).toArray i (by omega)]; simp
        rw [e1, e2]
        simpa using this) r.length (by simp)
      have hsz : (a :: r).toArray.size = r.length + 1 := by simp
      rw [hsz]
      refine ⟨hc.1, fun x => ?_⟩
      rw [hc.2.1]
      constructor
      · rintro ⟨j, hj, e⟩
        rw [getElem!_pos (a :: r).toArray j (by rw [hsz]; exact hj)] at e
        rw [← e]
        simp
      · intro hx
        obtain ⟨j, hj, e⟩ := List.getElem_of_mem hx
        refine ⟨j, by simpa using hj, ?_⟩
        rw [getElem!_pos (a :: r).toArray j (by simpa using hj)]
        simpa using e
  refine ss_uniq h _ _ hss.1 (ss_fold h xs [] (by simp [SS])) (fun x => ?_)
  rw [hss.2, hmem, mem_fold]
  simp
end
end Go.Proofs.Ytdeenfpcmaadcaa.M
/- Chords in order, each once: sorted and compacted by the program, put in one by one by the reference. -/
namespace Go.Proofs.Ytdeenfpcmaadcaa.M
open Go.RowKit Go.Proofs.YtdeenfpcmaadcaaW.PrintWords Go.Proofs.Ytdeenfpcmaadcaa.Pr
theorem ltB_iff (x y : Ch) : ltB x y = true ↔ (x.f0 < y.f0 ∨ x.f0 = y.f0 ∧ x.f1 < y.f1) := by simp [ltB]
theorem ltB_not (x y : Ch) : ltB x y = false ↔ ¬ (x.f0 < y.f0 ∨ x.f0 = y.f0 ∧ x.f1 < y.f1) := by rw [← ltB_iff, Bool.not_eq_true]
theorem ordB : Ord ltB where
  irrefl x := by rw [ltB_not]; omega
  trans x y z h1 h2 := by rw [ltB_iff] at *; omega
  tri x y h1 h2 := by
    rw [ltB_not] at h1 h2
    obtain ⟨a, b⟩ := x
    obtain ⟨c, d⟩ := y
    simp only at h1 h2
    rw [show a = c by omega, show b = d by omega]
/-- The chords in order, each once. -/
def setC (xs : List Ch) : List Ch := xs.foldl (put ltB) []
theorem ordC_eq (xs : List Ch) : ordC xs = setC xs := by
  have e : ltOf cmpC = ltB := by
    funext x y
    rw [Bool.eq_iff_iff, ltC_iff, ltB_iff]
  unfold ordC sortC
  rw [e]
  exact sort_compact ordB xs
theorem mem_setC (x : Ch) (xs : List Ch) : x ∈ setC xs ↔ x ∈ xs := by
  unfold setC
  rw [mem_fold]
  simp
theorem setC_length (xs : List Ch) : (setC xs).length ≤ xs.length := by
  have := length_fold ltB xs []
  unfold setC
  simpa using this
theorem srPut_ev (l : List Ch) (c : Ch) (hl : l.length ≤ 1000000) : Ev (fun k => spec_srPut.f k l c.f0 c.f1) (put ltB l c) := by
  unfold spec_srPut.f
  have e := Ev.scan0 (fun k i (_ : Unit) => spec_srPut.l0 k l i c.f0 c.f1) l (fun rest _ => l.take (l.length - rest.length) ++ put ltB rest c) (fun _ _ => True)
    (fun acc _ => by
      refine Ev.step (fun k => by rw [spec_srPut.l0]) ?_
      refine Ev.neg (by omega) ?_
      rw [Int.toNat_natCast]
      refine Ev.bindc rfl (Ev.pos (by omega) (Ev.pos (by omega) (Ev.bindc rfl (Ev.pos (by simp <;> omega) (Ev.bindc rfl (Ev.bindc rfl (Ev.pos (by simp <;> omega) (Ev.bindc rfl (Ev.bindc rfl (Ev.pos (by simp <;> omega) (Ev.val ?_)))))))))))
      simp [put])
    (fun i h acc _ => by
      have hr := rd_ch l i h
      have hdl : (l[i] :: l.drop (i + 1)).length = l.length - i := by simp <;> omega
      have ht : l.length - (l.length - i) = i := by omega
      by_cases hlt : ltB l[i] c = true
      · refine .inl ⟨(), trivial, ?_, fun r hr2 => ?_⟩
        · rw [hdl, ht, put, if_pos hlt, show l.length - (l.drop (i + 1)).length = i + 1 by simp <;> omega, List.take_succ_eq_append_getElem h, List.append_assoc]
          rfl
        · refine Ev.step (fun k => by rw [spec_srPut.l0]) ?_
          refine Ev.pos (by omega) (Ev.pos (by omega) ?_)
          rw [hr]
          refine Ev.bindc (srLess_eq _ _ _ _) (Ev.pos hlt ?_)
          rw [w64 (x := (i : Int) + 1) (by omega) (by omega)]
          exact hr2
      · refine .inr ?_
        refine Ev.step (fun k => by rw [spec_srPut.l0]) ?_
        refine Ev.pos (by omega) (Ev.pos (by omega) ?_)
        rw [hr]
        refine Ev.bindc (srLess_eq _ _ _ _) (Ev.neg hlt ?_)
        rw [hdl, ht, put, if_neg hlt]
        by_cases he : l[i] = c
        · refine Ev.pos (by rw [he]; simp) (Ev.val ?_)
          rw [if_pos he, ← List.drop_eq_getElem_cons h, List.take_append_drop]
        · refine Ev.neg (fun hh => he ?_) ?_
          · simp only [Bool.and_eq_true, beq_iff_eq] at hh
            generalize l[i] = y at hh ⊢
            obtain ⟨a, b⟩ := y
            obtain ⟨c, d⟩ := c
            rw [show a = c from hh.1, show b = d from hh.2]
          · rw [if_neg he, Int.toNat_natCast]
            refine Ev.bindc rfl (Ev.pos (by omega) (Ev.bindc rfl (Ev.pos (by simp <;> omega) (Ev.bindc rfl (Ev.bindc rfl (Ev.pos (by simp <;> omega) (Ev.bindc rfl (Ev.bindc rfl (Ev.pos (by simp <;> omega) (Ev.val ?_))))))))))
            simp only [List.nil_append, List.append_assoc, List.cons_append]
            rw [← List.drop_eq_getElem_cons h])
    () trivial
  simpa using e
end Go.Proofs.Ytdeenfpcmaadcaa.M
/- Flipping a diagonal: the four points around it, as the program finds two of them and the reference all. -/
namespace Go.Proofs.Ytdeenfpcmaadcaa.M
open Go.RowKit Go.Proofs.YtdeenfpcmaadcaaW.PrintWords Go.Proofs.Ytdeenfpcmaadcaa.Pr
theorem mem_rows {p : Int} {l : List Ch} (H : PlaneP p l) {r : List Int} : r ∈ (rgsS p l).map (·.f0) ↔ ∃ c, (c = outC p ∨ c ∈ l) ∧ r = regN p l c := by
  rw [List.mem_map]
  unfold rgsS
  constructor
  · rintro ⟨x, hx, rfl⟩
    rw [(sortR_perm _).mem_iff, List.mem_map] at hx
    obtain ⟨c, hc, rfl⟩ := hx
    exact ⟨c, List.mem_cons.1 hc, ptsW_eq H (List.mem_cons.1 hc)⟩
  · rintro ⟨c, hc, rfl⟩
    exact ⟨regS p l c, (sortR_perm _).mem_iff.2 (List.mem_map.2 ⟨c, List.mem_cons.2 hc, rfl⟩), ptsW_eq H hc⟩
theorem InR_same {P P' : List Ch} (h : ∀ x, x ∈ P ↔ x ∈ P') (c : Ch) (x : Int) : InR P c x ↔ InR P' c x := by
  unfold InR
  constructor
  · rintro ⟨h1, h2, h3⟩; exact ⟨h1, h2, fun d hd => h3 d ((h d).2 hd)⟩
  · rintro ⟨h1, h2, h3⟩; exact ⟨h1, h2, fun d hd => h3 d ((h d).1 hd)⟩
/-- What a flip of the diagonal o finds: the two other points around it. -/
structure Around (p : Int) (P rest : List Ch) (o : Ch) (u v : Int) : Prop where
  uv : u < v
  join : ∀ q, 0 ≤ q → q < p → q ≠ o.f0 → q ≠ o.f1 → ((Join p P (min q o.f0) (max q o.f0) ∧ Join p P (min q o.f1) (max q o.f1)) ↔ (q = u ∨ q = v))
  bnd : (0 ≤ u ∧ v < p) ∧ (u ≠ o.f0 ∧ u ≠ o.f1 ∧ v ≠ o.f0 ∧ v ≠ o.f1)
  quad : ∃ r ∈ (rgsS p rest).map (·.f0), quadB o r = true ∧ otherD o r = ⟨u, v⟩
  only : ∀ r ∈ (rgsS p rest).map (·.f0), quadB o r = true → otherD o r = ⟨u, v⟩
theorem quad_other {p : Int} {P : List Ch} (H : PlaneP p P) (o : Ch) (r : List Int) (y z : Int) (hr : r.Pairwise (· < ·)) (hA : o.f0 < y) (hB : y < o.f1) (hz : z < o.f0 ∨ o.f1 < z) (hm : ∀ x, x ∈ r ↔ (x = o.f0 ∨ x = y ∨ x = o.f1 ∨ x = z)) : quadB o r = true ∧ otherD o r = ⟨min y z, max y z⟩ := by
  have hu : ∀ l : List Int, l.Pairwise (· < ·) → (∀ x, x ∈ l ↔ (x = o.f0 ∨ x = y ∨ x = o.f1 ∨ x = z)) → r = l := fun l h1 h2 => rises_uniq H r l hr h1 (fun x => by rw [hm x, h2 x])
  rcases hz with hz | hz
  · have e := hu [z, o.f0, y, o.f1] (by simp; omega) (fun x => by simp; omega)
    rw [e]
    refine ⟨by unfold quadB; simp, ?_⟩
    unfold otherD
    rw [show ([z, o.f0, y, o.f1] : List Int).getD 0 0 = z from rfl, show ([z, o.f0, y, o.f1] : List Int).getD 2 0 = y from rfl, if_neg (by rw [Bool.and_eq_true, beq_iff_eq]; omega)]
    rw [show min y z = z by omega, show max y z = y by omega]
  · have e := hu [o.f0, y, o.f1, z] (by simp; omega) (fun x => by simp)
    rw [e]
    refine ⟨by unfold quadB; simp, ?_⟩
    unfold otherD
    rw [show ([o.f0, y, o.f1, z] : List Int).getD 0 0 = o.f0 from rfl, show ([o.f0, y, o.f1, z] : List Int).getD 2 0 = o.f1 from rfl, if_pos (by simp)]
    rw [show min y z = y by omega, show max y z = z by omega]
    rfl
theorem around {p : Int} {P rest : List Ch} (T : Tri p P) (hp : 4 ≤ p) {o : Ch} (ho : o ∈ P) (hr : ∀ x, x ∈ P ↔ x ∈ rest ++ [o]) (hno : o ∉ rest) (hnd : rest.Nodup) : ∃ u v, Around p P rest o u v := by
  have H := T.H
  have hok := H.pl.ok o ho
  have hee := H.ends o ho
  have hsub : ∀ d ∈ rest, d ∈ P := fun d hd => (hr d).2 (List.mem_append_left _ hd)
  have HR : PlaneP p rest := ⟨⟨fun d hd => H.pl.ok d (hsub d hd), fun c hc d hd => H.pl.no c (hsub c hc) d (hsub d hd)⟩, hnd, H.hp, fun d hd => H.ends d (hsub d hd)⟩
  have hPe : ∀ d ∈ rest, crB d o = false := fun d hd => H.pl.no d (hsub d hd) o ho
  have hO : (outC p).f0 < o.f0 ∧ o.f1 < (outC p).f1 := ⟨by show (-1 : Int) < o.f0; omega, by show o.f1 < p; omega⟩
  obtain ⟨c0, hc0, hA, hB⟩ := least_around (O := outC p) hPe HR.pl.ok hno hok hO
  have hoc : o ≠ c0 := by
    rintro rfl
    rcases hc0 with e | e
    · rw [e] at hee; have h : (0 : Int) ≤ -1 := hee.1; omega
    · exact hno e
  have h1 : c0.f0 ≤ o.f0 := hA.1
  have h2 : o.f1 ≤ c0.f1 := hB.2.1
  have hS : ∀ c x, InR P c x ↔ InR (rest ++ [o]) c x := fun c x => InR_same hr c x
  have hout : ∀ x, InR P c0 x ↔ InR rest c0 x ∧ (x ≤ o.f0 ∨ o.f1 ≤ x) := fun x => by rw [hS, split_out hoc h1 h2]
  have hin : ∀ x, InR P o x ↔ InR rest c0 x ∧ o.f0 ≤ x ∧ x ≤ o.f1 := fun x => by rw [hS, split_in hPe HR.pl.ok hno hok hoc hA hB]
  have hc0P : c0 = outC p ∨ c0 ∈ P := hc0.imp id (hsub c0)
  have hch : Child P c0 o := ⟨ho, hoc, (hout _).2 ⟨hA, by omega⟩, (hout _).2 ⟨hB, by omega⟩⟩
  obtain ⟨y, z, hy, hz, y1, y2, z1, z2, z3, hyy, hzz, hj⟩ := apexes T ho hc0P hch hp
  -- the four points' region
  have hm : ∀ x, x ∈ regN p rest c0 ↔ (x = o.f0 ∨ x = y ∨ x = o.f1 ∨ x = z) := fun x => by
    have a := hyy x
    have b := hzz x
    rw [mem_regN] at a b ⊢
    rw [hin] at a
    rw [hout] at b
    constructor
    · rintro ⟨g1, g2⟩
      by_cases g : o.f0 ≤ x ∧ x ≤ o.f1
      · rcases a.1 ⟨g1, g2, g⟩ with e | e | e <;> simp [e]
      · rcases b.1 ⟨g1, g2, by omega⟩ with e | e | e <;> simp [e]
    · intro g
      rcases g with e | e | e | e
      · exact ⟨(a.2 (.inl e)).1, (a.2 (.inl e)).2.1⟩
      · exact ⟨(a.2 (.inr (.inl e))).1, (a.2 (.inr (.inl e))).2.1⟩
      · exact ⟨(a.2 (.inr (.inr e))).1, (a.2 (.inr (.inr e))).2.1⟩
      · exact ⟨(b.2 (.inr (.inl e))).1, (b.2 (.inr (.inl e))).2.1⟩
  have hq := quad_other H o (regN p rest c0) y z (regN_rises HR c0) y1 y2 z1 hm
  -- the other regions are triangles
  have hrest : ∀ d, (d = outC p ∨ d ∈ rest) → d ≠ c0 → (regN p rest d).length = 3 := by
    intro d hd hne
    have hdP : d = outC p ∨ d ∈ P := hd.imp id (hsub d)
    have hod : o ≠ d := by
      rintro rfl
      rcases hd with e | e
      · rw [e] at hee; have h : (0 : Int) ≤ -1 := hee.1; omega
      · exact hno e
    have e : regN p rest d = regN p P d := by
      refine (regN_congr (fun x => ?_)).symm
      rw [hS]
      rcases hc0 with rfl | hc0
      · rcases hd with rfl | hd
        · exact absurd rfl hne
        · have hde := HR.ends d hd
          have hdo := HR.pl.ok d hd
          exact split_rest (c := outC p) (c' := d) (by unfold crB; rw [decide_eq_false_iff_not]; show ¬ (((-1 : Int) < d.f0 ∧ d.f0 < p ∧ p < d.f1) ∨ (d.f0 < -1 ∧ (-1 : Int) < d.f1 ∧ d.f1 < p)); omega) (by show (-1 : Int) < p; omega) hdo (.inr ⟨by show (-1 : Int) < d.f0; omega, by show d.f1 < p; omega⟩) (.inl hd) hno hok (Ne.symm hne) hoc hod hA hB x
      · have hce := HR.ends c0 hc0
        have hco := HR.pl.ok c0 hc0
        rcases hd with rfl | hd
        · exact split_rest (c := c0) (c' := outC p) (by unfold crB; rw [decide_eq_false_iff_not]; show ¬ ((c0.f0 < -1 ∧ (-1 : Int) < c0.f1 ∧ c0.f1 < p) ∨ ((-1 : Int) < c0.f0 ∧ c0.f0 < p ∧ p < c0.f1)); omega) hco (by show (-1 : Int) < p; omega) (.inl hc0) (.inr ⟨by show (-1 : Int) < c0.f0; omega, by show c0.f1 < p; omega⟩) hno hok (Ne.symm hne) hoc hod hA hB x
        · exact split_rest (c := c0) (c' := d) (HR.pl.no c0 hc0 d hd) hco (HR.pl.ok d hd) (.inl hc0) (.inl hd) hno hok (Ne.symm hne) hoc hod hA hB x
    rw [e]
    exact tri_three T hdP hp
  have hyz : y ≠ z := by omega
  refine ⟨min y z, max y z, ?_, fun q g0 g1 g2 g3 => ?_, ?_, ⟨regN p rest c0, (mem_rows HR).2 ⟨c0, hc0, rfl⟩, hq⟩, fun r hrm hqr => ?_⟩
  · omega
  · rw [hj q g0 g1 g2 g3]
    omega
  · omega
  · obtain ⟨d, hd, rfl⟩ := (mem_rows HR).1 hrm
    by_cases e : d = c0
    · rw [e]; exact hq.2
    · have h3 := hrest d hd e
      unfold quadB at hqr
      rw [h3] at hqr
      simp at hqr
end Go.Proofs.Ytdeenfpcmaadcaa.M
/- The program's FlipDiagonal returns what the reference's returns, for all arguments. -/
namespace Go.Proofs.Ytdeenfpcmaadcaa.Pure
open Go.RowKit Go.Proofs.Ytdeenfpcmaadcaa.Pr Go.Proofs.Ytdeenfpcmaadcaa.M Go.Proofs.YtdeenfpcmaadcaaW.PrintWords Go.Proofs.YtdeenfpcmaadcaaW.PrintLast Go.Proofs.YtdeenfpcmaadcaaW.PrintMore
theorem tri_good {p : Int} {l : List Ch} (h : triB p l = true) : goodB p l = true := by
  unfold triB at h
  simp only [Bool.and_eq_true] at h
  exact h.1
theorem tri_of {p : Int} {l : List Ch} (h : triB p l = true) : Tri p l ∧ pairsN l = 0 := by
  have hg := tri_good h
  unfold triB at h
  simp only [Bool.and_eq_true, decide_eq_true_eq, List.all_eq_true] at h
  exact ⟨⟨planeP_of hg h.2.2.1, fun d hd => by have := h.2.2.2 d hd; unfold dgB at this; simpa using this, h.2.1⟩, h.2.2.1⟩
theorem chain_ss (p : Int) : ∀ (l : List Ch) (prev : Option Ch), chain p prev l = true → SS ltB l
  | [], _, _ => List.Pairwise.nil
  | d :: r, prev, h => by
    unfold chain at h
    simp only [Bool.and_eq_true] at h
    exact List.pairwise_cons.2 ⟨fun c hc => chain_lt p r d h.2.2 c hc, chain_ss p r (some d) h.2.2⟩
theorem good_ss {p : Int} {l : List Ch} (h : goodB p l = true) : SS ltB l := by
  unfold goodB at h
  simp only [Bool.and_eq_true] at h
  exact chain_ss p l none h.2.2
theorem mem_nums (q : Int → Bool) (x : Int) : ∀ (d : Nat) (lo : Int), x ∈ numsP q lo d ↔ (lo ≤ x ∧ x < lo + d) ∧ q x = true
  | 0, lo => by simp [numsP]; omega
  | d + 1, lo => by
    have ih := mem_nums q x d (lo + 1)
    rw [numsP]
    by_cases h : q lo = true
    · rw [if_pos h, List.mem_cons, ih]
      constructor
      · rintro (rfl | ⟨h1, h2⟩)
        · exact ⟨by omega, h⟩
        · exact ⟨by omega, h2⟩
      · rintro ⟨h1, h2⟩
        by_cases e : x = lo
        · exact .inl e
        · exact .inr ⟨by omega, h2⟩
    · rw [if_neg h, ih]
      constructor
      · rintro ⟨h1, h2⟩; exact ⟨by omega, h2⟩
      · rintro ⟨h1, h2⟩
        refine ⟨?_, h2⟩
        by_cases e : x = lo
        · rw [e] at h2; exact absurd h2 h
        · omega
theorem nums_rises (q : Int → Bool) : ∀ (d : Nat) (lo : Int), (numsP q lo d).Pairwise (· < ·)
  | 0, _ => List.Pairwise.nil
  | d + 1, lo => by
    rw [numsP]
    split
    · refine List.pairwise_cons.2 ⟨fun x hx => ?_, nums_rises q d (lo + 1)⟩
      have := ((mem_nums q x d (lo + 1)).1 hx).1
      omega
    · exact nums_rises q d (lo + 1)
theorem joinB_iff {p : Int} {l : List Ch} (hp : p ≤ 60) (x y : Int) (hxy : x ≠ y) (hx : 0 ≤ x ∧ x < p) (hy : 0 ≤ y ∧ y < p) : joinB p l x y = true ↔ Join p l (min x y) (max x y) := by
  have e1 : mn x y = min x y := by unfold mn; split <;> omega
  have e2 : mx x y = max x y := by unfold mx; split <;> omega
  unfold joinB Join
  rw [diagR_eq p (cdR x y) (by unfold cdR; simp only [e1, e2]; omega) hp]
  unfold cdR dgB
  simp only [e1, e2]
  rw [Bool.and_eq_true, Bool.or_eq_true, hasC_iff]
  have hne : (x != y) = true := by simpa using hxy
  simp only [hne, true_and, Bool.not_eq_true', decide_eq_false_iff_not]
theorem others_eq {p : Int} {P rest : List Ch} {o : Ch} {u v : Int} (H : PlaneP p P) (h60 : p ≤ 60) (ho : (0 ≤ o.f0 ∧ o.f0 < o.f1) ∧ o.f1 < p) (h : Around p P rest o u v) : numsP (otherB p P o) 0 p.toNat = [u, v] := by
  have h3 := H.hp
  refine rises_uniq H _ _ (nums_rises _ _ _) (by have := h.uv; simp [this]) (fun x => ?_)
  rw [mem_nums]
  have hb := h.bnd
  have huv := h.uv
  unfold otherB
  simp only [Bool.and_eq_true, bne_iff_ne]
  constructor
  · rintro ⟨h1, h2, h3, h4, h5⟩
    have e := (h.join x (by omega) (by omega) h2 h3).1 ⟨(joinB_iff h60 x o.f0 h2 (by omega) (by omega)).1 h4, (joinB_iff h60 x o.f1 h3 (by omega) (by omega)).1 h5⟩
    simpa using e
  · intro hx
    have hx : x = u ∨ x = v := by simpa using hx
    have g : (0 ≤ x ∧ x < p) ∧ x ≠ o.f0 ∧ x ≠ o.f1 := by rcases hx with e | e <;> (rw [e]; omega)
    have e := (h.join x g.1.1 g.1.2 g.2.1 g.2.2).2 hx
    exact ⟨by omega, g.2.1, g.2.2, (joinB_iff h60 x o.f0 g.2.1 (by omega) (by omega)).2 e.1, (joinB_iff h60 x o.f1 g.2.2 (by omega) (by omega)).2 e.2⟩
/-- What both give: the set with the other diagonal. -/
def flipB (p : Int) (l : List Ch) (i : Int) : List Ch × Bool :=
  if triB p l = true ∧ inB i 0 ((l.length : Int) - 1) = true then (setC (l.set i.toNat (match numsP (otherB p l (l.getD i.toNat ⟨0, 0⟩)) 0 p.toNat with | [u, v] => ⟨u, v⟩ | _ => ⟨0, 0⟩)), true) else ([], false)
theorem flip_at {p : Int} {l : List Ch} {m : Nat} (h : triB p l = true) (hm : m < l.length) : ∃ u v, Around p l (l.take m ++ l.drop (m + 1)) l[m] u v ∧ numsP (otherB p l l[m]) 0 p.toNat = [u, v] := by
  have hg := tri_good h
  obtain ⟨hp, h40, hv⟩ := good_ok hg
  obtain ⟨T, h0⟩ := tri_of h
  have hlen := T.len
  have hnd := T.H.nd
  have e : l = l.take m ++ l[m] :: l.drop (m + 1) := by rw [← List.drop_eq_getElem_cons hm, List.take_append_drop]
  have hp1 : (l.take m ++ l[m] :: l.drop (m + 1)).Perm (l[m] :: (l.take m ++ l.drop (m + 1))) := List.perm_middle
  rw [← e] at hp1
  have hn2 := (hp1.nodup_iff).1 hnd
  obtain ⟨hno, hn3⟩ := List.nodup_cons.1 hn2
  obtain ⟨u, v, ha⟩ := around T (by omega) (List.getElem_mem hm) (rest := l.take m ++ l.drop (m + 1)) (fun x => by
    rw [hp1.mem_iff, List.mem_append, List.mem_cons, List.mem_singleton]
    exact or_comm) hno hn3
  have hvm := hv l[m] (List.getElem_mem hm)
  exact ⟨u, v, ha, others_eq T.H hp.2 ⟨⟨hvm.1, hvm.2.1⟩, hvm.2.2⟩ ha⟩
theorem getD_at (l : List Ch) (m : Nat) (h : m < l.length) : l.getD m ⟨0, 0⟩ = l[m] := by simp [List.getD_eq_getElem?_getD, List.getElem?_eq_getElem h]
theorem flip_impl (p : Int) (l : List Ch) (i : Int) (hl : l.length ≤ 1048576) : Ev (fun k => impl_FlipDiagonal.f k p l i) (flipB p l i) := by
  unfold impl_FlipDiagonal.f
  refine Ev.bindk (leaves_ev p l hl) ?_
  unfold flipB
  by_cases h : triB p l = true
  · obtain ⟨hp, h40, hv⟩ := good_ok (tri_good h)
    refine Ev.pos h (Ev.pos (by omega) ?_)
    by_cases hi : inB i 0 ((l.length : Int) - 1) = true
    · refine Ev.pos hi ?_
      have hi2 : 0 ≤ i ∧ i < (l.length : Int) := by unfold inB at hi; simp at hi; omega
      have hm : i.toNat < l.length := by omega
      obtain ⟨u, v, ha, hn⟩ := flip_at h hm
      rw [getD_at l i.toNat hm, hn]
      refine Ev.pos (by simp) ?_
      have huv := ha.uv
      have e : cdR (([u, v] : List Int).getD 0 0) (([u, v] : List Int).getD 1 0) = ⟨u, v⟩ := by
        show (⟨mn u v, mx u v⟩ : Ch) = ⟨u, v⟩
        unfold mn mx
        rw [if_neg (by omega), if_pos huv]
      have e2 : impl_ordered.f (l.set i.toNat (cdR (([u, v] : List Int).getD 0 0) (([u, v] : List Int).getD 1 0))) = some (setC (l.set i.toNat ⟨u, v⟩)) := by
        unfold impl_ordered.f
        rw [e, if_pos (by rw [List.length_set]; omega), ordC_eq]
      refine Ev.bindc e2 (Ev.val ?_)
      rw [if_pos ⟨h, hi⟩]
    · exact Ev.neg hi (Ev.val (by rw [if_neg (fun q => hi q.2)]))
  · exact Ev.neg h (Ev.val (by rw [if_neg (fun q => h q.1)]))
theorem set_put {l : List Ch} (hs : SS ltB l) {m : Nat} (hm : m < l.length) (c : Ch) : setC (l.set m c) = put ltB (l.take m ++ l.drop (m + 1)) c := by
  refine ss_uniq ordB _ _ (ss_fold ordB _ _ List.Pairwise.nil) (ss_put ordB c _ ?_) (fun x => ?_)
  · refine List.Pairwise.sublist ?_ hs
    conv => rhs; rw [← List.take_append_drop m l]
    refine List.Sublist.append_left ?_ _
    rw [← List.drop_drop]
    exact List.drop_sublist _ _
  · rw [mem_setC, mem_put, List.set_eq_take_append_cons_drop, if_pos hm, List.mem_append, List.mem_cons, List.mem_append]
    constructor
    · rintro (h | h | h)
      · exact .inr (.inl h)
      · exact .inl h
      · exact .inr (.inr h)
    · rintro (h | h | h)
      · exact .inr (.inl h)
      · exact .inl h
      · exact .inr (.inr h)
theorem plane_rest {p : Int} {l : List Ch} (H : PlaneP p l) (m : Nat) : PlaneP p (l.take m ++ l.drop (m + 1)) := by
  have hsub : (l.take m ++ l.drop (m + 1)).Sublist l := by
    conv => rhs; rw [← List.take_append_drop m l]
    refine List.Sublist.append_left ?_ _
    rw [← List.drop_drop]
    exact List.drop_sublist _ _
  exact ⟨⟨fun d hd => H.pl.ok d (hsub.subset hd), fun c hc d hd => H.pl.no c (hsub.subset hc) d (hsub.subset hd)⟩, H.nd.sublist hsub, H.hp, fun d hd => H.ends d (hsub.subset hd)⟩
theorem flip_spec (p : Int) (l : List Ch) (i : Int) (hl : l.length ≤ 1048576) : Ev (fun k => spec_FlipDiagonal.f k p l i) (flipB p l i) := by
  unfold spec_FlipDiagonal.f
  refine Ev.bindk (cdGood_ev p l (by omega)) ?_
  unfold flipB
  by_cases hg : goodB p l = true
  · obtain ⟨hp, h40, hv⟩ := good_ok hg
    refine Ev.pos hg (Ev.bindk (reTri_ev p l hl hg) ?_)
    by_cases h : triB p l = true
    · refine Ev.pos h (Ev.pos (by omega) ?_)
      by_cases hi : inB i 0 ((l.length : Int) - 1) = true
      · refine Ev.pos hi ?_
        have hi2 : 0 ≤ i ∧ i < (l.length : Int) := by unfold inB at hi; simp at hi; omega
        have hm : i.toNat < l.length := by omega
        obtain ⟨u, v, ha, hn⟩ := flip_at h hm
        obtain ⟨T, h0⟩ := tri_of h
        have HR := plane_rest T.H i.toNat
        rw [getD_at l i.toNat hm, hn]
        generalize hrest : l.take i.toNat ++ l.drop (i.toNat + 1) = rest at ha HR
        have hrl : rest.length ≤ 40 := by rw [← hrest, List.length_append, List.length_take, List.length_drop]; omega
        have e1 : spec_reList.f p rest = some ((rgsS p rest).map (·.f0)) := by
          unfold spec_reList.f
          rw [if_pos ⟨⟨by omega, by omega⟩, by omega⟩, ref_eq HR]
        refine Ev.bindc e1 (Ev.pos ⟨?_, fun r hr => ?_⟩ ?_)
        · rw [List.length_map]
          unfold rgsS
          rw [(sortR_perm _).length_eq, List.length_map, List.length_cons]
          omega
        · obtain ⟨c, hc, rfl⟩ := (mem_rows HR).1 hr
          have := pts_le p rest c
          omega
        · unfold flipS
          obtain ⟨r, hr, hq, ho⟩ := ha.quad
          have hf : ∃ r, ((rgsS p rest).map (·.f0)).find? (quadB l[i.toNat]) = some r := by
            cases e : ((rgsS p rest).map (·.f0)).find? (quadB l[i.toNat]) with
            | some r => exact ⟨r, rfl⟩
            | none => exact absurd hq (List.find?_eq_none.1 e r hr)
          obtain ⟨r2, hr2⟩ := hf
          rw [hr2]
          have e2 := ha.only r2 (List.mem_of_find?_eq_some hr2) (List.find?_some hr2)
          simp only [e2]
          refine Ev.bindk (srPut_ev rest ⟨u, v⟩ (by omega)) (Ev.val ?_)
          rw [if_pos ⟨h, hi⟩, set_put (good_ss hg) hm, hrest]
      · exact Ev.neg hi (Ev.val (by rw [if_neg (fun q => hi q.2)]))
    · exact Ev.neg h (Ev.val (by rw [if_neg (fun q => h q.1)]))
  · exact Ev.neg hg (Ev.val (by rw [if_neg (fun q => hg (tri_good q.1))]))
theorem flip_small (p : Int) (l : List Ch) (i : Int) : (flipB p l i).1.length ≤ 1000 := by
  unfold flipB
  split
  · rename_i h
    obtain ⟨hp, h40, hv⟩ := good_ok (tri_good h.1)
    refine Nat.le_trans (setC_length _) ?_
    rw [List.length_set]
    omega
  · simp
theorem FnExactFlipDiagonal : ∀ (a0 : Int) (l1 : List S49) (a2 : Int), (Lit.int .i64 a0).wf = true → l1.length ≤ maxLen → (∀ x ∈ l1, (Lit.int .i64 x.f0).wf = true ∧ (Lit.int .i64 x.f1).wf = true) → (Lit.int .i64 a2).wf = true → ∃ k, laws_FnExactFlipDiagonal.f k a0 l1 a2 = some true := by
  intro a0 l a2 _ hm _ _
  refine Ev.rounds ?_
  unfold laws_FnExactFlipDiagonal.f
  by_cases hl : l.length ≤ 1048576
  · have hml : (l.map toC).length ≤ 1048576 := by simpa using hl
    have h1 := flip_small a0 (l.map toC) a2
    refine Ev.bindc (szC_small l hl) (Ev.neg (by omega) ?_)
    refine Ev.bindk (toC_ev l hl) (Ev.bindk (flip_spec a0 _ a2 (by omega)) (Ev.bindk (flip_impl a0 _ a2 (by omega)) (Ev.pos ⟨rfl, by omega⟩ ?_)))
    refine Ev.bindk (eqC_ev _ (by omega)) (Ev.bindk (eqC_ev _ (by omega)) (Ev.bindk (markC_ev _ 1 (by omega) (by omega)) (Ev.bindk (markC_ev _ 1 (by omega) (by omega)) (Ev.bindk (heldC_ev _ 1 (by omega) (by omega)) ?_))))
    exact Ev.pos ⟨rfl, rfl, by simp only; omega, by simp only; omega, rfl, by rw [upC_length]⟩ (Ev.now true)
  · exact Ev.bindc (szC_big l (by omega) hm) (Ev.pos (by omega) (Ev.now true))
end Go.Proofs.Ytdeenfpcmaadcaa.Pure
/- Shared steps of the rows: an argument that is a slice of structs of whole numbers, read as a list of lists of numbers. -/
namespace Go.Proofs.Ytdeenfpcmaadcaa.RowA
open Go.ChangeShapes Go.WideShapes Go.Deep Go.RowKit Go.Proofs.YtdeenfpcmaadcaaW.PrintWords
section
variable {H : Type} {enc : TypeId × Value → H} {P : Program} {w : World} {base : Nat} {spare : Nat → Bool} {held : Bool}
/-- A slice of structs whose fields are one cell each: nil, or an address with, for each element and each field, the cell and the field's own reading. -/
theorem open_cells {t e : TypeId} {fs : Array Field} {fuel : Nat} {cs : List Value} {x : DataW H × List MemPlace} (ht : P.underlying t = some (.slice e)) (he : P.underlying e = some (.struct fs))
    (hone : oneCellFields P fs = true) (hC : P.cellsOf e = fs.size) (h : DataW.trod enc P w base spare held fuel t cs = some x) :
    cs = [.slice none 0 0] ∨
    ∃ (a : Addr) (len cap : Nat), cs = [.slice (some a) len cap] ∧ len ≤ cap ∧ cap ≤ maxLen ∧
      ∀ i, i < len → ∃ n, ∀ (j : Nat) (f : Field), fs[j]? = some f → ∃ (v : Value) (y : DataW H × List MemPlace), w.cell? (a.add (i * fs.size + j)) = some v ∧ DataW.trod enc P w base spare held n f.type [v] = some y := by
  rcases open_slice ht h with h0 | ⟨a, len, cap, m, n, D, Pl, hcs, hb, hl, hm, hmm, hx, hi⟩
  · exact .inl h0.1
  · refine .inr ⟨a, len, cap, hcs, hl, hm, fun i hil => ?_⟩
    have him : i < m := by
      rw [hmm]
      split
      · omega
      · exact hil
    obtain ⟨cs', hc, ht'⟩ := hi i him
    rw [hC] at hc
    obtain ⟨ys, n', hn', hy, hlen, hyl, hf⟩ := DataW.trod_struct he ht'
    obtain ⟨_, hcl, hat⟩ := World.cells?_some hc
    refine ⟨n', fun j f hj => ?_⟩
    obtain ⟨ho, hk⟩ := hone_of hone j f hj
    have hjl : j < fs.size := (Array.getElem?_eq_some_iff.1 hj).1
    have hcell := hat j hjl
    have hv : cs'[j]? = some (cs'[j]'(by omega)) := List.getElem?_eq_getElem (by omega)
    have h1 := hf j f hj
    rw [ho, hk] at h1
    have hone' : (cs'.drop j).take 1 = [cs'[j]'(by omega)] := by
      rw [List.drop_eq_getElem_cons (by omega)]
      rfl
    rw [hone'] at h1
    have hys : ys[j]? = some (ys[j]'(by omega)) := List.getElem?_eq_getElem (by omega)
    refine ⟨_, _, ?_, h1.trans hys⟩
    rw [← Go.Deep.add_add, hcell, hv]
/-- One whole number's reading. -/
theorem read_i64 {t : TypeId} {n : Nat} {v : Value} {y : DataW H × List MemPlace} (hu : P.underlying t = some (.int .i64)) (h : DataW.trod enc P w base spare held n t [v] = some y) :
    ∃ z : Int, v = .int .i64 z ∧ (Lit.int .i64 z).wf = true := by
  obtain ⟨z, hz, _, hw⟩ := DataW.trod_int hu h
  simp at hz
  exact ⟨z, hz, hw⟩
/-- A slice of structs of m whole numbers, as it is handed over: the numbers by element and field. -/
theorem open_nums {t e : TypeId} {fs : Array Field} {a : Option Addr} {len cap : Nat} {d : DataW H} {ps : List MemPlace} (ht : P.underlying t = some (.slice e)) (he : P.underlying e = some (.struct fs))
    (hone : oneCellFields P fs = true) (hC : P.cellsOf e = fs.size) (hi : ∀ (j : Nat) (f : Field), fs[j]? = some f → P.underlying f.type = some (.int .i64))
    (h : DataW.Trod enc P w base spare held t (.slice a len cap) d ps) :
    len ≤ cap ∧ len ≤ maxLen ∧ ∃ z : Nat → Nat → Int, (∀ i j, i < len → j < fs.size → (Lit.int .i64 (z i j)).wf = true) ∧
      (0 < len → ∃ ad, a = some ad ∧ ∀ i j, i < len → j < fs.size → w.cell? (ad.add (i * fs.size + j)) = some (.int .i64 (z i j))) := by
  obtain ⟨fuel, hf⟩ := h
  rcases open_cells ht he hone hC hf with hcs | ⟨x, l, c, hcs, hl, hm, hcell⟩
  · simp [Value.cells] at hcs
    obtain ⟨rfl, rfl, rfl⟩ := hcs
    exact ⟨Nat.le_refl _, Nat.zero_le _, fun _ _ => 0, fun i j h => absurd h (Nat.not_lt_zero _), fun h => absurd h (Nat.not_lt_zero _)⟩
  · simp [Value.cells] at hcs
    obtain ⟨rfl, rfl, rfl⟩ := hcs
    refine ⟨hl, Nat.le_trans hl hm, ?_⟩
    have hz : ∀ i j, ∃ z : Int, i < len → j < fs.size → w.cell? (x.add (i * fs.size + j)) = some (.int .i64 z) ∧ (Lit.int .i64 z).wf = true := by
      intro i j
      by_cases h1 : i < len
      · by_cases h2 : j < fs.size
        · obtain ⟨n, hn⟩ := hcell i h1
          obtain ⟨v, y, hv, hy⟩ := hn j fs[j] (Array.getElem?_eq_getElem h2)
          obtain ⟨z, rfl, hw⟩ := read_i64 (hi j fs[j] (Array.getElem?_eq_getElem h2)) hy
          exact ⟨z, fun _ _ => ⟨hv, hw⟩⟩
        · exact ⟨0, fun _ h => absurd h h2⟩
      · exact ⟨0, fun h _ => absurd h h1⟩
    exact ⟨fun i j => (hz i j).choose, fun i j h1 h2 => ((hz i j).choose_spec h1 h2).2, fun _ => ⟨x, rfl, fun i j h1 h2 => ((hz i j).choose_spec h1 h2).1⟩⟩
/-- A row of whole numbers, as the walk reads it. -/
theorem open_row {t e : TypeId} {k : IntKind} {a : Option Addr} {len cap : Nat} {d : DataW H} {ps : List MemPlace} (ht : P.underlying t = some (.slice e)) (he : P.underlying e = some (.int k)) (hc : P.cellsOf e = 1)
    (h : DataW.Trod enc P w base spare held t (.slice a len cap) d ps) :
    len ≤ cap ∧ len ≤ maxLen ∧ ∃ l : List Int, (∀ x ∈ l, (Lit.int k x).wf = true) ∧ l.length = len ∧ (Kd.int k).C w a l.length l := by
  obtain ⟨fuel, hf⟩ := h
  rcases Go.ChangeShapes.open_ints ht he hc hf with ⟨hcs, _⟩ | ⟨x, l, c, zs, hcs, _, hl, hm, hz, _, hcell, hw⟩
  · simp [Value.cells] at hcs
    obtain ⟨rfl, rfl, rfl⟩ := hcs
    exact ⟨Nat.le_refl _, Nat.zero_le _, [], fun x hx => (List.not_mem_nil hx).elim, rfl, Kd.C_nil _ _⟩
  · simp [Value.cells] at hcs
    obtain ⟨rfl, rfl, rfl⟩ := hcs
    have hlz : len ≤ zs.length := by rw [hz]; split <;> omega
    have hlen : (zs.take len).length = len := by rw [List.length_take]; omega
    refine ⟨hl, Nat.le_trans hl hm, zs.take len, fun n hn => hw n (List.mem_of_mem_take hn), hlen, ?_⟩
    refine Kd.C_of_reads (d := (0 : Int)) ⟨rfl, by rw [hlen]; unfold maxLen at hm; omega, fun _ => ⟨x, rfl, fun j hj => ?_⟩⟩
    rw [hlen] at hj
    have e1 := hcell j (by omega)
    have e2 : (zs.take len).getD j 0 = zs.getD j 0 := by
      simp only [List.getD_eq_getElem?_getD, List.getElem?_take, if_pos hj]
    rw [e2]
    exact e1
/-- The same, of one reading. -/
theorem open_nums_at {t e : TypeId} {fs : Array Field} {a : Option Addr} {len cap fuel : Nat} {x : DataW H × List MemPlace} (ht : P.underlying t = some (.slice e)) (he : P.underlying e = some (.struct fs))
    (hone : oneCellFields P fs = true) (hC : P.cellsOf e = fs.size) (hi : ∀ (j : Nat) (f : Field), fs[j]? = some f → P.underlying f.type = some (.int .i64))
    (hf : DataW.trod enc P w base spare held fuel t [.slice a len cap] = some x) :
    len ≤ cap ∧ len ≤ maxLen ∧ ∃ z : Nat → Nat → Int, (∀ i j, i < len → j < fs.size → (Lit.int .i64 (z i j)).wf = true) ∧
      (0 < len → ∃ ad, a = some ad ∧ ∀ i j, i < len → j < fs.size → w.cell? (ad.add (i * fs.size + j)) = some (.int .i64 (z i j))) :=
  open_nums (d := x.1) (ps := x.2) ht he hone hC hi ⟨fuel, by simpa [Value.cells] using hf⟩
/-- A struct of one slice. -/
theorem open_one {r : Reach} {b0 : Nat} {t e : TypeId} {f0 : Field} {v : Value} {d : DataW H} {p : List MemPlace} (hs : P.underlying t = some (.struct #[f0])) (hf0 : P.underlying f0.type = some (.slice e)) (hone : oneCellFields P #[f0] = true) (hC : P.cellsOf t = 1)
    (hv : Value.okWide P w r b0 t v) (h : DataW.Trod enc P w base spare held t v d p) :
    ∃ (a : Option Addr) (len cap : Nat) (y : DataW H × List MemPlace) (n : Nat), v = .agg #[.slice a len cap] ∧ DataW.trod enc P w base spare held n f0.type [.slice a len cap] = some y := by
  obtain ⟨cs, rfl, hsz⟩ := okWide_struct hs hv
  rw [hC] at hsz
  obtain ⟨c0, rfl⟩ : ∃ c, cs = #[c] := Array.size_eq_one_iff.mp hsz
  obtain ⟨fuel, hf⟩ := h
  obtain ⟨ys, n', hn', hy, hlen, hyl, hg⟩ := DataW.trod_struct hs hf
  obtain ⟨o0, k0⟩ := hone_of hone 0 f0 rfl
  have h1 := hg 0 f0 rfl
  rw [o0, k0] at h1
  have hv1 : (List.drop 0 (Value.agg #[c0]).cells.toList).take 1 = [c0] := rfl
  have h2 : DataW.trod enc P w base spare held n' f0.type [c0] = ys[0]? := h1
  have hys : ys[0]? = some (ys[0]'(by rw [hyl]; exact Nat.zero_lt_one)) := List.getElem?_eq_getElem _
  rw [hys] at h2
  rcases open_slice hf0 h2 with h0 | ⟨a, len, cap, m, n, D, Pl, hcs, _⟩
  · have := h0.1
    simp at this
    subst this
    exact ⟨none, 0, 0, _, n', rfl, h2⟩
  · simp at hcs
    subst hcs
    exact ⟨some a, len, cap, _, n', rfl, h2⟩
/-- A desk: a struct of two whole numbers, a whole number and a text. -/
theorem open_desk {r : Reach} {b0 : Nat} {t : TypeId} {F0 F1 F2 G0 G1 : Field} {v : Value} {d : DataW H} {p : List MemPlace} (hs : P.underlying t = some (.struct #[F0, F1, F2])) (hs0 : P.underlying F0.type = some (.struct #[G0, G1]))
    (g0 : P.underlying G0.type = some (.int .i64)) (g1 : P.underlying G1.type = some (.int .i64)) (f1 : P.underlying F1.type = some (.int .i64)) (f2 : P.underlying F2.type = some .string) (hone : oneCellFields P #[G0, G1] = true)
    (hC : (P.cellsOf t == 4 && F0.offset == 0 && P.cellsOf F0.type == 2 && F1.offset == 2 && P.cellsOf F1.type == 1 && F2.offset == 3 && P.cellsOf F2.type == 1) = true)
    (hv : Value.okWide P w r b0 t v) (h : DataW.Trod enc P w base spare held t v d p) :
    ∃ (x0 x1 x2 : Int) (s : ByteArray), v = .agg #[.int .i64 x0, .int .i64 x1, .int .i64 x2, .string s] ∧ (Lit.int .i64 x0).wf = true ∧ (Lit.int .i64 x1).wf = true ∧ (Lit.int .i64 x2).wf = true ∧ s.size ≤ maxLen := by
  simp only [Bool.and_eq_true, beq_iff_eq] at hC
  obtain ⟨⟨⟨⟨⟨⟨q0, q1⟩, q2⟩, q3⟩, q4⟩, q5⟩, q6⟩ := hC
  obtain ⟨cs, rfl, hsz⟩ := okWide_struct hs hv
  obtain ⟨l⟩ := cs
  have hl4 : l.length = 4 := hsz.trans q0
  obtain ⟨c0, c1, c2, c3, rfl⟩ : ∃ c0 c1 c2 c3, l = [c0, c1, c2, c3] := by
    match l, hl4 with
    | [c0, c1, c2, c3], _ => exact ⟨c0, c1, c2, c3, rfl⟩
  obtain ⟨fuel, hf⟩ := h
  obtain ⟨ys, n', hn', hy, hlen, hyl, hg⟩ := DataW.trod_struct hs hf
  have hyl3 : ys.length = 3 := hyl
  have k0 := hg 0 F0 rfl
  have k1 := hg 1 F1 rfl
  have k2 := hg 2 F2 rfl
  rw [q1, q2] at k0
  rw [q3, q4] at k1
  rw [q5, q6] at k2
  have k0' : DataW.trod enc P w base spare held n' F0.type [c0, c1] = ys[0]? := k0
  have k1' : DataW.trod enc P w base spare held n' F1.type [c2] = ys[1]? := k1
  have k2' : DataW.trod enc P w base spare held n' F2.type [c3] = ys[2]? := k2
  rw [List.getElem?_eq_getElem (show 0 < ys.length by omega)] at k0'
  rw [List.getElem?_eq_getElem (show 1 < ys.length by omega)] at k1'
  rw [List.getElem?_eq_getElem (show 2 < ys.length by omega)] at k2'
  obtain ⟨x2, rfl, w2⟩ := read_i64 f1 k1'
  obtain ⟨s, hs1, _, hs2⟩ := DataW.trod_string f2 k2'
  simp only [List.cons.injEq, and_true] at hs1
  subst hs1
  obtain ⟨zs, n2, _, _, _, hzl, hz⟩ := DataW.trod_struct hs0 k0'
  have hzl2 : zs.length = 2 := hzl
  obtain ⟨o0, u0⟩ := hone_of hone 0 G0 rfl
  obtain ⟨o1, u1⟩ := hone_of hone 1 G1 rfl
  have m0 := hz 0 G0 rfl
  have m1 := hz 1 G1 rfl
  rw [o0, u0] at m0
  rw [o1, u1] at m1
  have m0' : DataW.trod enc P w base spare held n2 G0.type [c0] = zs[0]? := m0
  have m1' : DataW.trod enc P w base spare held n2 G1.type [c1] = zs[1]? := m1
  rw [List.getElem?_eq_getElem (show 0 < zs.length by omega)] at m0'
  rw [List.getElem?_eq_getElem (show 1 < zs.length by omega)] at m1'
  obtain ⟨x0, rfl, w0⟩ := read_i64 g0 m0'
  obtain ⟨x1, rfl, w1⟩ := read_i64 g1 m1'
  exact ⟨x0, x1, x2, s, rfl, w0, w1, w2, hs2⟩
end
end Go.Proofs.Ytdeenfpcmaadcaa.RowA
/- The row of the law FnExactFlipDiagonal: The program's FlipDiagonal returns what the reference's returns, for all arguments. -/
namespace Go.Proofs.Ytdeenfpcmaadcaa.fnExactFlipDiagonal
open Go.ChangeShapes Go.WideShapes Go.ChangeAt Go.RowKit Go.Proofs.Ytdeenfpcmaadcaa.Pr Go.Proofs.YtdeenfpcmaadcaaW.PrintWords
open Go.ChangeMaps (open_string shut_string)
theorem own : ownKnob Try.prog.godebug = none := by kernel_rfl
theorem laidOut : laidOutB Try.prog = true := by kernel_rfl
theorem rows49 {W : World} {a : Option Addr} {len cap : Nat} {z : Nat → Nat → Int} (hm : len ≤ maxLen) (hz : 0 < len → ∃ ad, a = some ad ∧ ∀ i j, i < len → j < 2 → W.cell? (ad.add (i * 2 + j)) = some (.int .i64 (z i j)))
    (hw : ∀ i j, i < len → j < 2 → (Lit.int .i64 (z i j)).wf = true) : ∃ l : List S49, l.length = len ∧ Kd.C k49 W a l.length l ∧ ∀ x ∈ l, (Lit.int .i64 x.f0).wf = true ∧ (Lit.int .i64 x.f1).wf = true := by
  have hl : ((List.range len).map fun i => (⟨z i 0, z i 1⟩ : S49)).length = len := by simp
  refine ⟨(List.range len).map fun i => (⟨z i 0, z i 1⟩ : S49), hl, ⟨rfl, by rw [hl]; unfold maxLen at hm; omega, fun hn => ?_⟩, fun x hx => ?_⟩
  · obtain ⟨ad, e, hc⟩ := hz (by rw [hl] at hn; exact hn)
    refine ⟨ad, e, fun j p hj => ?_⟩
    have hjl : j < len := by have := (List.getElem?_eq_some_iff.1 hj).1; rw [hl] at this; exact this
    have hp : p = (⟨z j 0, z j 1⟩ : S49) := by
      rw [List.getElem?_map, List.getElem?_range hjl] at hj
      exact (Option.some.inj hj).symm
    subst hp
    refine ⟨[.int .i64 (z j 0), .int .i64 (z j 1)], rfl, k49_mk W (⟨z j 0, z j 1⟩ : S49), fun i u hi => ?_⟩
    have hi2 : i < 2 := by have := (List.getElem?_eq_some_iff.1 hi).1; exact this
    have hcell := hc j i hjl hi2
    match i, hi2, hi with
    | 0, _, hi => (obtain rfl := Option.some.inj hi; exact hcell)
    | 1, _, hi => (obtain rfl := Option.some.inj hi; exact hcell)
  · obtain ⟨i, hi, rfl⟩ := List.mem_map.1 hx
    have hil := List.mem_range.1 hi
    exact ⟨hw i 0 hil (by decide), hw i 1 hil (by decide)⟩
set_option maxRecDepth 100000 in
theorem lifted (os : Os) (started : os.Started) (H : Type) (enc : TypeId × Value → H) :
    ReturnsInHanded {} Try.checked os 6 .any (Rows.fnExactFlipDiagonalSpec.pre6 enc Try.prog Try.f6 Rows.fnExactFlipDiagonalRow.domain false) (Rows.fnExactFlipDiagonalSpec.post enc Try.prog Try.f6 false true false false) := by
  refine returnsInHanded_of_change_sized (C := Try.checked) own started (by kernel_rfl) Try.func6
    (ChangeSpec.witness6 (enc := enc) (C := Try.checked) false ⟨#[], #[.int .i64 0, .slice none 0 0, .int .i64 0], []⟩ 8 (by kernel_rfl) (by kernel_rfl) (by kernel_rfl) (by kernel_rfl)) ?_
  intro W base args ds gs before hval0 hW hcnd hsz0 _
  have hsz : (DataW.weightsEach Try.prog (Try.f6.params.toList ++ Rows.fnExactFlipDiagonalSpec.plain.varTypes Try.prog) (ds ++ gs)).all (· ≤ reachBytes) = true := hsz0
  have hval : ∀ (j : Nat) t v, Try.f6.params[j]? = some t → args[j]? = some v → Value.okWide Try.prog W .any base t v := hval0
  have hW' := hW
  obtain ⟨p, q, hA0, hV, rfl, hfz, hnd⟩ := hW
  have hA : DataW.TrodAll enc Try.prog W 0 (fun _ => true) true Try.f6.params.toList args.toList ds p := hA0
  rw [Try.params6] at hA hval hsz
  obtain ⟨v0, vs0, d0, ds0, p0, q0, hargs, rfl, rfl, h0, r0⟩ := trodAll_cons hA
  obtain ⟨v1, vs1, d1, ds1, p1, q1, rfl, rfl, rfl, h1, r1⟩ := trodAll_cons r0
  obtain ⟨v2, vs2, d2, ds2, p2, q2, rfl, rfl, rfl, h2, r2⟩ := trodAll_cons r1
  obtain ⟨rfl, rfl, rfl⟩ := trodAll_nil r2
  obtain rfl : args = #[v0, v1, v2] := by cases args; simp_all
  obtain ⟨rfl, rfl⟩ := trodVars_none hV
  obtain ⟨a0, rfl, rfl, rfl, w0⟩ := open_int Try.underlying3 (hval 0 3 v0 rfl rfl) h0
  obtain ⟨b1, len1, cap1, rfl⟩ := okWide_slice Try.underlying22 (hval 1 22 v1 rfl rfl)
  have lt1 : ∀ x ∈ p1, x.block < W.heap.size := by obtain ⟨m, hm⟩ := h1; exact DataW.trod_lt m _ _ _ hm
  obtain ⟨hl1, hm1, z1, hw1, hz1⟩ := RowA.open_nums Try.underlying22 Try.underlying49 (by kernel_rfl) (by kernel_rfl) (fun j f hj => by first | (match j, hj with | 0, hj => (cases hj; exact Try.underlying3) | 1, hj => (cases hj; exact Try.underlying3) | j + 2, hj => simp at hj) | skip) h1
  obtain ⟨l1, hn1, hr1, hf1⟩ := rows49 (cap := cap1) hm1 hz1 hw1
  subst hn1
  obtain ⟨a2, rfl, rfl, rfl, w2⟩ := open_int Try.underlying3 (hval 2 3 v2 rfl rfl) h2
  clear hA0 hval0 hsz0 hsz
  obtain ⟨k, hk⟩ := Pure.FnExactFlipDiagonal a0 l1 a2 w0 hm1 hf1 w2
  refine (laws_FnExactFlipDiagonal.calls k a0 _ _ l1 a2 true W hr1 hl1 hk).mono fun e W' he => ?_
  obtain ⟨he, bel0⟩ := he
  have bel : Below W.heap.size W W' := bel0
  subst he
  exact ⟨_, rfl, _, _, _, [], _, [], hW', trodAll_mk1 (shut_bool Try.underlying4 _), (trodAll_cons_mk (shut_int Try.underlying3 w0) (trodAll_cons_mk (Below.trod laidOut (by kernel_rfl) (of_decide_eq_true (by kernel_rfl)) h1 bel lt1) (trodAll_cons_mk (shut_int Try.underlying3 w2) trodAll_mk0))), rfl, bel.frame _, fun h => by cases h⟩
theorem over : Rows.fnExactFlipDiagonalRow.holds Try.pinned (OpenSpec.ofChange Rows.fnExactFlipDiagonalSpec) :=
  OpenClaim.holds_of_wide 6 Try.f6 rfl rfl rfl rfl rfl rfl rfl ⟨rfl, rfl, rfl, rfl, rfl⟩ rfl rfl rfl rfl rfl (by kernel_rfl) Try.func6 (by kernel_rfl)
    (of_decide_eq_true (by kernel_rfl)) (by unfold Func.isWrapper; first | (rw [if_pos (by decide +kernel)]; kernel_rfl) | (rw [if_neg (by decide +kernel)]; exact ⟨rfl, rfl⟩))
    (fun os started H enc _ => lifted os started H enc)
theorem proved : Rows.FnExactFlipDiagonalSaid := over
end Go.Proofs.Ytdeenfpcmaadcaa.fnExactFlipDiagonal
namespace Go.Proofs.Ytdeenfpcmaadcaa
/-- The row, under a short name, for the claim. -/
theorem fnExactFlipDiagonal_holds : Rows.FnExactFlipDiagonalSaid := fnExactFlipDiagonal.proved
#print axioms fnExactFlipDiagonal_holds
end Go.Proofs.Ytdeenfpcmaadcaa
