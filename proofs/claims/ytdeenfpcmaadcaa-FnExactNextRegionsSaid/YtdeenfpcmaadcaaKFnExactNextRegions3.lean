/- The program's NextRegions returns what the reference's returns, for all arguments. (Part 4 of 6.) -/
import Derived.Deep.CutBlock
import Derived.Shelf.Abstract
import Derived.Sort.Grow
import Derived.Shelf.SlSortCmp.InsertionK
import Derived.Shelf.SlGeneric
import Derived.Shelf.SlSortCmp.WholeK
import Derived.Ground.SlsfProg
import Derived.Test.YtdeenfpcmaadcaaProg
import Derived.Shelf.SlSortCmp.NoneTotal
import Derived.Test.YtdeenfpcmaadcaaKFnExactNextRegions0
import Derived.Test.YtdeenfpcmaadcaaKFnExactNextRegions1
import Derived.Test.YtdeenfpcmaadcaaKFnExactNextRegions2
/- Regions of plane sets: what the reference splits and what the program walks, in plain words. -/
namespace Go.Proofs.Ytdeenfpcmaadcaa.M
open Go.RowKit Go.Proofs.YtdeenfpcmaadcaaW.PrintWords Go.Proofs.Ytdeenfpcmaadcaa.Pr
set_option linter.unusedVariables false
set_option linter.unusedSimpArgs false
set_option linter.unusedSectionVars false

/-- A point lies at the region on the inner side of a chord: no other chord inside it covers the point. -/
def InR (P : List Ch) (c : Ch) (x : Int) : Prop := c.f0 ≤ x ∧ x ≤ c.f1 ∧ ∀ d ∈ P, d ≠ c → c.f0 ≤ d.f0 → d.f1 ≤ c.f1 → ¬ (d.f0 < x ∧ x < d.f1)
/-- Chords that are good and of which no two cross. -/
structure Plane (P : List Ch) : Prop where
  ok : ∀ c ∈ P, c.f0 < c.f1
  no : ∀ c ∈ P, ∀ d ∈ P, crB c d = false
theorem nocr {c d : Ch} (h : crB c d = false) : ¬ (c.f0 < d.f0 ∧ d.f0 < c.f1 ∧ c.f1 < d.f1) ∧ ¬ (d.f0 < c.f0 ∧ c.f0 < d.f1 ∧ d.f1 < c.f1) := by
  unfold crB at h
  have := of_decide_eq_false h
  omega
theorem ch_ne {c d : Ch} (h : c ≠ d) : c.f0 ≠ d.f0 ∨ c.f1 ≠ d.f1 := by
  by_cases h0 : c.f0 = d.f0
  · right
    intro h1
    apply h
    cases c; cases d
    simp_all
  · exact .inl h0
theorem split_in {P : List Ch} {c e : Ch} (hPe : ∀ d ∈ P, crB d e = false) (hok : ∀ d ∈ P, d.f0 < d.f1) (he : e ∉ P) (hee : e.f0 < e.f1) (hec : e ≠ c)
    (hA : InR P c e.f0) (hB : InR P c e.f1) (x : Int) : InR (P ++ [e]) e x ↔ InR P c x ∧ e.f0 ≤ x ∧ x ≤ e.f1 := by
  obtain ⟨a1, a2, a3⟩ := hA
  obtain ⟨b1, b2, b3⟩ := hB
  constructor
  · rintro ⟨h1, h2, h3⟩
    refine ⟨⟨by omega, by omega, fun d hd hdc q1 q2 hx => ?_⟩, h1, h2⟩
    have hde : d ≠ e := fun e' => he (e' ▸ hd)
    have := h3 d (List.mem_append_left _ hd) hde
    have := nocr (hPe d hd)
    have := hok d hd
    have := a3 d hd hdc q1 q2
    have := b3 d hd hdc q1 q2
    have := ch_ne hde
    omega
  · rintro ⟨⟨h1, h2, h3⟩, h4, h5⟩
    refine ⟨h4, h5, fun d hd hde q1 q2 hx => ?_⟩
    rcases List.mem_append.1 hd with hd | hd
    · have hdc : d ≠ c := by
        rintro rfl
        have := ch_ne hde
        omega
      exact h3 d hd hdc (by omega) (by omega) hx
    · rw [List.mem_singleton] at hd
      exact hde hd
theorem split_out {P : List Ch} {c e : Ch} (hec : e ≠ c) (h1 : c.f0 ≤ e.f0) (h2 : e.f1 ≤ c.f1) (x : Int) : InR (P ++ [e]) c x ↔ InR P c x ∧ (x ≤ e.f0 ∨ e.f1 ≤ x) := by
  constructor
  · rintro ⟨q1, q2, q3⟩
    refine ⟨⟨q1, q2, fun d hd => q3 d (List.mem_append_left _ hd)⟩, ?_⟩
    have := q3 e (List.mem_append_right _ (List.mem_singleton.2 rfl)) hec h1 h2
    omega
  · rintro ⟨⟨q1, q2, q3⟩, q4⟩
    refine ⟨q1, q2, fun d hd hdc => ?_⟩
    rcases List.mem_append.1 hd with hd | hd
    · exact q3 d hd hdc
    · rw [List.mem_singleton] at hd
      subst hd
      omega
theorem split_rest {P : List Ch} {c c' e : Ch} (hcc : crB c c' = false) (hok : c.f0 < c.f1) (hok' : c'.f0 < c'.f1) (hc : c ∈ P ∨ (c.f0 < c'.f0 ∧ c'.f1 < c.f1)) (hc' : c' ∈ P ∨ (c'.f0 < c.f0 ∧ c.f1 < c'.f1)) (he : e ∉ P) (hee : e.f0 < e.f1) (hne : c ≠ c') (hec : e ≠ c) (hec' : e ≠ c')
    (hA : InR P c e.f0) (hB : InR P c e.f1) (x : Int) : InR (P ++ [e]) c' x ↔ InR P c' x := by
  obtain ⟨a1, a2, a3⟩ := hA
  obtain ⟨b1, b2, b3⟩ := hB
  constructor
  · rintro ⟨q1, q2, q3⟩
    exact ⟨q1, q2, fun d hd => q3 d (List.mem_append_left _ hd)⟩
  · rintro ⟨q1, q2, q3⟩
    refine ⟨q1, q2, fun d hd hdc w1 w2 hx => ?_⟩
    rcases List.mem_append.1 hd with hd | hd
    · exact q3 d hd hdc w1 w2 hx
    · rw [List.mem_singleton] at hd
      subst hd
      have := nocr hcc
      have n1 := ch_ne hne
      have n2 := ch_ne hec'
      by_cases hin : c'.f0 ≤ c.f0 ∧ c.f1 ≤ c'.f1
      · rcases hc with hc | hc
        · exact q3 c hc hne hin.1 hin.2 (by omega)
        · omega
      · rcases hc' with hc' | hc'
        · have h1 := a3 c' hc' (Ne.symm hne) (by omega) (by omega)
          have h2 := b3 c' hc' (Ne.symm hne) (by omega) (by omega)
          omega
        · omega
/-- There is a least chord around one that crosses none. -/
theorem least_around {P : List Ch} {O e : Ch} (hPe : ∀ d ∈ P, crB d e = false) (hok : ∀ d ∈ P, d.f0 < d.f1) (he : e ∉ P) (hee : e.f0 < e.f1) (hO : O.f0 < e.f0 ∧ e.f1 < O.f1) :
    ∃ c, (c = O ∨ c ∈ P) ∧ InR P c e.f0 ∧ InR P c e.f1 := by
  have key : ∀ n : Nat, ∀ c : Ch, (c.f1 - c.f0).toNat ≤ n → (c = O ∨ c ∈ P) → c.f0 ≤ e.f0 → e.f1 ≤ c.f1 → ∃ c, (c = O ∨ c ∈ P) ∧ InR P c e.f0 ∧ InR P c e.f1 := by
    intro n
    induction n with
    | zero => intro c h _ h0 h1; omega
    | succ n ih =>
      intro c h hc h0 h1
      by_cases hx : ∃ d ∈ P, d ≠ c ∧ c.f0 ≤ d.f0 ∧ d.f1 ≤ c.f1 ∧ d.f0 ≤ e.f0 ∧ e.f1 ≤ d.f1
      · obtain ⟨d, hd, hdc, g1, g2, g3, g4⟩ := hx
        have := ch_ne hdc
        exact ih d (by omega) (.inr hd) g3 g4
      · refine ⟨c, hc, ⟨h0, by omega, fun d hd hdc q1 q2 hx2 => hx ⟨d, hd, hdc, q1, q2, ?_⟩⟩, ⟨by omega, h1, fun d hd hdc q1 q2 hx2 => hx ⟨d, hd, hdc, q1, q2, ?_⟩⟩⟩
        · have := nocr (hPe d hd); have := hok d hd; omega
        · have := nocr (hPe d hd); have := hok d hd; omega
  exact key _ O (Nat.le_refl _) (.inl rfl) (by omega) (by omega)

def inR (P : List Ch) (c : Ch) (x : Int) : Bool := decide (c.f0 ≤ x ∧ x ≤ c.f1) && P.all fun d => !(decide (d ≠ c ∧ c.f0 ≤ d.f0 ∧ d.f1 ≤ c.f1 ∧ d.f0 < x ∧ x < d.f1))
theorem inR_iff {P : List Ch} {c : Ch} {x : Int} : inR P c x = true ↔ InR P c x := by
  unfold inR InR
  rw [Bool.and_eq_true, decide_eq_true_eq, List.all_eq_true]
  constructor
  · rintro ⟨⟨h1, h2⟩, h3⟩
    refine ⟨h1, h2, fun d hd q1 q2 q3 q4 => ?_⟩
    have := h3 d hd
    rw [Bool.not_eq_true', decide_eq_false_iff_not] at this
    exact this ⟨q1, q2, q3, q4⟩
  · rintro ⟨h1, h2, h3⟩
    refine ⟨⟨h1, h2⟩, fun d hd => ?_⟩
    rw [Bool.not_eq_true', decide_eq_false_iff_not]
    rintro ⟨q1, q2, q3, q4⟩
    exact h3 d hd q1 q2 q3 q4
def ptsTo (p : Int) : List Int := (List.range p.toNat).map fun (i : Nat) => (i : Int)
theorem mem_ptsTo {p x : Int} : x ∈ ptsTo p ↔ 0 ≤ x ∧ x < p := by
  unfold ptsTo
  rw [List.mem_map]
  constructor
  · rintro ⟨i, hi, rfl⟩
    have := List.mem_range.1 hi
    omega
  · rintro ⟨h0, h1⟩
    exact ⟨x.toNat, List.mem_range.2 (by omega), by omega⟩
/-- The points of the region inside a chord. -/
def regN (p : Int) (P : List Ch) (c : Ch) : List Int := (ptsTo p).filter (inR P c)
theorem mem_regN {p : Int} {P : List Ch} {c : Ch} {x : Int} : x ∈ regN p P c ↔ (0 ≤ x ∧ x < p) ∧ InR P c x := by
  unfold regN
  rw [List.mem_filter, mem_ptsTo, inR_iff]
def hasB (e : Ch) (r : List Int) : Bool := decide (e.f0 ∈ r ∧ e.f1 ∈ r)
def cutIn (e : Ch) (r : List Int) : List Int := r.filter fun x => decide (e.f0 ≤ x ∧ x ≤ e.f1)
def cutOut (e : Ch) (r : List Int) : List Int := r.filter fun x => decide (x ≤ e.f0 ∨ e.f1 ≤ x)
def stepR (e : Ch) : List (List Int) → List (List Int)
  | [] => []
  | r :: rs => if hasB e r = true then cutIn e r :: cutOut e r :: rs else r :: stepR e rs
def insR (p : Int) (P : List Ch) (e : Ch) : List Ch → List Ch
  | [] => []
  | c :: cs => if hasB e (regN p P c) = true then e :: c :: cs else c :: insR p P e cs
theorem regN_congr {p : Int} {P P' : List Ch} {c c' : Ch} (h : ∀ x, InR P' c' x ↔ InR P c x) : regN p P' c' = regN p P c := by
  unfold regN
  apply List.filter_congr
  intro x _
  rw [Bool.eq_iff_iff, inR_iff, inR_iff]
  exact h x
/-- What the reference's step makes of the regions of chords. -/
theorem step_regs {p : Int} {P : List Ch} {O e : Ch} (hP : Plane P) (hO : ∀ d ∈ e :: P, O.f0 < d.f0 ∧ d.f1 < O.f1) (hPe : ∀ d ∈ P, crB d e = false) (he : e ∉ P) (hee : e.f0 < e.f1) (h0 : 0 ≤ e.f0) (h1 : e.f1 < p)
    {c0 : Ch} (hA : InR P c0 e.f0) (hB : InR P c0 e.f1) (hc0 : c0 = O ∨ c0 ∈ P) :
    ∀ cs : List Ch, cs.Nodup → (∀ c ∈ cs, c = O ∨ c ∈ P) → stepR e (cs.map (regN p P)) = (insR p P e cs).map (regN p (P ++ [e])) := by
  have hOe : O.f0 < e.f0 ∧ e.f1 < O.f1 := hO e (List.mem_cons_self ..)
  have hne : ∀ c, c = O ∨ c ∈ P → e ≠ c := by
    rintro c (rfl | hc) rfl
    · omega
    · exact he hc
  have hOP : ∀ d ∈ P, O.f0 < d.f0 ∧ d.f1 < O.f1 := fun d hd => hO d (List.mem_cons_of_mem _ hd)
  have hlt : ∀ c, c = O ∨ c ∈ P → c.f0 < c.f1 := by
    rintro c (rfl | hc)
    · omega
    · exact hP.ok c hc
  have hcr : ∀ c c', c = O ∨ c ∈ P → c' = O ∨ c' ∈ P → crB c c' = false := by
    rintro c c' (rfl | hc) (rfl | hc')
    · unfold crB; exact decide_eq_false (by omega)
    · have := hOP c' hc'; unfold crB; exact decide_eq_false (by omega)
    · have := hOP c hc; unfold crB; exact decide_eq_false (by omega)
    · exact hP.no c hc c' hc'
  have same : ∀ c c', c = O ∨ c ∈ P → c' = O ∨ c' ∈ P → c ≠ c' → InR P c e.f0 → InR P c e.f1 → regN p (P ++ [e]) c' = regN p P c' := by
    intro c c' hc hc' hn hA hB
    refine regN_congr (split_rest (hcr c c' hc hc') (hlt c hc) (hlt c' hc') ?_ ?_ he hee hn (hne c hc) (hne c' hc') hA hB)
    · rcases hc with rfl | hc
      · rcases hc' with rfl | hc'
        · exact absurd rfl hn
        · exact .inr (hOP c' hc')
      · exact .inl hc
    · rcases hc' with rfl | hc'
      · rcases hc with rfl | hc
        · exact absurd rfl hn
        · exact .inr (hOP c hc)
      · exact .inl hc'
  intro cs
  induction cs with
  | nil => intro _ _; rfl
  | cons c cs ih =>
    intro hnd hmem
    rw [List.nodup_cons] at hnd
    have hc := hmem c (List.mem_cons_self ..)
    rw [List.map_cons, stepR, insR]
    by_cases hb : hasB e (regN p P c) = true
    · rw [if_pos hb, if_pos hb, List.map_cons, List.map_cons]
      have hb' := of_decide_eq_true hb
      rw [mem_regN, mem_regN] at hb'
      obtain ⟨⟨_, i1⟩, ⟨_, i2⟩⟩ := hb'
      have g1 : cutIn e (regN p P c) = regN p (P ++ [e]) e := by
        unfold cutIn regN
        rw [List.filter_filter]
        apply List.filter_congr
        intro x _
        rw [Bool.eq_iff_iff, inR_iff, split_in hPe hP.ok he hee (hne c hc) i1 i2, Bool.and_eq_true, inR_iff, decide_eq_true_eq]
        exact and_comm
      have g2 : cutOut e (regN p P c) = regN p (P ++ [e]) c := by
        unfold cutOut regN
        rw [List.filter_filter]
        apply List.filter_congr
        intro x _
        rw [Bool.eq_iff_iff, inR_iff, split_out (hne c hc) i1.1 i2.2.1, Bool.and_eq_true, inR_iff, decide_eq_true_eq]
        exact and_comm
      have g3 : cs.map (regN p P) = cs.map (regN p (P ++ [e])) := by
        apply List.map_congr_left
        intro c' hc'
        exact (same c c' hc (hmem c' (List.mem_cons_of_mem _ hc')) (fun q => hnd.1 (q ▸ hc')) i1 i2).symm
      rw [g1, g2, g3]
    · rw [if_neg hb, if_neg hb, List.map_cons, ih hnd.2 (fun c' hc' => hmem c' (List.mem_cons_of_mem _ hc'))]
      congr 1
      refine (same c0 c hc0 hc ?_ hA hB).symm
      rintro rfl
      apply hb
      unfold hasB
      rw [decide_eq_true_eq, mem_regN, mem_regN]
      exact ⟨⟨by omega, hA⟩, ⟨by omega, hB⟩⟩
theorem insR_perm {p : Int} {P : List Ch} {e : Ch} : ∀ cs : List Ch, (∃ c ∈ cs, hasB e (regN p P c) = true) → (insR p P e cs).Perm (e :: cs)
  | [], h => by obtain ⟨c, hc, _⟩ := h; cases hc
  | c :: cs, h => by
    rw [insR]
    by_cases hb : hasB e (regN p P c) = true
    · rw [if_pos hb]
    · rw [if_neg hb]
      obtain ⟨c', hc', h'⟩ := h
      rcases List.mem_cons.1 hc' with rfl | hc'
      · exact absurd h' hb
      · exact ((insR_perm cs ⟨c', hc', h'⟩).cons c).trans (List.Perm.swap _ _ _)
def foldR : List Ch → List (List Int) → List (List Int)
  | [], rs => rs
  | c :: l, rs => foldR l (stepR c rs)
def outC (p : Int) : Ch := ⟨-1, p⟩
/-- The reference's regions are those of the chords and of the outer one, in some order. -/
theorem foldR_regs {p : Int} : ∀ (l P : List Ch), Plane (P ++ l) → (∀ d ∈ P ++ l, 0 ≤ d.f0 ∧ d.f1 < p) → (P ++ l).Nodup → ∀ cs : List Ch, cs.Perm (outC p :: P) →
    ∃ ds : List Ch, ds.Perm (outC p :: (P ++ l)) ∧ foldR l (cs.map (regN p P)) = ds.map (regN p (P ++ l))
  | [], P, hP, hb, hn, cs, hc => by
    rw [List.append_nil] at *
    exact ⟨cs, hc, rfl⟩
  | e :: l, P, hP, hb, hn, cs, hc => by
    have hPP : Plane P := ⟨fun c h => hP.ok c (List.mem_append_left _ h), fun c h d h' => hP.no c (List.mem_append_left _ h) d (List.mem_append_left _ h')⟩
    have hemem : e ∈ P ++ e :: l := List.mem_append_right _ (List.mem_cons_self ..)
    have hPe : ∀ d ∈ P, crB d e = false := fun d hd => hP.no d (List.mem_append_left _ hd) e hemem
    have hee := hP.ok e hemem
    have hb0 := hb e hemem
    have hn2 := List.nodup_append.1 hn
    have he : e ∉ P := fun h => hn2.2.2 e h e (List.mem_cons_self ..) rfl
    have hOO : ∀ d ∈ e :: P, (outC p).f0 < d.f0 ∧ d.f1 < (outC p).f1 := by
      intro d hd
      have : 0 ≤ d.f0 ∧ d.f1 < p := by
        rcases List.mem_cons.1 hd with rfl | hd
        · exact hb0
        · exact hb d (List.mem_append_left _ hd)
      show -1 < d.f0 ∧ d.f1 < p
      omega
    obtain ⟨c0, hc0, hA, hB⟩ := least_around hPe hPP.ok he hee (hOO e (List.mem_cons_self ..))
    have hmem : ∀ c ∈ cs, c = outC p ∨ c ∈ P := fun c h => List.mem_cons.1 (hc.mem_iff.1 h)
    have hOn : outC p ∉ P := fun h => by have := hb _ (List.mem_append_left _ h); have h2 : (0 : Int) ≤ -1 := this.1; omega
    have hnd : cs.Nodup := hc.nodup_iff.2 (List.nodup_cons.2 ⟨hOn, hn2.1⟩)
    have hs := step_regs hPP hOO hPe he hee hb0.1 hb0.2 hA hB hc0 cs hnd hmem
    have hp2 : (insR p P e cs).Perm (outC p :: (P ++ [e])) := by
      refine (insR_perm cs ⟨c0, hc.mem_iff.2 (List.mem_cons.2 hc0), ?_⟩).trans ?_
      · unfold hasB
        rw [decide_eq_true_eq, mem_regN, mem_regN]
        exact ⟨⟨by omega, hA⟩, ⟨by omega, hB⟩⟩
      · refine (hc.cons e).trans ((List.Perm.swap _ _ _).trans (List.Perm.cons _ ?_))
        exact (List.perm_append_singleton e P).symm
    have h := foldR_regs l (P ++ [e]) (by rw [List.append_assoc]; exact hP) (by rw [List.append_assoc]; exact hb) (by rw [List.append_assoc]; exact hn) _ hp2
    rw [List.append_assoc, ← hs] at h
    exact h
/-- One list of numbers before another. -/
def lexB : List Int → List Int → Bool
  | _, [] => false
  | [], _ :: _ => true
  | x :: a, y :: b => if x = y then lexB a b else decide (x < y)
theorem lexB_irrefl : ∀ a, lexB a a = false
  | [] => rfl
  | x :: a => by rw [lexB, if_pos rfl]; exact lexB_irrefl a
theorem lexB_tri : ∀ a b, lexB a b = false → lexB b a = false → a = b
  | [], [], _, _ => rfl
  | [], _ :: _, h, _ => by simp [lexB] at h
  | _ :: _, [], _, h => by simp [lexB] at h
  | x :: a, y :: b, h1, h2 => by
    rw [lexB] at h1 h2
    by_cases e : x = y
    · subst e
      rw [if_pos rfl] at h1 h2
      rw [lexB_tri a b h1 h2]
    · rw [if_neg e] at h1
      rw [if_neg (Ne.symm e)] at h2
      have := of_decide_eq_false h1
      have := of_decide_eq_false h2
      omega
theorem lexB_trans : ∀ a b c, lexB a b = true → lexB b c = true → lexB a c = true
  | [], [], _, h, _ => by simp [lexB] at h
  | [], _ :: _, [], _, h => by simp [lexB] at h
  | [], _ :: _, _ :: _, _, _ => rfl
  | _ :: _, [], _, h, _ => by simp [lexB] at h
  | _ :: _, _ :: _, [], _, h => by simp [lexB] at h
  | x :: a, y :: b, z :: c, h1, h2 => by
    rw [lexB] at h1 h2 ⊢
    by_cases e1 : x = y
    · rw [if_pos e1] at h1
      by_cases e2 : y = z
      · rw [if_pos e2] at h2
        rw [if_pos (e1.trans e2)]
        exact lexB_trans a b c h1 h2
      · rw [if_neg e2] at h2
        rw [if_neg (by omega)]
        have := of_decide_eq_true h2
        exact decide_eq_true (by omega)
    · rw [if_neg e1] at h1
      have := of_decide_eq_true h1
      by_cases e2 : y = z
      · rw [if_neg (by omega)]
        exact decide_eq_true (by omega)
      · rw [if_neg e2] at h2
        have := of_decide_eq_true h2
        rw [if_neg (by omega)]
        exact decide_eq_true (by omega)
theorem lexB_ge_trans {a b c : List Int} (h1 : lexB b a = false) (h2 : lexB c b = false) : lexB c a = false := by
  rw [Bool.eq_false_iff]
  intro h
  cases e : lexB b c with
  | true => rw [lexB_trans _ _ _ e h] at h1; cases h1
  | false =>
    have := lexB_tri b c e h2
    subst this
    rw [h1] at h
    cases h
/-- A row into rows that are in order, behind all that are not greater. -/
def insL : List (List Int) → List Int → List (List Int)
  | [], r => [r]
  | a :: l, r => if lexB r a = true then r :: a :: l else a :: insL l r
def sortL (l : List (List Int)) : List (List Int) := l.foldl insL []
def LS (l : List (List Int)) : Prop := l.Pairwise fun x y => lexB y x = false
theorem insL_perm : ∀ (l : List (List Int)) (r : List Int), (insL l r).Perm (r :: l)
  | [], _ => List.Perm.refl _
  | a :: l, r => by
    rw [insL]
    by_cases h : lexB r a = true
    · rw [if_pos h]
    · rw [if_neg h]
      exact ((insL_perm l r).cons a).trans (List.Perm.swap _ _ _)
theorem insL_sorted : ∀ (l : List (List Int)) (r : List Int), LS l → LS (insL l r)
  | [], _, _ => List.pairwise_singleton _ _
  | a :: l, r, h => by
    obtain ⟨h1, h2⟩ := List.pairwise_cons.1 h
    rw [insL]
    by_cases e : lexB r a = true
    · rw [if_pos e]
      have ea : lexB a r = false := by
        rw [Bool.eq_false_iff]
        intro e2
        have := lexB_trans _ _ _ e e2
        rw [lexB_irrefl] at this
        cases this
      refine List.pairwise_cons.2 ⟨fun z hz => ?_, h⟩
      rcases List.mem_cons.1 hz with rfl | hz
      · exact ea
      · exact lexB_ge_trans ea (h1 z hz)
    · rw [if_neg e]
      have e := Bool.eq_false_iff.2 e
      refine List.pairwise_cons.2 ⟨fun z hz => ?_, insL_sorted l r h2⟩
      rcases List.mem_cons.1 ((insL_perm l r).mem_iff.1 hz) with rfl | hz
      · exact e
      · exact h1 z hz
theorem sortL_gen : ∀ (l acc : List (List Int)), LS acc → (l.foldl insL acc).Perm (acc ++ l) ∧ LS (l.foldl insL acc)
  | [], acc, h => ⟨by rw [List.append_nil]; exact List.Perm.refl _, h⟩
  | r :: l, acc, h => by
    obtain ⟨h1, h2⟩ := sortL_gen l (insL acc r) (insL_sorted acc r h)
    refine ⟨h1.trans (((insL_perm acc r).append_right l).trans ?_), h2⟩
    exact List.perm_middle.symm
theorem sortL_perm (l : List (List Int)) : (sortL l).Perm l := (sortL_gen l [] List.Pairwise.nil).1
theorem sortL_sorted (l : List (List Int)) : LS (sortL l) := (sortL_gen l [] List.Pairwise.nil).2
theorem ls_uniq : ∀ l1 l2 : List (List Int), l1.Perm l2 → LS l1 → LS l2 → l1 = l2
  | [], l2, h, _, _ => (List.nil_perm.1 h).symm
  | a :: r, l2, h, h1, h2 => by
    cases l2 with
    | nil => exact absurd h.symm (by intro q; cases List.nil_perm.1 q)
    | cons b s =>
      obtain ⟨p1, q1⟩ := List.pairwise_cons.1 h1
      obtain ⟨p2, q2⟩ := List.pairwise_cons.1 h2
      have hab : a = b := by
        apply lexB_tri
        · rcases List.mem_cons.1 (h.mem_iff.1 (List.mem_cons_self ..)) with e | hm
          · rw [e]; exact lexB_irrefl _
          · exact p2 _ hm
        · rcases List.mem_cons.1 (h.mem_iff.2 (List.mem_cons_self ..)) with e | hm
          · rw [e]; exact lexB_irrefl _
          · exact p1 _ hm
      subst hab
      rw [ls_uniq r s ((List.perm_cons a).1 h) q1 q2]
/-- Where the walk goes on from a point: the farthest chord from it. -/
def nxF (at_ : Int) : List Ch → Int → Int
  | [], m => m
  | d :: Q, m => nxF at_ Q (if d.f0 = at_ ∧ m < d.f1 then d.f1 else m)
theorem nxF_ge (a : Int) : ∀ (Q : List Ch) (m : Int), m ≤ nxF a Q m
  | [], m => Int.le_refl _
  | d :: Q, m => by
    rw [nxF]
    by_cases h : d.f0 = a ∧ m < d.f1
    · rw [if_pos h]
      have := nxF_ge a Q d.f1
      omega
    · rw [if_neg h]
      exact nxF_ge a Q m
theorem nxF_max (a : Int) : ∀ (Q : List Ch) (m : Int), ∀ d ∈ Q, d.f0 = a → d.f1 ≤ nxF a Q m
  | e :: Q, m, d, hd, ha => by
    rw [nxF]
    rcases List.mem_cons.1 hd with rfl | hd
    · by_cases h : d.f0 = a ∧ m < d.f1
      · rw [if_pos h]
        exact nxF_ge a Q d.f1
      · rw [if_neg h]
        have := nxF_ge a Q m
        omega
    · exact nxF_max a Q _ d hd ha
theorem nxF_mem (a : Int) : ∀ (Q : List Ch) (m : Int), nxF a Q m = m ∨ ∃ d ∈ Q, d.f0 = a ∧ d.f1 = nxF a Q m
  | [], m => .inl rfl
  | e :: Q, m => by
    rw [nxF]
    by_cases h : e.f0 = a ∧ m < e.f1
    · rw [if_pos h]
      rcases nxF_mem a Q e.f1 with h2 | ⟨d, hd, h2⟩
      · exact .inr ⟨e, List.mem_cons_self .., h.1, h2.symm⟩
      · exact .inr ⟨d, List.mem_cons_of_mem _ hd, h2⟩
    · rw [if_neg h]
      rcases nxF_mem a Q m with h2 | ⟨d, hd, h2⟩
      · exact .inl h2
      · exact .inr ⟨d, List.mem_cons_of_mem _ hd, h2⟩
/-- A point that no chord of Q covers. -/
def Free (Q : List Ch) (x : Int) : Prop := ∀ d ∈ Q, ¬ (d.f0 < x ∧ x < d.f1)
def nxt (Q : List Ch) (a : Int) : Int := if nxF a Q a > a then nxF a Q a else a + 1
/-- The walk: points, chords, arcs. -/
def walkP (Q : List Ch) (b : Int) : Nat → Int → List Int
  | 0, _ => []
  | n + 1, a => if a < b then nxt Q a :: walkP Q b n (nxt Q a) else []
def walkC (Q : List Ch) (b : Int) : Nat → Int → List Ch
  | 0, _ => []
  | n + 1, a => if a < b then (if nxF a Q a > a then [(⟨a, nxF a Q a⟩ : Ch)] else []) ++ walkC Q b n (nxt Q a) else []
def walkA (Q : List Ch) (b : Int) : Nat → Int → List Int
  | 0, _ => []
  | n + 1, a => if a < b then (if nxF a Q a > a then [] else [a]) ++ walkA Q b n (nxt Q a) else []
section
variable {Q : List Ch} {lo b : Int} (hlo : ∀ d ∈ Q, lo ≤ d.f0 ∧ d.f0 < d.f1 ∧ d.f1 ≤ b) (hno : ∀ c ∈ Q, ∀ d ∈ Q, crB c d = false)
include hlo
theorem nxt_gt (a : Int) : a < nxt Q a := by
  unfold nxt
  split <;> omega
theorem nxt_le {a : Int} (h : a < b) : nxt Q a ≤ b := by
  unfold nxt
  split
  · rename_i g
    rcases nxF_mem a Q a with e | ⟨d, hd, e1, e2⟩
    · omega
    · have := hlo d hd; omega
  · omega
/-- What lies between a point of the walk and the next one is covered. -/
theorem nxt_gap {a x : Int} (h1 : a < x) (h2 : x < nxt Q a) : ¬ Free Q x := by
  intro hf
  unfold nxt at h2
  split at h2
  · rcases nxF_mem a Q a with e | ⟨d, hd, e1, e2⟩
    · omega
    · exact hf d hd (by omega)
  · omega
include hno
theorem nxt_free {a : Int} (hf : Free Q a) : Free Q (nxt Q a) := by
  intro d hd hx
  have h0 := hf d hd
  have h3 := nxF_max a Q a d hd
  have hd2 := hlo d hd
  unfold nxt at hx
  split at hx
  · rcases nxF_mem a Q a with e | ⟨c, hc, e1, e2⟩
    · omega
    · have := nocr (hno c hc d hd)
      omega
  · omega
theorem mem_walkP : ∀ (n : Nat) (a : Int), b ≤ a + n → Free Q a → ∀ x, x ∈ walkP Q b n a ↔ a < x ∧ x ≤ b ∧ Free Q x
  | 0, a, hn, hf, x => by
    rw [walkP]
    constructor
    · intro h; cases h
    · rintro ⟨h1, h2, _⟩; omega
  | n + 1, a, hn, hf, x => by
    rw [walkP]
    by_cases h : a < b
    · rw [if_pos h, List.mem_cons]
      have hg := nxt_gt hlo a
      have hle := nxt_le hlo h
      have ih := mem_walkP n (nxt Q a) (by omega) (nxt_free hlo hno hf) x
      rw [ih]
      constructor
      · rintro (rfl | ⟨h1, h2, h3⟩)
        · exact ⟨hg, hle, nxt_free hlo hno hf⟩
        · exact ⟨by omega, h2, h3⟩
      · rintro ⟨h1, h2, h3⟩
        by_cases e : x = nxt Q a
        · exact .inl e
        · refine .inr ⟨?_, h2, h3⟩
          have : ¬ x < nxt Q a := fun q => nxt_gap hlo h1 q h3
          omega
    · rw [if_neg h]
      constructor
      · intro h; cases h
      · rintro ⟨h1, h2, _⟩; omega
theorem walkP_rises : ∀ (n : Nat) (a : Int), (a :: walkP Q b n a).Pairwise (· < ·) ∧ ∀ x ∈ walkP Q b n a, a < x
  | 0, a => ⟨List.pairwise_singleton _ _, fun x h => by cases h⟩
  | n + 1, a => by
    rw [walkP]
    by_cases h : a < b
    · rw [if_pos h]
      obtain ⟨h1, h2⟩ := walkP_rises n (nxt Q a)
      have hg := nxt_gt hlo a
      have h3 : ∀ x ∈ nxt Q a :: walkP Q b n (nxt Q a), a < x := by
        intro x hx
        rcases List.mem_cons.1 hx with rfl | hx
        · exact hg
        · have := h2 x hx; omega
      exact ⟨List.pairwise_cons.2 ⟨h3, h1⟩, h3⟩
    · rw [if_neg h]
      exact ⟨List.pairwise_singleton _ _, fun x h => by cases h⟩
theorem mem_walkC : ∀ (n : Nat) (a : Int), b ≤ a + n → Free Q a → ∀ d : Ch, d ∈ walkC Q b n a ↔ d ∈ Q ∧ a ≤ d.f0 ∧ Free Q d.f0 ∧ Free Q d.f1
  | 0, a, hn, hf, d => by
    rw [walkC]
    constructor
    · intro h; cases h
    · rintro ⟨h1, h2, _⟩; have := hlo d h1; omega
  | n + 1, a, hn, hf, d => by
    rw [walkC]
    by_cases h : a < b
    · rw [if_pos h, List.mem_append]
      have hg := nxt_gt hlo a
      have hle := nxt_le hlo h
      have ih := mem_walkC n (nxt Q a) (by omega) (nxt_free hlo hno hf) d
      rw [ih]
      have hnf := nxt_free hlo hno hf
      constructor
      · rintro (h1 | ⟨h1, h2, h3⟩)
        · by_cases g : nxF a Q a > a
          · rw [if_pos g, List.mem_singleton] at h1
            subst h1
            rw [nxt, if_pos g] at hnf
            refine ⟨?_, Int.le_refl _, hf, hnf⟩
            rcases nxF_mem a Q a with e | ⟨c, hc, e1, e2⟩
            · omega
            · have : c = ⟨a, nxF a Q a⟩ := by cases c; simp_all
              rwa [← this]
          · rw [if_neg g] at h1; cases h1
        · exact ⟨h1, by omega, h3⟩
      · rintro ⟨h1, h2, h3, h4⟩
        have hd := hlo d h1
        by_cases e : d.f0 = a
        · have hm := nxF_max a Q a d h1 e
          have g : nxF a Q a > a := by omega
          refine .inl ?_
          rw [if_pos g, List.mem_singleton]
          have : d.f1 = nxF a Q a := by
            rcases nxF_mem a Q a with e' | ⟨c, hc, e1, e2⟩
            · omega
            · have := h4 c hc; omega
          cases d
          simp_all
        · refine .inr ⟨h1, ?_, h3, h4⟩
          have : ¬ d.f0 < nxt Q a := fun q => nxt_gap hlo (by omega) q h3
          omega
    · rw [if_neg h]
      constructor
      · intro h; cases h
      · rintro ⟨h1, h2, _⟩; have := hlo d h1; omega
theorem mem_walkA : ∀ (n : Nat) (a : Int), b ≤ a + n → Free Q a → ∀ i : Int, i ∈ walkA Q b n a ↔ a ≤ i ∧ i < b ∧ Free Q i ∧ Free Q (i + 1) ∧ (⟨i, i + 1⟩ : Ch) ∉ Q
  | 0, a, hn, hf, i => by
    rw [walkA]
    constructor
    · intro h; cases h
    · rintro ⟨h1, h2, _⟩; omega
  | n + 1, a, hn, hf, i => by
    rw [walkA]
    by_cases h : a < b
    · rw [if_pos h, List.mem_append]
      have hg := nxt_gt hlo a
      have hle := nxt_le hlo h
      have ih := mem_walkA n (nxt Q a) (by omega) (nxt_free hlo hno hf) i
      rw [ih]
      have hnf := nxt_free hlo hno hf
      constructor
      · rintro (h1 | ⟨h1, h2, h3⟩)
        · by_cases g : nxF a Q a > a
          · rw [if_pos g] at h1; cases h1
          · rw [if_neg g, List.mem_singleton] at h1
            subst h1
            rw [nxt, if_neg g] at hnf
            refine ⟨Int.le_refl _, h, hf, hnf, fun hm => ?_⟩
            have := nxF_max i Q i _ hm rfl
            have : i + 1 ≤ nxF i Q i := this
            omega
        · exact ⟨by omega, h2, h3⟩
      · rintro ⟨h1, h2, h3, h4, h5⟩
        by_cases e : i = a
        · subst e
          have g : ¬ nxF i Q i > i := by
            intro g
            rcases nxF_mem i Q i with e' | ⟨c, hc, e1, e2⟩
            · omega
            · have := h4 c hc
              apply h5
              have : c = ⟨i, i + 1⟩ := by cases c; simp only [S47.mk.injEq] at *; omega
              rwa [← this]
          rw [if_neg g]
          exact .inl (List.mem_singleton.2 rfl)
        · refine .inr ⟨?_, h2, h3, h4, h5⟩
          have : ¬ i < nxt Q a := fun q => nxt_gap hlo (by omega) q h3
          omega
    · rw [if_neg h]
      constructor
      · intro h; cases h
      · rintro ⟨h1, h2, _⟩; omega
end

/-! The walk of a chord's region. -/
def selB (c d : Ch) : Bool := decide (d ≠ c ∧ c.f0 ≤ d.f0 ∧ d.f1 ≤ c.f1)
def lowE (c : Ch) : Int := if c.f0 < 0 then 0 else c.f0
def topE (p : Int) (c : Ch) : Int := if c.f1 < p then c.f1 else p - 1
def qOf (P : List Ch) (c : Ch) : List Ch := P.filter (selB c)
def ptsW (p : Int) (P : List Ch) (c : Ch) : List Int := lowE c :: walkP (qOf P c) (topE p c) (topE p c - lowE c).toNat (lowE c)
def chsW (p : Int) (P : List Ch) (c : Ch) : List Ch := (if c = outC p then [] else [c]) ++ walkC (qOf P c) (topE p c) (topE p c - lowE c).toNat (lowE c)
def arcsW (p : Int) (P : List Ch) (c : Ch) : List Int := (if c = outC p then [p - 1] else []) ++ walkA (qOf P c) (topE p c) (topE p c - lowE c).toNat (lowE c)
/-- A plane set of chords of so many points. -/
structure PlaneP (p : Int) (P : List Ch) : Prop where
  pl : Plane P
  nd : P.Nodup
  hp : 3 ≤ p
  ends : ∀ d ∈ P, 0 ≤ d.f0 ∧ d.f1 < p
section
variable {p : Int} {P : List Ch} (H : PlaneP p P)
include H
theorem edge_cases {c : Ch} (hc : c = outC p ∨ c ∈ P) : (c = outC p ∧ lowE c = 0 ∧ topE p c = p - 1) ∨ (c ∈ P ∧ c ≠ outC p ∧ lowE c = c.f0 ∧ topE p c = c.f1 ∧ c.f0 < c.f1 ∧ 0 ≤ c.f0 ∧ c.f1 < p) := by
  rcases hc with rfl | hc
  · refine .inl ⟨rfl, ?_, ?_⟩
    · unfold lowE outC; exact if_pos (by show (-1 : Int) < 0; omega)
    · unfold topE outC; exact if_neg (by show ¬ p < p; omega)
  · have := H.ends c hc
    have := H.pl.ok c hc
    refine .inr ⟨hc, ?_, ?_, ?_, by omega, by omega, by omega⟩
    · rintro rfl
      have h : (0 : Int) ≤ -1 := (H.ends _ hc).1
      omega
    · unfold lowE; exact if_neg (by omega)
    · unfold topE; exact if_pos (by omega)
theorem q_in {c d : Ch} (hd : d ∈ qOf P c) : d ∈ P ∧ d ≠ c ∧ c.f0 ≤ d.f0 ∧ d.f1 ≤ c.f1 := by
  unfold qOf at hd
  rw [List.mem_filter] at hd
  exact ⟨hd.1, of_decide_eq_true hd.2⟩
theorem q_low {c : Ch} (hc : c = outC p ∨ c ∈ P) : ∀ d ∈ qOf P c, lowE c ≤ d.f0 ∧ d.f0 < d.f1 ∧ d.f1 ≤ topE p c := by
  intro d hd
  obtain ⟨h1, h2, h3, h4⟩ := q_in H hd
  have := H.ends d h1
  have := H.pl.ok d h1
  rcases edge_cases H hc with ⟨rfl, e1, e2⟩ | ⟨_, _, e1, e2, _⟩ <;> omega
theorem q_no {c : Ch} : ∀ a ∈ qOf P c, ∀ d ∈ qOf P c, crB a d = false := fun a ha d hd => H.pl.no a (q_in H ha).1 d (q_in H hd).1
theorem free_iff {c : Ch} (hc : c = outC p ∨ c ∈ P) (x : Int) : ((0 ≤ x ∧ x < p) ∧ InR P c x) ↔ lowE c ≤ x ∧ x ≤ topE p c ∧ Free (qOf P c) x := by
  have hf : (∀ d ∈ P, d ≠ c → c.f0 ≤ d.f0 → d.f1 ≤ c.f1 → ¬ (d.f0 < x ∧ x < d.f1)) ↔ Free (qOf P c) x := by
    unfold Free qOf
    constructor
    · intro h d hd
      rw [List.mem_filter] at hd
      obtain ⟨q1, q2, q3⟩ := of_decide_eq_true hd.2
      exact h d hd.1 q1 q2 q3
    · intro h d hd q1 q2 q3
      exact h d (List.mem_filter.2 ⟨hd, decide_eq_true ⟨q1, q2, q3⟩⟩)
  unfold InR
  rw [hf]
  rcases edge_cases H hc with ⟨rfl, e1, e2⟩ | ⟨_, _, e1, e2, _⟩
  · rw [e1, e2]
    unfold outC
    constructor
    · rintro ⟨⟨h1, h2⟩, _, _, h5⟩; exact ⟨by omega, by omega, h5⟩
    · rintro ⟨h1, h2, h3⟩; exact ⟨⟨by omega, by omega⟩, by show (-1 : Int) ≤ x; omega, by show x ≤ p; omega, h3⟩
  · rw [e1, e2]
    constructor
    · rintro ⟨⟨h1, h2⟩, h3, h4, h5⟩; exact ⟨h3, h4, h5⟩
    · rintro ⟨h1, h2, h3⟩; exact ⟨⟨by omega, by omega⟩, h1, h2, h3⟩
theorem low_free {c : Ch} (hc : c = outC p ∨ c ∈ P) : Free (qOf P c) (lowE c) := by
  intro d hd hx
  have := q_low H hc d hd
  omega
theorem top_free {c : Ch} (hc : c = outC p ∨ c ∈ P) : Free (qOf P c) (topE p c) := by
  intro d hd hx
  have := q_low H hc d hd
  omega
theorem low_le {c : Ch} (hc : c = outC p ∨ c ∈ P) : lowE c < topE p c := by
  have := H.hp
  rcases edge_cases H hc with ⟨rfl, e1, e2⟩ | ⟨_, _, e1, e2, _⟩ <;> omega
theorem mem_ptsW {c : Ch} (hc : c = outC p ∨ c ∈ P) (x : Int) : x ∈ ptsW p P c ↔ (0 ≤ x ∧ x < p) ∧ InR P c x := by
  rw [free_iff H hc]
  unfold ptsW
  have hl := low_le H hc
  rw [List.mem_cons, mem_walkP (q_low H hc) (q_no H) _ _ (by omega) (low_free H hc)]
  constructor
  · rintro (rfl | ⟨h1, h2, h3⟩)
    · exact ⟨Int.le_refl _, by omega, low_free H hc⟩
    · exact ⟨by omega, h2, h3⟩
  · rintro ⟨h1, h2, h3⟩
    by_cases e : x = lowE c
    · exact .inl e
    · exact .inr ⟨by omega, h2, h3⟩
theorem ptsTo_rises (q : Int) : (ptsTo q).Pairwise (· < ·) := by
  unfold ptsTo
  rw [List.pairwise_map]
  exact (List.pairwise_lt_range (n := q.toNat)).imp (by intro a b h; omega)
theorem regN_rises (c : Ch) : (regN p P c).Pairwise (· < ·) := (ptsTo_rises H p).sublist List.filter_sublist
theorem rises_uniq : ∀ l1 l2 : List Int, l1.Pairwise (· < ·) → l2.Pairwise (· < ·) → (∀ x, x ∈ l1 ↔ x ∈ l2) → l1 = l2
  | [], [], _, _, _ => rfl
  | [], b :: s, _, _, hm => absurd ((hm b).2 (List.mem_cons_self ..)) (by simp)
  | a :: r, [], _, _, hm => absurd ((hm a).1 (List.mem_cons_self ..)) (by simp)
  | a :: r, b :: s, h1, h2, hm => by
    obtain ⟨p1, q1⟩ := List.pairwise_cons.1 h1
    obtain ⟨p2, q2⟩ := List.pairwise_cons.1 h2
    have hab : a = b := by
      rcases List.mem_cons.1 ((hm a).1 (List.mem_cons_self ..)) with e | ha
      · exact e
      · rcases List.mem_cons.1 ((hm b).2 (List.mem_cons_self ..)) with e | hb
        · exact e.symm
        · have x1 := p2 a ha
          have x2 := p1 b hb
          omega
    subst hab
    rw [rises_uniq r s q1 q2 (fun x => ?_)]
    have hx := hm x
    constructor
    · intro hr
      rcases List.mem_cons.1 (hx.1 (List.mem_cons_of_mem _ hr)) with rfl | hs
      · have := p1 x hr; omega
      · exact hs
    · intro hs
      rcases List.mem_cons.1 (hx.2 (List.mem_cons_of_mem _ hs)) with rfl | hr
      · have := p2 x hs; omega
      · exact hr
/-- The walk's points are the region's. -/
theorem ptsW_eq {c : Ch} (hc : c = outC p ∨ c ∈ P) : ptsW p P c = regN p P c := by
  refine rises_uniq H _ _ ?_ (regN_rises H c) (fun x => ?_)
  · unfold ptsW
    exact (walkP_rises (q_low H hc) (q_no H) _ _).1
  · rw [mem_ptsW H hc, mem_regN]
/-- A chord lies next to another one's region, on its outer side. -/
def Child (P : List Ch) (c d : Ch) : Prop := d ∈ P ∧ d ≠ c ∧ InR P c d.f0 ∧ InR P c d.f1
theorem mem_chsW {c : Ch} (hc : c = outC p ∨ c ∈ P) (d : Ch) : d ∈ chsW p P c ↔ (c ∈ P ∧ d = c) ∨ Child P c d := by
  unfold chsW Child
  have hl := low_le H hc
  rw [List.mem_append, mem_walkC (q_low H hc) (q_no H) _ _ (by omega) (low_free H hc)]
  have h1 : d ∈ (if c = outC p then [] else [c]) ↔ (c ∈ P ∧ d = c) := by
    rcases edge_cases H hc with ⟨rfl, e1, e2⟩ | ⟨h, hn, e1, e2, _⟩
    · rw [if_pos rfl]
      constructor
      · intro h; cases h
      · rintro ⟨h, _⟩
        have h : (0 : Int) ≤ -1 := (H.ends _ h).1
        omega
    · rw [if_neg hn, List.mem_singleton]
      exact ⟨fun e => ⟨h, e⟩, fun e => e.2⟩
  rw [h1]
  refine or_congr Iff.rfl ?_
  constructor
  · rintro ⟨h2, h3, h4, h5⟩
    obtain ⟨g1, g2, g3, g4⟩ := q_in H h2
    have g5 := q_low H hc d h2
    have i0 := (free_iff H hc d.f0).2 ⟨g5.1, by omega, h4⟩
    have i1 := (free_iff H hc d.f1).2 ⟨by omega, g5.2.2, h5⟩
    exact ⟨g1, g2, i0.2, i1.2⟩
  · rintro ⟨h2, h3, h4, h5⟩
    have g0 := H.ends d h2
    have g1 := H.pl.ok d h2
    have hq : d ∈ qOf P c := List.mem_filter.2 ⟨h2, decide_eq_true ⟨h3, h4.1, h5.2.1⟩⟩
    have i0 := (free_iff H hc d.f0).1 ⟨by omega, h4⟩
    have i1 := (free_iff H hc d.f1).1 ⟨by omega, h5⟩
    exact ⟨hq, i0.1, i0.2.2, i1.2.2⟩
theorem child_common {c d : Ch} (h : Child P c d) (x : Int) : (InR P c x ∧ InR P d x) ↔ (x = d.f0 ∨ x = d.f1) := by
  obtain ⟨h1, h2, h3, h4⟩ := h
  have hd := H.pl.ok d h1
  constructor
  · rintro ⟨⟨_, _, q⟩, ⟨a, b, _⟩⟩
    have := q d h1 h2 h3.1 h4.2.1
    omega
  · rintro (rfl | rfl)
    · exact ⟨h3, Int.le_refl _, by omega, fun e _ _ _ _ => by omega⟩
    · exact ⟨h4, by omega, Int.le_refl _, fun e _ _ _ _ => by omega⟩
theorem two_child {c d : Ch} (hc : c = outC p ∨ c ∈ P) (hd : d = outC p ∨ d ∈ P) (hne : c ≠ d) {x y : Int} (hxy : x < y) (hcx : InR P c x) (hcy : InR P c y) (hdx : InR P d x) (hdy : InR P d y) : Child P c d ∨ Child P d c := by
  have key : ∀ c d : Ch, c = outC p ∨ c ∈ P → d ∈ P → c ≠ d → c.f0 ≤ d.f0 → d.f1 ≤ c.f1 → InR P c x → InR P c y → InR P d x → InR P d y → Child P c d := by
    intro c d hc hd hne q1 q2 hcx hcy hdx hdy
    have hdo := H.pl.ok d hd
    have a1 := hdx.1
    have a2 := hdy.2.1
    refine ⟨hd, Ne.symm hne, ⟨q1, by omega, fun e he hec w1 w2 hx => ?_⟩, ⟨by omega, q2, fun e he hec w1 w2 hx => ?_⟩⟩
    · have := nocr (H.pl.no e he d hd)
      have := hcx.2.2 e he hec w1 w2
      have := hcy.2.2 e he hec w1 w2
      omega
    · have := nocr (H.pl.no e he d hd)
      have := hcx.2.2 e he hec w1 w2
      have := hcy.2.2 e he hec w1 w2
      omega
  have b1 := hcx.1; have b2 := hcy.2.1; have b3 := hdx.1; have b4 := hdy.2.1
  have a1 := hcx.2.1; have a2 := hcy.1; have a3 := hdx.2.1; have a4 := hdy.1
  rcases hc with rfl | hc
  · rcases hd with rfl | hd
    · exact absurd rfl hne
    · have := H.ends d hd
      exact .inl (key _ d (.inl rfl) hd hne (by show (-1 : Int) ≤ d.f0; omega) (by show d.f1 ≤ p; omega) hcx hcy hdx hdy)
  · rcases hd with rfl | hd
    · have := H.ends c hc
      exact .inr (key _ c (.inl rfl) hc (Ne.symm hne) (by show (-1 : Int) ≤ c.f0; omega) (by show c.f1 ≤ p; omega) hdx hdy hcx hcy)
    · have := nocr (H.pl.no c hc d hd)
      by_cases hin : c.f0 ≤ d.f0 ∧ d.f1 ≤ c.f1
      · exact .inl (key c d (.inr hc) hd hne hin.1 hin.2 hcx hcy hdx hdy)
      · exact .inr (key d c (.inr hd) hc (Ne.symm hne) (by omega) (by omega) hdx hdy hcx hcy)
/-- Two regions share a chord just if one's chord is the other's child. -/
theorem share_iff {c d : Ch} (hc : c = outC p ∨ c ∈ P) (hd : d = outC p ∨ d ∈ P) (hne : c ≠ d) : (∃ e ∈ chsW p P c, e ∈ chsW p P d) ↔ Child P c d ∨ Child P d c := by
  constructor
  · rintro ⟨e, h1, h2⟩
    rw [mem_chsW H hc] at h1
    rw [mem_chsW H hd] at h2
    rcases h1 with ⟨h1, rfl⟩ | h1
    · rcases h2 with ⟨h2, rfl⟩ | h2
      · exact absurd rfl hne
      · exact .inr h2
    · rcases h2 with ⟨h2, rfl⟩ | h2
      · exact .inl h1
      · exact two_child H hc hd hne (H.pl.ok e h1.1) h1.2.2.1 h1.2.2.2 h2.2.2.1 h2.2.2.2
  · rintro (h | h)
    · exact ⟨d, (mem_chsW H hc d).2 (.inr h), (mem_chsW H hd d).2 (.inl ⟨h.1, rfl⟩)⟩
    · exact ⟨c, (mem_chsW H hc c).2 (.inl ⟨h.1, rfl⟩), (mem_chsW H hd c).2 (.inr h)⟩
/-- How many points two regions have in common. -/
def comN (a b : List Int) : Nat := b.countP fun x => a.contains x
theorem rises_two {l : List Int} (hl : l.Pairwise (· < ·)) {a b : Int} (hab : a < b) (h : ∀ x, x ∈ l ↔ (x = a ∨ x = b)) : l = [a, b] :=
  rises_uniq H l [a, b] hl (by simp [hab]) (fun x => by rw [h x]; simp)
theorem com_two {c d : Ch} (hc : c = outC p ∨ c ∈ P) (hd : d = outC p ∨ d ∈ P) (hne : c ≠ d) : (comN (regN p P c) (regN p P d) = 2) ↔ Child P c d ∨ Child P d c := by
  unfold comN
  rw [List.countP_eq_length_filter]
  have hs : ((regN p P d).filter fun x => (regN p P c).contains x).Pairwise (· < ·) := (regN_rises H d).sublist List.filter_sublist
  have hm : ∀ x, x ∈ ((regN p P d).filter fun x => (regN p P c).contains x) ↔ (0 ≤ x ∧ x < p) ∧ InR P c x ∧ InR P d x := by
    intro x
    rw [List.mem_filter, List.contains_iff_mem, mem_regN, mem_regN]
    constructor
    · rintro ⟨⟨h1, h2⟩, h3, h4⟩; exact ⟨h1, h4, h2⟩
    · rintro ⟨h1, h2, h3⟩; exact ⟨⟨h1, h3⟩, h1, h2⟩
  constructor
  · intro h
    obtain ⟨l, hl⟩ : ∃ l, l = ((regN p P d).filter fun x => (regN p P c).contains x) := ⟨_, rfl⟩
    rw [← hl] at h hs hm
    match l, h, hs, hm with
    | [x, y], _, hs, hm =>
      have hxy : x < y := by simpa using hs
      have h1 := (hm x).1 (by simp)
      have h2 := (hm y).1 (by simp)
      exact two_child H hc hd hne hxy h1.2.1 h2.2.1 h1.2.2 h2.2.2
  · rintro (h | h)
    · have e := rises_two H hs (H.pl.ok d h.1) (fun x => by
        rw [hm x, child_common H h]
        have := H.ends d h.1; have := H.pl.ok d h.1
        constructor
        · exact fun q => q.2
        · exact fun q => ⟨by omega, q⟩)
      rw [e]; rfl
    · have e := rises_two H hs (H.pl.ok c h.1) (fun x => by
        rw [hm x, and_comm (a := InR P c x), child_common H h]
        have := H.ends c h.1; have := H.pl.ok c h.1
        constructor
        · exact fun q => q.2
        · exact fun q => ⟨by omega, q⟩)
      rw [e]; rfl
/-- The arc of a region, as the reference tells it. -/
def arcB (p : Int) (P : List Ch) (r : List Int) (i : Int) : Bool :=
  decide (i ∈ r ∧ Int.emod (i + 1) p ∈ r ∧ ((⟨min i (Int.emod (i + 1) p), max i (Int.emod (i + 1) p)⟩ : Ch) ∉ P ∨ r.length = 2))
theorem three_len {l : List Int} {a b c : Int} (hab : a < b) (hbc : b < c) (h1 : a ∈ l) (h2 : b ∈ l) (h3 : c ∈ l) (hl : l.Pairwise (· < ·)) : l.length ≠ 2 := by
  intro h
  match l, h, h1, h2, h3, hl with
  | [x, y], _, h1, h2, h3, hl =>
    simp only [List.mem_cons, List.not_mem_nil, or_false] at h1 h2 h3
    omega
theorem arc_iff {c : Ch} (hc : c = outC p ∨ c ∈ P) (i : Int) (h0 : 0 ≤ i) (h1 : i < p) : i ∈ arcsW p P c ↔ arcB p P (regN p P c) i = true := by
  unfold arcsW arcB
  have hp := H.hp
  have hl := low_le H hc
  rw [decide_eq_true_eq, List.mem_append, mem_walkA (q_low H hc) (q_no H) _ _ (by omega) (low_free H hc)]
  have hm : ∀ x, x ∈ regN p P c ↔ lowE c ≤ x ∧ x ≤ topE p c ∧ Free (qOf P c) x := fun x => by rw [mem_regN, free_iff H hc]
  by_cases hi : i = p - 1
  · subst hi
    have e0 : Int.emod (p - 1 + 1) p = 0 := by
      rw [show p - 1 + 1 = p by omega]
      exact Int.emod_self
    rw [e0, show min (p - 1) 0 = (0 : Int) by omega, show max (p - 1) 0 = p - 1 by omega, hm, hm]
    rcases edge_cases H hc with ⟨rfl, e1, e2⟩ | ⟨hcP, hn, e1, e2, e3, e4, e5⟩
    · rw [if_pos rfl]
      constructor
      · intro _
        refine ⟨⟨by omega, by omega, by rw [← e2]; exact top_free H hc⟩, ⟨by omega, by omega, by rw [← e1]; exact low_free H hc⟩, ?_⟩
        by_cases hin : (⟨0, p - 1⟩ : Ch) ∈ P
        · right
          have hq : (⟨0, p - 1⟩ : Ch) ∈ qOf P (outC p) := List.mem_filter.2 ⟨hin, decide_eq_true ⟨by unfold outC; simp, by show (-1 : Int) ≤ 0; omega, by show p - 1 ≤ p; omega⟩⟩
          have := rises_two H (regN_rises H (outC p)) (a := 0) (b := p - 1) (by omega) (fun x => by
            rw [hm]
            constructor
            · rintro ⟨q1, q2, q3⟩
              have : ¬ ((0 : Int) < x ∧ x < p - 1) := q3 _ hq
              omega
            · rintro (rfl | rfl)
              · exact ⟨by omega, by omega, by have := low_free H hc; rwa [e1] at this⟩
              · exact ⟨by omega, by omega, by have := top_free H hc; rwa [e2] at this⟩)
          rw [this]; rfl
        · exact .inl hin
      · intro _
        exact .inl (by simp)
    · rw [if_neg hn]
      constructor
      · rintro (h | ⟨h2, h3, _⟩)
        · cases h
        · omega
      · rintro ⟨⟨q1, q2, _⟩, ⟨q3, q4, _⟩, hor⟩
        exfalso
        have hce : c = ⟨0, p - 1⟩ := by cases c; simp only [S47.mk.injEq] at *; omega
        rcases hor with hor | hor
        · exact hor (hce ▸ hcP)
        · have hg := nxt_gt (q_low H hc) (lowE c)
          have hle := nxt_le (q_low H hc) hl
          have hf := nxt_free (q_low H hc) (q_no H) (low_free H hc)
          by_cases e : nxt (qOf P c) (lowE c) = topE p c
          · unfold nxt at e
            split at e
            · rename_i g
              rcases nxF_mem (lowE c) (qOf P c) (lowE c) with e' | ⟨d, hd, g1, g2⟩
              · omega
              · have hd2 := q_in H hd
                exact hd2.2.1 (by cases d; cases c; simp only [S47.mk.injEq] at *; omega)
            · have c0 : c.f0 = 0 := by rw [hce]
              have c1 : c.f1 = p - 1 := by rw [hce]
              omega
          · exact three_len H (a := lowE c) (b := nxt (qOf P c) (lowE c)) (c := topE p c) hg (by omega) ((hm _).2 ⟨by omega, by omega, low_free H hc⟩) ((hm _).2 ⟨by omega, by omega, hf⟩) ((hm _).2 ⟨by omega, by omega, top_free H hc⟩) (regN_rises H c) hor
  · have e0 : Int.emod (i + 1) p = i + 1 := Int.emod_eq_of_lt (by omega) (by omega)
    rw [e0, show min i (i + 1) = i by omega, show max i (i + 1) = i + 1 by omega, hm, hm]
    constructor
    · rintro (h | ⟨h2, h3, h4, h5, h6⟩)
      · split at h
        · rw [List.mem_singleton] at h; omega
        · cases h
      · refine ⟨⟨h2, by omega, h4⟩, ⟨by omega, by omega, h5⟩, ?_⟩
        by_cases hin : (⟨i, i + 1⟩ : Ch) ∈ P
        · right
          have hce : c = ⟨i, i + 1⟩ := by
            by_cases e : (⟨i, i + 1⟩ : Ch) = c
            · exact e.symm
            · exfalso
              apply h6
              refine List.mem_filter.2 ⟨hin, decide_eq_true ⟨e, ?_, ?_⟩⟩
              · rcases edge_cases H hc with ⟨rfl, e1, e2⟩ | ⟨hcP, hn, e1, e2, e3, e4, e5⟩
                · show (-1 : Int) ≤ i; omega
                · show c.f0 ≤ i; omega
              · rcases edge_cases H hc with ⟨rfl, e1, e2⟩ | ⟨hcP, hn, e1, e2, e3, e4, e5⟩
                · show i + 1 ≤ p; omega
                · show i + 1 ≤ c.f1; omega
          have e1 : c.f0 = i := by rw [hce]
          have e2 : c.f1 = i + 1 := by rw [hce]
          rcases edge_cases H hc with ⟨rfl, g1, g2⟩ | ⟨hcP, hn, g1, g2, _⟩
          · have : (-1 : Int) = i := e1
            omega
          · have := rises_two H (regN_rises H c) (a := i) (b := i + 1) (by omega) (fun x => by
              rw [hm]
              constructor
              · rintro ⟨q1, q2, q3⟩; omega
              · rintro (rfl | rfl)
                · exact ⟨by omega, by omega, h4⟩
                · exact ⟨by omega, by omega, h5⟩)
            rw [this]; rfl
        · exact .inl hin
    · rintro ⟨⟨q1, q2, q3⟩, ⟨q4, q5, q6⟩, hor⟩
      refine .inr ⟨q1, by omega, q3, q6, fun hq => ?_⟩
      have hq2 := q_in H hq
      rcases hor with hor | hor
      · exact hor hq2.1
      · have hne := hq2.2.1
        rcases edge_cases H hc with ⟨rfl, g1, g2⟩ | ⟨hcP, hn, g1, g2, _⟩
        · by_cases e : i = 0
          · exact three_len H (a := i) (b := i + 1) (c := p - 1) (by omega) (by omega) ((hm _).2 ⟨q1, q2, q3⟩) ((hm _).2 ⟨q4, q5, q6⟩) ((hm _).2 ⟨by omega, by omega, by have := top_free H hc; rwa [g2] at this⟩) (regN_rises H _) hor
          · exact three_len H (a := 0) (b := i) (c := i + 1) (by omega) (by omega) ((hm _).2 ⟨by omega, by omega, by have := low_free H hc; rwa [g1] at this⟩) ((hm _).2 ⟨q1, q2, q3⟩) ((hm _).2 ⟨q4, q5, q6⟩) (regN_rises H _) hor
        · have hcc := ch_ne hne
          have hcc : i ≠ c.f0 ∨ i + 1 ≠ c.f1 := hcc
          by_cases e : i = lowE c
          · exact three_len H (a := i) (b := i + 1) (c := topE p c) (by omega) (by omega) ((hm _).2 ⟨q1, q2, q3⟩) ((hm _).2 ⟨q4, q5, q6⟩) ((hm _).2 ⟨by omega, by omega, top_free H hc⟩) (regN_rises H _) hor
          · exact three_len H (a := lowE c) (b := i) (c := i + 1) (by omega) (by omega) ((hm _).2 ⟨by omega, by omega, low_free H hc⟩) ((hm _).2 ⟨q1, q2, q3⟩) ((hm _).2 ⟨q4, q5, q6⟩) (regN_rises H _) hor
end

/-! Triangles. -/
theorem regN_same {p : Int} {P P' : List Ch} (h : ∀ x, x ∈ P ↔ x ∈ P') (c : Ch) : regN p P c = regN p P' c := by
  refine regN_congr (fun x => ?_)
  unfold InR
  constructor
  · rintro ⟨h1, h2, h3⟩; exact ⟨h1, h2, fun d hd => h3 d ((h d).2 hd)⟩
  · rintro ⟨h1, h2, h3⟩; exact ⟨h1, h2, fun d hd => h3 d ((h d).1 hd)⟩
def sumL (rs : List (List Int)) : Nat := (rs.map List.length).sum
theorem cut_len {e : Ch} (he : e.f0 < e.f1) : ∀ r : List Int, r.Pairwise (· < ·) → (cutIn e r).length + (cutOut e r).length = r.length + (if e.f0 ∈ r then 1 else 0) + (if e.f1 ∈ r then 1 else 0)
  | [], _ => rfl
  | x :: r, h => by
    obtain ⟨h1, h2⟩ := List.pairwise_cons.1 h
    have ih := cut_len he r h2
    have n0 : x = e.f0 → e.f0 ∉ r := fun q hr => by have := h1 _ hr; omega
    have n1 : x = e.f1 → e.f1 ∉ r := fun q hr => by have := h1 _ hr; omega
    unfold cutIn cutOut at *
    rw [List.filter_cons, List.filter_cons]
    simp only [decide_eq_true_eq, List.mem_cons]
    by_cases a : x = e.f0
    · have := n0 a
      rw [if_pos (by omega), if_pos (by omega), if_pos (.inl a.symm)]
      rw [if_neg this] at ih
      have e1 : (e.f1 = x ∨ e.f1 ∈ r) ↔ e.f1 ∈ r := ⟨fun q => q.elim (fun q => by omega) id, .inr⟩
      simp only [e1, List.length_cons]
      omega
    · by_cases b : x = e.f1
      · have := n1 b
        rw [if_pos (by omega), if_pos (by omega)]
        rw [if_neg this] at ih
        have e0 : (e.f0 = x ∨ e.f0 ∈ r) ↔ e.f0 ∈ r := ⟨fun q => q.elim (fun q => by omega) id, .inr⟩
        have e1 : (e.f1 = x ∨ e.f1 ∈ r) ↔ True := ⟨fun _ => trivial, fun _ => .inl b.symm⟩
        simp only [e0, e1, List.length_cons, if_true]
        omega
      · have e0 : (e.f0 = x ∨ e.f0 ∈ r) ↔ e.f0 ∈ r := ⟨fun q => q.elim (fun q => absurd q.symm a) id, .inr⟩
        have e1 : (e.f1 = x ∨ e.f1 ∈ r) ↔ e.f1 ∈ r := ⟨fun q => q.elim (fun q => absurd q.symm b) id, .inr⟩
        simp only [e0, e1]
        by_cases c : e.f0 ≤ x ∧ x ≤ e.f1
        · rw [if_pos c, if_neg (by omega), List.length_cons, List.length_cons]; omega
        · rw [if_neg c, if_pos (by omega), List.length_cons, List.length_cons]; omega
theorem step_sum {e : Ch} (he : e.f0 < e.f1) : ∀ rs : List (List Int), (∀ r ∈ rs, r.Pairwise (· < ·)) → (∃ r ∈ rs, hasB e r = true) → sumL (stepR e rs) = sumL rs + 2
  | [], _, h => by obtain ⟨r, hr, _⟩ := h; cases hr
  | r :: rs, hs, h => by
    rw [stepR]
    by_cases hb : hasB e r = true
    · rw [if_pos hb]
      have hb' := of_decide_eq_true hb
      have := cut_len he r (hs r (List.mem_cons_self ..))
      rw [if_pos hb'.1, if_pos hb'.2] at this
      simp only [sumL, List.map_cons, List.sum_cons]
      omega
    · rw [if_neg hb]
      obtain ⟨r', hr', h'⟩ := h
      rcases List.mem_cons.1 hr' with rfl | hr'
      · exact absurd h' hb
      · have ih := step_sum he rs (fun q hq => hs q (List.mem_cons_of_mem _ hq)) ⟨r', hr', h'⟩
        simp only [sumL, List.map_cons, List.sum_cons] at ih ⊢
        omega
theorem perm_sumL {a b : List (List Int)} (h : a.Perm b) : sumL a = sumL b := by
  unfold sumL
  exact (h.map List.length).sum_nat
theorem foldR_sum {p : Int} : ∀ (l P : List Ch), Plane (P ++ l) → (∀ d ∈ P ++ l, 0 ≤ d.f0 ∧ d.f1 < p) → (P ++ l).Nodup → ∀ cs : List Ch, cs.Perm (outC p :: P) →
    sumL (foldR l (cs.map (regN p P))) = sumL (cs.map (regN p P)) + 2 * l.length
  | [], P, hP, hb, hn, cs, hc => by simp [foldR]
  | e :: l, P, hP, hb, hn, cs, hc => by
    have hPP : Plane P := ⟨fun c h => hP.ok c (List.mem_append_left _ h), fun c h d h' => hP.no c (List.mem_append_left _ h) d (List.mem_append_left _ h')⟩
    have hemem : e ∈ P ++ e :: l := List.mem_append_right _ (List.mem_cons_self ..)
    have hPe : ∀ d ∈ P, crB d e = false := fun d hd => hP.no d (List.mem_append_left _ hd) e hemem
    have hee := hP.ok e hemem
    have hb0 := hb e hemem
    have hn2 := List.nodup_append.1 hn
    have he : e ∉ P := fun h => hn2.2.2 e h e (List.mem_cons_self ..) rfl
    have hOO : ∀ d ∈ e :: P, (outC p).f0 < d.f0 ∧ d.f1 < (outC p).f1 := by
      intro d hd
      have : 0 ≤ d.f0 ∧ d.f1 < p := by
        rcases List.mem_cons.1 hd with rfl | hd
        · exact hb0
        · exact hb d (List.mem_append_left _ hd)
      show -1 < d.f0 ∧ d.f1 < p
      omega
    obtain ⟨c0, hc0, hA, hB⟩ := least_around hPe hPP.ok he hee (hOO e (List.mem_cons_self ..))
    have hmem : ∀ c ∈ cs, c = outC p ∨ c ∈ P := fun c h => List.mem_cons.1 (hc.mem_iff.1 h)
    have hOn : outC p ∉ P := fun h => by have := hb _ (List.mem_append_left _ h); have h2 : (0 : Int) ≤ -1 := this.1; omega
    have hnd : cs.Nodup := hc.nodup_iff.2 (List.nodup_cons.2 ⟨hOn, hn2.1⟩)
    have hs := step_regs hPP hOO hPe he hee hb0.1 hb0.2 hA hB hc0 cs hnd hmem
    have hex : ∃ c ∈ cs, hasB e (regN p P c) = true := by
      refine ⟨c0, hc.mem_iff.2 (List.mem_cons.2 hc0), ?_⟩
      unfold hasB
      rw [decide_eq_true_eq, mem_regN, mem_regN]
      exact ⟨⟨by omega, hA⟩, ⟨by omega, hB⟩⟩
    have hp2 : (insR p P e cs).Perm (outC p :: (P ++ [e])) := by
      refine (insR_perm cs hex).trans ?_
      refine (hc.cons e).trans ((List.Perm.swap _ _ _).trans (List.Perm.cons _ ?_))
      exact (List.perm_append_singleton e P).symm
    have h := foldR_sum l (P ++ [e]) (by rw [List.append_assoc]; exact hP) (by rw [List.append_assoc]; exact hb) (by rw [List.append_assoc]; exact hn) _ hp2
    rw [← hs] at h
    have hr1 : ∀ r ∈ cs.map (regN p P), r.Pairwise (· < ·) := by
      intro r hr
      obtain ⟨c, _, rfl⟩ := List.mem_map.1 hr
      unfold regN ptsTo
      refine List.Pairwise.sublist List.filter_sublist ?_
      rw [List.pairwise_map]
      exact (List.pairwise_lt_range (n := p.toNat)).imp (by intro a b h; omega)
    have hr2 : ∃ r ∈ cs.map (regN p P), hasB e r = true := by
      obtain ⟨c, h1, h2⟩ := hex
      exact ⟨_, List.mem_map.2 ⟨c, h1, rfl⟩, h2⟩
    rw [foldR, h, step_sum hee _ hr1 hr2, List.length_cons]
    omega
theorem regN_nil (p : Int) (hp : 3 ≤ p) : (regN p [] (outC p)).length = p.toNat := by
  unfold regN
  rw [List.filter_eq_self.2 (fun x hx => by
    rw [inR_iff]
    have := mem_ptsTo.1 hx
    exact ⟨by show (-1 : Int) ≤ x; omega, by show x ≤ p; omega, fun d hd => by cases hd⟩)]
  simp [ptsTo]
/-- Points of all regions, together. -/
theorem sum_regs {p : Int} {P : List Ch} (H : PlaneP p P) : sumL ((outC p :: P).map (regN p P)) = p.toNat + 2 * P.length := by
  have hn := H.nd
  obtain ⟨ds, hd, e⟩ := foldR_regs P [] (by simpa using H.pl) (by simpa using H.ends) (by simpa using hn) [outC p] (List.Perm.refl _)
  have h := foldR_sum P [] (by simpa using H.pl) (by simpa using H.ends) (by simpa using hn) [outC p] (List.Perm.refl _)
  rw [List.nil_append] at hd e
  rw [e] at h
  rw [perm_sumL (hd.symm.map (regN p P)), h]
  simp only [List.map_cons, List.map_nil, sumL, List.sum_cons, List.sum_nil]
  rw [regN_nil p H.hp]
  omega
theorem all_three : ∀ (l : List Nat), (∀ x ∈ l, 3 ≤ x) → l.sum ≤ 3 * l.length → ∀ x ∈ l, x = 3
  | [], _, _, x, h => by cases h
  | a :: l, h, hs, x, hx => by
    have h1 := h a (List.mem_cons_self ..)
    have hge : 3 * l.length ≤ l.sum := by
      have : ∀ q : List Nat, (∀ x ∈ q, 3 ≤ x) → 3 * q.length ≤ q.sum := by
        intro q
        induction q with
        | nil => intro _; simp
        | cons b q ih =>
          intro hq
          have := hq b (List.mem_cons_self ..)
          have := ih (fun x hx => hq x (List.mem_cons_of_mem _ hx))
          simp only [List.length_cons, List.sum_cons]
          omega
      exact this l (fun x hx => h x (List.mem_cons_of_mem _ hx))
    simp only [List.length_cons, List.sum_cons] at hs
    rcases List.mem_cons.1 hx with rfl | hx
    · omega
    · exact all_three l (fun x hx => h x (List.mem_cons_of_mem _ hx)) (by omega) x hx
/-- Sets that leave triangles. -/
structure Tri (p : Int) (P : List Ch) : Prop where
  H : PlaneP p P
  diag : ∀ d ∈ P, 1 < d.f1 - d.f0 ∧ d.f1 - d.f0 < p - 1
  len : (P.length : Int) = p - 3
section
variable {p : Int} {P : List Ch} (T : Tri p P)
include T
theorem tri_ge {c : Ch} (hc : c = outC p ∨ c ∈ P) (hp : 4 ≤ p) : 3 ≤ (regN p P c).length := by
  have H := T.H
  have hl := low_le H hc
  have hm : ∀ x, x ∈ regN p P c ↔ lowE c ≤ x ∧ x ≤ topE p c ∧ Free (qOf P c) x := fun x => by rw [mem_regN, free_iff H hc]
  have hg := nxt_gt (q_low H hc) (lowE c)
  have hle := nxt_le (q_low H hc) hl
  have hf := nxt_free (q_low H hc) (q_no H) (low_free H hc)
  have m1 := (hm (lowE c)).2 ⟨by omega, by omega, low_free H hc⟩
  have m2 := (hm (nxt (qOf P c) (lowE c))).2 ⟨by omega, by omega, hf⟩
  have m3 := (hm (topE p c)).2 ⟨by omega, by omega, top_free H hc⟩
  have hlt : nxt (qOf P c) (lowE c) < topE p c := by
    have : nxt (qOf P c) (lowE c) ≠ topE p c := by
      intro e
      unfold nxt at e
      split at e
      · rename_i g
        rcases nxF_mem (lowE c) (qOf P c) (lowE c) with e' | ⟨d, hd, g1, g2⟩
        · omega
        · have hd2 := q_in H hd
          have hdd := T.diag d hd2.1
          rcases edge_cases H hc with ⟨rfl, e1, e2⟩ | ⟨hcP, hn, e1, e2, _⟩
          · omega
          · exact hd2.2.1 (by cases d; cases c; simp only [S47.mk.injEq] at *; omega)
      · rcases edge_cases H hc with ⟨rfl, e1, e2⟩ | ⟨hcP, hn, e1, e2, _⟩
        · omega
        · have := T.diag c hcP; omega
    omega
  have hr := regN_rises H c
  obtain ⟨l, hl2⟩ : ∃ l, l = regN p P c := ⟨_, rfl⟩
  rw [← hl2] at hr m1 m2 m3 ⊢
  match l, hr, m1, m2, m3 with
  | [], _, h, _, _ => cases h
  | [a], _, h1, h2, h3 => simp only [List.mem_singleton] at h1 h2 h3; omega
  | [a, b], _, h1, h2, h3 => simp only [List.mem_cons, List.not_mem_nil, or_false] at h1 h2 h3; omega
  | a :: b :: c :: r, _, _, _, _ => simp
theorem tri_three {c : Ch} (hc : c = outC p ∨ c ∈ P) (hp : 4 ≤ p) : (regN p P c).length = 3 := by
  have h := sum_regs T.H
  have hlen := T.len
  unfold sumL at h
  refine all_three (((outC p :: P).map (regN p P)).map List.length) (fun x hx => ?_) ?_ _ (List.mem_map.2 ⟨regN p P c, List.mem_map.2 ⟨c, List.mem_cons.2 hc, rfl⟩, rfl⟩)
  · obtain ⟨r, hr, rfl⟩ := List.mem_map.1 hx
    obtain ⟨d, hd, rfl⟩ := List.mem_map.1 hr
    exact tri_ge T (List.mem_cons.1 hd) hp
  · rw [h]
    simp only [List.length_map, List.length_cons]
    omega
/-- A chord of the set, or a side of the whole. -/
def Join (p : Int) (P : List Ch) (x y : Int) : Prop := ¬ (1 < y - x ∧ y - x < p - 1) ∨ (⟨x, y⟩ : Ch) ∈ P
/-- The points of a triangle: joined, two by two. -/
theorem tri_pts {c : Ch} (hc : c = outC p ∨ c ∈ P) (hp : 4 ≤ p) : ∃ m, regN p P c = [lowE c, m, topE p c] ∧ lowE c < m ∧ m < topE p c ∧ Join p P (lowE c) m ∧ Join p P m (topE p c) ∧ Join p P (lowE c) (topE p c) := by
  have H := T.H
  have hl := low_le H hc
  have hm : ∀ x, x ∈ regN p P c ↔ lowE c ≤ x ∧ x ≤ topE p c ∧ Free (qOf P c) x := fun x => by rw [mem_regN, free_iff H hc]
  have m1 := (hm (lowE c)).2 ⟨by omega, by omega, low_free H hc⟩
  have m3 := (hm (topE p c)).2 ⟨by omega, by omega, top_free H hc⟩
  have hr := regN_rises H c
  have h3 := tri_three T hc hp
  have jn : ∀ a b, a ∈ regN p P c → b ∈ regN p P c → a < b → (∀ x, x ∈ regN p P c → a < x → b ≤ x) → Join p P a b := by
    intro a b ha hb hab hnx
    have ha := (hm a).1 ha
    have hb := (hm b).1 hb
    have hg := nxt_gt (q_low H hc) a
    have hle := nxt_le (q_low H hc) (a := a) (by omega)
    have hf := nxt_free (q_low H hc) (q_no H) ha.2.2
    have h1 := hnx (nxt (qOf P c) a) ((hm _).2 ⟨by omega, by omega, hf⟩) hg
    have h2 : ¬ b < nxt (qOf P c) a := fun q => nxt_gap (q_low H hc) hab q hb.2.2
    have e : nxt (qOf P c) a = b := by omega
    unfold nxt at e
    split at e
    · right
      rcases nxF_mem a (qOf P c) a with e' | ⟨d, hd, g1, g2⟩
      · omega
      · have : d = ⟨a, b⟩ := by cases d; simp only [S47.mk.injEq] at *; omega
        rw [← this]
        exact (q_in H hd).1
    · left; omega
  obtain ⟨l, hl2⟩ : ∃ l, l = regN p P c := ⟨_, rfl⟩
  rw [← hl2] at hr m1 m3 h3 jn hm ⊢
  match l, h3, hr, m1, m3, jn, hm with
  | [a, m, b], _, hr, h1, h3, jn, hm =>
    simp only [List.pairwise_cons, List.mem_cons, List.not_mem_nil, or_false, forall_eq_or_imp, forall_eq] at hr
    have qa := (hm a).1 (by simp)
    have qb := (hm b).1 (by simp)
    have qm := (hm m).1 (by simp)
    have ea : a = lowE c := by
      simp only [List.mem_cons, List.not_mem_nil, or_false] at h1
      omega
    have eb : b = topE p c := by
      simp only [List.mem_cons, List.not_mem_nil, or_false] at h3
      omega
    subst ea eb
    refine ⟨m, rfl, by omega, by omega, ?_, ?_, ?_⟩
    · refine jn _ _ (by simp) (by simp) (by omega) (fun x hx h => ?_)
      simp only [List.mem_cons, List.not_mem_nil, or_false] at hx
      omega
    · refine jn _ _ (by simp) (by simp) (by omega) (fun x hx h => ?_)
      simp only [List.mem_cons, List.not_mem_nil, or_false] at hx
      omega
    · rcases edge_cases H hc with ⟨rfl, e1, e2⟩ | ⟨hcP, hn, e1, e2, _⟩
      · left; omega
      · right; rw [e1, e2]; exact hcP
theorem join_in {x y : Int} (h : Join p P x y) (h1 : 1 < y - x) (h2 : y - x < p - 1) : (⟨x, y⟩ : Ch) ∈ P := by
  rcases h with h | h
  · exact absurd ⟨h1, h2⟩ h
  · exact h
/-- Which points are joined to both ends of a chord: the two apexes. -/
theorem apexes {old c0 : Ch} (ho : old ∈ P) (hc0 : c0 = outC p ∨ c0 ∈ P) (hch : Child P c0 old) (hp : 4 ≤ p) :
    ∃ y z, y ∈ regN p P old ∧ z ∈ regN p P c0 ∧ old.f0 < y ∧ y < old.f1 ∧ (z < old.f0 ∨ old.f1 < z) ∧ 0 ≤ z ∧ z < p ∧
      (∀ x, x ∈ regN p P old ↔ x = old.f0 ∨ x = y ∨ x = old.f1) ∧ (∀ x, x ∈ regN p P c0 ↔ x = old.f0 ∨ x = z ∨ x = old.f1) ∧
      ∀ q, 0 ≤ q → q < p → q ≠ old.f0 → q ≠ old.f1 → ((Join p P (min q old.f0) (max q old.f0) ∧ Join p P (min q old.f1) (max q old.f1)) ↔ (q = y ∨ q = z)) := by
  have H := T.H
  have hee := H.ends old ho
  have hok := H.pl.ok old ho
  have hne : old ≠ outC p := by rintro rfl; have h : (0 : Int) ≤ -1 := hee.1; omega
  obtain ⟨y, ey, y1, y2, y3, y4, y5⟩ := tri_pts T (.inr ho) hp
  rcases edge_cases H (.inr ho : old = outC p ∨ old ∈ P) with ⟨e, _⟩ | ⟨_, _, e1, e2, _⟩
  · exact absurd e hne
  rw [e1] at ey y1 y3 y5
  rw [e2] at ey y2 y4 y5
  obtain ⟨m, em, m1, m2, m3, m4, m5⟩ := tri_pts T hc0 hp
  have hA : old.f0 ∈ regN p P c0 := mem_regN.2 ⟨⟨hee.1, by omega⟩, hch.2.2.1⟩
  have hB : old.f1 ∈ regN p P c0 := mem_regN.2 ⟨⟨by omega, hee.2⟩, hch.2.2.2⟩
  have hyin : InR P old y := (mem_regN.1 (show y ∈ regN p P old by rw [ey]; simp)).2
  have hAin := hch.2.2.1
  have hBin := hch.2.2.2
  have hoc : old ≠ c0 := hch.2.1
  rw [em] at hA hB
  simp only [List.mem_cons, List.not_mem_nil, or_false] at hA hB
  have hlb : (0 ≤ lowE c0 ∧ topE p c0 < p) ∧ ((c0 = outC p ∧ lowE c0 = 0 ∧ topE p c0 = p - 1) ∨ (c0 ∈ P ∧ lowE c0 = c0.f0 ∧ topE p c0 = c0.f1)) := by
    have := H.hp
    rcases edge_cases H hc0 with ⟨q, q1, q2⟩ | ⟨q, _, q1, q2, _⟩
    · exact ⟨by omega, .inl ⟨q, q1, q2⟩⟩
    · exact ⟨by omega, .inr ⟨q, q1, q2⟩⟩
  -- inside
  have inner : ∀ q, old.f0 < q → q < old.f1 → Join p P old.f0 q → Join p P q old.f1 → q = y := by
    intro q q1 q2 j1 j2
    have hlt : ¬ q < y := by
      intro h
      have hin := join_in T j2 (by omega) (by omega)
      exact hyin.2.2 _ hin (by intro e; have e : q = old.f0 := congrArg S47.f0 e; omega) (by show old.f0 ≤ q; omega) (by show old.f1 ≤ old.f1; omega) ⟨h, by show y < old.f1; omega⟩
    have hgt : ¬ y < q := by
      intro h
      have hin := join_in T j1 (by omega) (by omega)
      exact hyin.2.2 _ hin (by intro e; have e : q = old.f1 := congrArg S47.f1 e; omega) (by show old.f0 ≤ old.f0; omega) (by show q ≤ old.f1; omega) ⟨by show old.f0 < y; omega, h⟩
    omega
  have cross : ∀ a b u v : Int, (⟨a, b⟩ : Ch) ∈ P → (⟨u, v⟩ : Ch) ∈ P → ¬ (a < u ∧ u < b ∧ b < v) := fun a b u v h1 h2 => (nocr (H.pl.no _ h1 _ h2)).1
  have c0e : c0 ∈ P → (⟨lowE c0, topE p c0⟩ : Ch) ∈ P := by
    intro h
    rcases hlb.2 with ⟨q, _⟩ | ⟨_, q1, q2⟩
    · rcases edge_cases H hc0 with ⟨_, q1, q2⟩ | ⟨_, q', _⟩
      · rw [q] at h
        have h : (0 : Int) ≤ -1 := (H.ends _ h).1
        omega
      · exact absurd q q'
    · rw [q1, q2]; exact h
  have inc0 : ∀ a b x : Int, (⟨a, b⟩ : Ch) ∈ P → InR P c0 x → (a ≠ lowE c0 ∨ b ≠ topE p c0) → lowE c0 ≤ a → b ≤ topE p c0 → ¬ (a < x ∧ x < b) := by
    intro a b x hab hx hn h1 h2
    have hd := H.ends _ hab
    have hd1 : 0 ≤ a := hd.1
    have hd2 : b < p := hd.2
    refine hx.2.2 _ hab ?_ ?_ ?_
    · rintro rfl
      rcases edge_cases H hc0 with ⟨q, q1, q2⟩ | ⟨_, _, q1, q2, _⟩
      · have : (⟨a, b⟩ : Ch).f0 = (outC p).f0 := by rw [q]
        have : a = -1 := this
        omega
      · have q1 : lowE (⟨a, b⟩ : Ch) = a := q1
        have q2 : topE p (⟨a, b⟩ : Ch) = b := q2
        omega
    · rcases edge_cases H hc0 with ⟨q, q1, q2⟩ | ⟨_, _, q1, q2, _⟩
      · rw [q]; show (-1 : Int) ≤ a; omega
      · show c0.f0 ≤ a; omega
    · rcases edge_cases H hc0 with ⟨q, q1, q2⟩ | ⟨_, _, q1, q2, _⟩
      · rw [q]; show b ≤ p; omega
      · show b ≤ c0.f1; omega
  have hshape : (old.f0 = lowE c0 ∧ old.f1 = m) ∨ (old.f0 = m ∧ old.f1 = topE p c0) := by
    have hx : ¬ (old.f0 = lowE c0 ∧ old.f1 = topE p c0) := by
      rintro ⟨q1, q2⟩
      rcases edge_cases H hc0 with ⟨q, w1, w2⟩ | ⟨_, _, w1, w2, _⟩
      · have := T.diag old ho; omega
      · exact hoc (by cases old; cases c0; simp only [S47.mk.injEq] at *; omega)
    omega
  rcases hshape with ⟨s1, s2⟩ | ⟨s1, s2⟩
  · -- the other apex lies behind
    refine ⟨y, topE p c0, by rw [ey]; simp, by rw [em]; simp, y1, y2, by omega, by omega, by omega, ?_, ?_, ?_⟩
    · intro x; rw [ey]; simp
    · intro x; rw [em]; simp only [List.mem_cons, List.not_mem_nil, or_false]; omega
    · intro q g0 g1 g2 g3
      constructor
      · rintro ⟨j1, j2⟩
        by_cases i1 : old.f0 < q ∧ q < old.f1
        · rw [show min q old.f0 = old.f0 by omega, show max q old.f0 = q by omega] at j1
          rw [show min q old.f1 = q by omega, show max q old.f1 = old.f1 by omega] at j2
          exact .inl (inner q i1.1 i1.2 j1 j2)
        · right
          by_cases i2 : old.f1 < q
          · rw [show min q old.f0 = old.f0 by omega, show max q old.f0 = q by omega] at j1
            rw [show min q old.f1 = old.f1 by omega, show max q old.f1 = q by omega] at j2
            have a1 : ¬ q < topE p c0 := by
              intro h
              have hin := join_in T j1 (by omega) (by omega)
              exact inc0 _ _ old.f1 hin hBin (.inr (by omega)) (by omega) (by omega) ⟨hok, i2⟩
            have a2 : ¬ topE p c0 < q := by
              intro h
              rcases hlb.2 with ⟨_, _, w⟩ | ⟨hin0, _, _⟩
              · omega
              · have hin := join_in T j2 (by omega) (by omega)
                exact cross _ _ _ _ (c0e hin0) hin ⟨by omega, by omega, h⟩
            omega
          · exfalso
            rw [show min q old.f0 = q by omega, show max q old.f0 = old.f0 by omega] at j1
            rw [show min q old.f1 = q by omega, show max q old.f1 = old.f1 by omega] at j2
            rcases hlb.2 with ⟨_, w, _⟩ | ⟨hin0, _, _⟩
            · omega
            · have hin := join_in T j2 (by omega) (by omega)
              exact cross _ _ _ _ hin (c0e hin0) ⟨by omega, by omega, by omega⟩
      · rintro (rfl | rfl)
        · rw [show min q old.f0 = old.f0 by omega, show max q old.f0 = q by omega, show min q old.f1 = q by omega, show max q old.f1 = old.f1 by omega]
          exact ⟨y3, y4⟩
        · rw [show min (topE p c0) old.f0 = old.f0 by omega, show max (topE p c0) old.f0 = topE p c0 by omega, show min (topE p c0) old.f1 = old.f1 by omega, show max (topE p c0) old.f1 = topE p c0 by omega]
          rw [s1, s2]
          exact ⟨m5, m4⟩
  · refine ⟨y, lowE c0, by rw [ey]; simp, by rw [em]; simp, y1, y2, by omega, by omega, by omega, ?_, ?_, ?_⟩
    · intro x; rw [ey]; simp
    · intro x; rw [em]; simp only [List.mem_cons, List.not_mem_nil, or_false]; omega
    · intro q g0 g1 g2 g3
      constructor
      · rintro ⟨j1, j2⟩
        by_cases i1 : old.f0 < q ∧ q < old.f1
        · rw [show min q old.f0 = old.f0 by omega, show max q old.f0 = q by omega] at j1
          rw [show min q old.f1 = q by omega, show max q old.f1 = old.f1 by omega] at j2
          exact .inl (inner q i1.1 i1.2 j1 j2)
        · right
          by_cases i2 : old.f1 < q
          · exfalso
            rw [show min q old.f0 = old.f0 by omega, show max q old.f0 = q by omega] at j1
            rw [show min q old.f1 = old.f1 by omega, show max q old.f1 = q by omega] at j2
            rcases hlb.2 with ⟨_, _, w⟩ | ⟨hin0, _, _⟩
            · omega
            · have hin := join_in T j1 (by omega) (by omega)
              exact cross _ _ _ _ (c0e hin0) hin ⟨by omega, by omega, by omega⟩
          · rw [show min q old.f0 = q by omega, show max q old.f0 = old.f0 by omega] at j1
            rw [show min q old.f1 = q by omega, show max q old.f1 = old.f1 by omega] at j2
            have a1 : ¬ lowE c0 < q := by
              intro h
              have hin := join_in T j2 (by omega) (by omega)
              exact inc0 _ _ old.f0 hin hAin (.inl (by omega)) (by omega) (by omega) ⟨by omega, hok⟩
            have a2 : ¬ q < lowE c0 := by
              intro h
              rcases hlb.2 with ⟨_, w, _⟩ | ⟨hin0, _, _⟩
              · omega
              · have hin := join_in T j1 (by omega) (by omega)
                exact cross _ _ _ _ hin (c0e hin0) ⟨h, by omega, by omega⟩
            omega
      · rintro (rfl | rfl)
        · rw [show min q old.f0 = old.f0 by omega, show max q old.f0 = q by omega, show min q old.f1 = q by omega, show max q old.f1 = old.f1 by omega]
          exact ⟨y3, y4⟩
        · rw [show min (lowE c0) old.f0 = lowE c0 by omega, show max (lowE c0) old.f0 = old.f0 by omega, show min (lowE c0) old.f1 = lowE c0 by omega, show max (lowE c0) old.f1 = old.f1 by omega]
          rw [s1, s2]
          exact ⟨m3, m5⟩
end
end Go.Proofs.Ytdeenfpcmaadcaa.M

-- Written by a program for this claim.
namespace Go.Proofs.Ytdeenfpcmaadcaa.Pr
open Go.RowKit Go.Proofs.YtdeenfpcmaadcaaW.PrintWords Go.Proofs.YtdeenfpcmaadcaaW.PrintLast Go.Proofs.YtdeenfpcmaadcaaW.PrintMore
attribute [local go_sem] max2_int min2_int max_two min_two max_three min_three max_four min_four   -- for this text's walks alone
set_option linter.unusedVariables false
set_option linter.unusedSimpArgs false

/-! ### spec_l1Has: function 45 -/
def spec_l1Has.l0 : Nat → Int → List Int → Int → Int → Option (Bool)
  | 0, _, _, _, _ => none
  | k + 1, x1, x7, x8, x9 => if x9 < x8 then (if 0 ≤ x9 then (if x9 < (x7.length : Int) then (if (rd x7 x9) = x1 then (some true) else (spec_l1Has.l0 k x1 x7 x8 (wrap64 (x9 + 1)))) else (none)) else (none)) else (some false)
def spec_l1Has.f (k : Nat) (l0 : List Int) (a1 : Int) : Option (Bool) := spec_l1Has.l0 k a1 l0 (l0.length : Int) 0
theorem spec_l1Has.mono_l : ∀ k, (∀ y0 y1 y2 y3, LeO (spec_l1Has.l0 k y0 y1 y2 y3) (spec_l1Has.l0 (k + 1) y0 y1 y2 y3))
  | 0 => fun _ _ _ _ r h => by simp [spec_l1Has.l0] at h
  | k + 1 => by
    have ih0 := spec_l1Has.mono_l k
    · intro y0 y1 y2 y3
      unfold spec_l1Has.l0
      repeat' first
      | (with_reducible exact ih0 _ _ _ _)
      | (with_reducible exact LeO.refl _)
      | (with_reducible exact LeO.none _)
      | (with_reducible refine LeO.ite ?_ ?_)
      | (with_reducible refine LeO.bind ?_ (fun _ => ?_))
      | exact ih0 _ _ _ _
      | exact LeO.none _
      | refine LeO.ite ?_ ?_
      | refine LeO.bind ?_ (fun _ => ?_)
theorem spec_l1Has.mono : ∀ a0 a1 k, LeO (spec_l1Has.f k a0 a1) (spec_l1Has.f (k + 1) a0 a1) := by
  intro a0 a1 k
  have ih0 := spec_l1Has.mono_l k
  unfold spec_l1Has.f
  repeat' first
      | (with_reducible exact ih0 _ _ _ _)
      | (with_reducible exact LeO.refl _)
      | (with_reducible exact LeO.none _)
      | (with_reducible refine LeO.ite ?_ ?_)
      | (with_reducible refine LeO.bind ?_ (fun _ => ?_))
      | exact ih0 _ _ _ _
      | exact LeO.none _
      | refine LeO.ite ?_ ?_
      | refine LeO.bind ?_ (fun _ => ?_)
set_option maxHeartbeats 8000000 in
set_option maxRecDepth 100000 in
theorem spec_l1Has.calls (k : Nat) (A0 : Option Addr) (c0 : Nat) (l0 : List Int) (a1 : Int) (r : Bool) (w : World) (hr0 : Kd.C (Kd.int .i64) w A0 l0.length l0) (hc0 : l0.length ≤ c0) (h : spec_l1Has.f k l0 a1 = some r) :
    Calls Try.prog 45 #[.slice A0 l0.length c0, .int .i64 a1] w fun e w' => e = .returned (.bool r) ∧ Drawn0 w w' := by
  have HR0 := Aside0.mk hr0
  have HC0 := Aside0.mk hc0
  clear hr0 hc0
  have H : (spec_l1Has.l0 k a1 l0 (l0.length : Int) 0) = some r := h
  clear h
  have H' := Aside0.mk H
  clear H
  go_enter Try.func45, Try.ntmps45
  go_wp2
  go_loopg [9] k (fun kq v9 w' => ∃ (x9_1 : Int), v9 = .int .i64 x9_1 ∧ Aside0 (spec_l1Has.l0 kq a1 l0 (l0.length : Int) x9_1 = some r) ∧ Aside0 (kq ≤ k) ∧ Drawn0 w w')
  case atStart => exact ⟨(0), (by first | rfl | (simp; done) | (simp [*]; done)), H', ⟨Nat.le_refl _⟩, by repeat (first | exact Drawn0.refl _ | apply Drawn0.step)⟩
  case round =>
    clear H'
    try clear p2
    obtain ⟨x9_1, rfl, HA, HK1, ⟨m1, rfl⟩⟩ := hrel
    cases gk with
    | zero => exact absurd HA.out (by simp [spec_l1Has.l0])
    | succ k1 =>
      have H := HA.out
      clear HA
      simp only [spec_l1Has.l0] at H
      by_cases c3 : x9_1 < (l0.length : Int)
      · rw [if_pos c3] at H
        have c3b0 : decide (x9_1 < (l0.length : Int)) = true := decide_eq_true c3
        clear c3
        by_cases c4 : 0 ≤ x9_1
        · rw [if_pos c4] at H
          have c4b0 : decide (0 ≤ x9_1) = true := decide_eq_true c4
          clear c4
          by_cases c5 : x9_1 < (l0.length : Int)
          · rw [if_pos c5] at H
            have c5b0 : decide (x9_1 < (l0.length : Int)) = true := decide_eq_true c5
            clear c5
            by_cases c6 : (rd l0 x9_1) = a1
            · rw [if_pos c6] at H
              have c6b0 : ((rd l0 x9_1) == a1) = true := beq_iff_eq.mpr c6
              have c6b1 : ((rd l0 x9_1) != a1) = false := bne_eq_false_iff_eq.mpr c6
              clear c6
              obtain rfl := Option.some.inj H
              have p140 : 0 ≤ (x9_1 : Int) := of_decide_eq_true (by first | (with_reducible assumption) | assumption)
              have q140 : x9_1 < (l0.length : Int) := of_decide_eq_true (by first | (with_reducible assumption) | assumption)
              obtain ⟨ad140, e140, hx140_0⟩ := Kd.at_int HR0.out x9_1 p140 q140
              cases e140
              replace p140 := eq_true p140
              replace q140 := eq_true q140
              go_wp2
              go_ret
              exact ⟨by first | rfl | (simp; done) | (simp [*]; done), by repeat (first | exact Drawn0.refl _ | apply Drawn0.step)⟩
            · rw [if_neg c6] at H
              have c6b0 : ((rd l0 x9_1) == a1) = false := beq_eq_false_iff_ne.mpr c6
              have c6b1 : ((rd l0 x9_1) != a1) = true := bne_iff_ne.mpr c6
              have H' := Aside0.mk H
              clear H
              have p140 : 0 ≤ (x9_1 : Int) := of_decide_eq_true (by first | (with_reducible assumption) | assumption)
              have q140 : x9_1 < (l0.length : Int) := of_decide_eq_true (by first | (with_reducible assumption) | assumption)
              obtain ⟨ad140, e140, hx140_0⟩ := Kd.at_int HR0.out x9_1 p140 q140
              cases e140
              replace p140 := eq_true p140
              replace q140 := eq_true q140
              go_wp2
              go_roundg k1
              case measure => have := HK1.out; omega
              case rel => exact ⟨(wrap64 (x9_1 + 1)), (by first | rfl | (simp; done) | (simp [*]; done)), H', ⟨by have := HK1.out; omega⟩, by repeat (first | exact Drawn0.refl _ | apply Drawn0.step)⟩
          · rw [if_neg c5] at H
            exact absurd H (by simp)
        · rw [if_neg c4] at H
          exact absurd H (by simp)
      · rw [if_neg c3] at H
        have c3b0 : decide (x9_1 < (l0.length : Int)) = false := decide_eq_false c3
        clear c3
        obtain rfl := Option.some.inj H
        go_wp2
        go_ret
        exact ⟨by first | rfl | (simp; done) | (simp [*]; done), by repeat (first | exact Drawn0.refl _ | apply Drawn0.step)⟩

end Go.Proofs.Ytdeenfpcmaadcaa.Pr

-- Written by a program for this claim.
namespace Go.Proofs.Ytdeenfpcmaadcaa.Pr
open Go.RowKit Go.Proofs.YtdeenfpcmaadcaaW.PrintWords Go.Proofs.YtdeenfpcmaadcaaW.PrintLast Go.Proofs.YtdeenfpcmaadcaaW.PrintMore
attribute [local go_sem] max2_int min2_int max_two min_two max_three min_three max_four min_four   -- for this text's walks alone
set_option linter.unusedVariables false
set_option linter.unusedSimpArgs false

/-! ### spec_reLess: function 60 -/
def spec_reLess.l0 : Nat → List Int → List Int → List Int → Int → Int → Option (Bool)
  | 0, _, _, _, _, _ => none
  | k + 1, x0, x1, x7, x8, x9 => if x9 < x8 then (if 0 ≤ x9 then (if x9 < (x7.length : Int) then (if x9 = (x1.length : Int) then (some false) else (if x9 < (x1.length : Int) then (if (rd x7 x9) = (rd x1 x9) then (spec_reLess.l0 k x0 x1 x7 x8 (wrap64 (x9 + 1))) else (some (decide ((rd x7 x9) < (rd x1 x9))))) else (none))) else (none)) else (none)) else (some (decide ((x0.length : Int) < (x1.length : Int))))
def spec_reLess.f (k : Nat) (l0 : List Int) (l1 : List Int) : Option (Bool) := spec_reLess.l0 k l0 l1 l0 (l0.length : Int) 0
theorem spec_reLess.mono_l : ∀ k, (∀ y0 y1 y2 y3 y4, LeO (spec_reLess.l0 k y0 y1 y2 y3 y4) (spec_reLess.l0 (k + 1) y0 y1 y2 y3 y4))
  | 0 => fun _ _ _ _ _ r h => by simp [spec_reLess.l0] at h
  | k + 1 => by
    have ih0 := spec_reLess.mono_l k
    · intro y0 y1 y2 y3 y4
      unfold spec_reLess.l0
      repeat' first
      | (with_reducible exact ih0 _ _ _ _ _)
      | (with_reducible exact LeO.refl _)
      | (with_reducible exact LeO.none _)
      | (with_reducible refine LeO.ite ?_ ?_)
      | (with_reducible refine LeO.bind ?_ (fun _ => ?_))
      | exact ih0 _ _ _ _ _
      | exact LeO.none _
      | refine LeO.ite ?_ ?_
      | refine LeO.bind ?_ (fun _ => ?_)
theorem spec_reLess.mono : ∀ a0 a1 k, LeO (spec_reLess.f k a0 a1) (spec_reLess.f (k + 1) a0 a1) := by
  intro a0 a1 k
  have ih0 := spec_reLess.mono_l k
  unfold spec_reLess.f
  repeat' first
      | (with_reducible exact ih0 _ _ _ _ _)
      | (with_reducible exact LeO.refl _)
      | (with_reducible exact LeO.none _)
      | (with_reducible refine LeO.ite ?_ ?_)
      | (with_reducible refine LeO.bind ?_ (fun _ => ?_))
      | exact ih0 _ _ _ _ _
      | exact LeO.none _
      | refine LeO.ite ?_ ?_
      | refine LeO.bind ?_ (fun _ => ?_)
set_option maxHeartbeats 8000000 in
set_option maxRecDepth 100000 in
theorem spec_reLess.calls (k : Nat) (A0 : Option Addr) (c0 : Nat) (l0 : List Int) (A1 : Option Addr) (c1 : Nat) (l1 : List Int) (r : Bool) (w : World) (hr0 : Kd.C (Kd.int .i64) w A0 l0.length l0) (hc0 : l0.length ≤ c0) (hr1 : Kd.C (Kd.int .i64) w A1 l1.length l1) (hc1 : l1.length ≤ c1) (h : spec_reLess.f k l0 l1 = some r) :
    Calls Try.prog 60 #[.slice A0 l0.length c0, .slice A1 l1.length c1] w fun e w' => e = .returned (.bool r) ∧ Drawn0 w w' := by
  have HR0 := Aside0.mk hr0
  have HC0 := Aside0.mk hc0
  clear hr0 hc0
  have HR1 := Aside0.mk hr1
  have HC1 := Aside0.mk hc1
  clear hr1 hc1
  have H : (spec_reLess.l0 k l0 l1 l0 (l0.length : Int) 0) = some r := h
  clear h
  have H' := Aside0.mk H
  clear H
  go_enter Try.func60, Try.ntmps60
  go_wp2
  go_loopg [9] k (fun kq v9 w' => ∃ (x9_1 : Int), v9 = .int .i64 x9_1 ∧ Aside0 (spec_reLess.l0 kq l0 l1 l0 (l0.length : Int) x9_1 = some r) ∧ Aside0 (kq ≤ k) ∧ Drawn0 w w')
  case atStart => exact ⟨(0), (by first | rfl | (simp; done) | (simp [*]; done)), H', ⟨Nat.le_refl _⟩, by repeat (first | exact Drawn0.refl _ | apply Drawn0.step)⟩
  case round =>
    clear H'
    try clear c1
    try clear p2
    obtain ⟨x9_1, rfl, HA, HK1, ⟨m1, rfl⟩⟩ := hrel
    cases gk with
    | zero => exact absurd HA.out (by simp [spec_reLess.l0])
    | succ k1 =>
      have H := HA.out
      clear HA
      simp only [spec_reLess.l0] at H
      by_cases c3 : x9_1 < (l0.length : Int)
      · rw [if_pos c3] at H
        have c3b0 : decide (x9_1 < (l0.length : Int)) = true := decide_eq_true c3
        clear c3
        by_cases c4 : 0 ≤ x9_1
        · rw [if_pos c4] at H
          have c4b0 : decide (0 ≤ x9_1) = true := decide_eq_true c4
          clear c4
          by_cases c5 : x9_1 < (l0.length : Int)
          · rw [if_pos c5] at H
            have c5b0 : decide (x9_1 < (l0.length : Int)) = true := decide_eq_true c5
            clear c5
            by_cases c6 : x9_1 = (l1.length : Int)
            · rw [if_pos c6] at H
              have c6b0 : (x9_1 == (l1.length : Int)) = true := beq_iff_eq.mpr c6
              have c6b1 : (x9_1 != (l1.length : Int)) = false := bne_eq_false_iff_eq.mpr c6
              clear c6
              obtain rfl := Option.some.inj H
              have p141 : 0 ≤ (x9_1 : Int) := of_decide_eq_true (by first | (with_reducible assumption) | assumption)
              have q141 : x9_1 < (l0.length : Int) := of_decide_eq_true (by first | (with_reducible assumption) | assumption)
              obtain ⟨ad141, e141, hx141_0⟩ := Kd.at_int HR0.out x9_1 p141 q141
              cases e141
              replace p141 := eq_true p141
              replace q141 := eq_true q141
              go_wp2
              go_ret
              exact ⟨by first | rfl | (simp; done) | (simp [*]; done), by repeat (first | exact Drawn0.refl _ | apply Drawn0.step)⟩
            · rw [if_neg c6] at H
              have c6b0 : (x9_1 == (l1.length : Int)) = false := beq_eq_false_iff_ne.mpr c6
              have c6b1 : (x9_1 != (l1.length : Int)) = true := bne_iff_ne.mpr c6
              by_cases c7 : x9_1 < (l1.length : Int)
              · rw [if_pos c7] at H
                have c7b0 : decide (x9_1 < (l1.length : Int)) = true := decide_eq_true c7
                clear c7
                by_cases c8 : (rd l0 x9_1) = (rd l1 x9_1)
                · rw [if_pos c8] at H
                  have c8b0 : ((rd l0 x9_1) == (rd l1 x9_1)) = true := beq_iff_eq.mpr c8
                  have c8b1 : ((rd l0 x9_1) != (rd l1 x9_1)) = false := bne_eq_false_iff_eq.mpr c8
                  clear c8
                  have H' := Aside0.mk H
                  clear H
                  have p141 : 0 ≤ (x9_1 : Int) := of_decide_eq_true (by first | (with_reducible assumption) | assumption)
                  have q141 : x9_1 < (l0.length : Int) := of_decide_eq_true (by first | (with_reducible assumption) | assumption)
                  obtain ⟨ad141, e141, hx141_0⟩ := Kd.at_int HR0.out x9_1 p141 q141
                  cases e141
                  replace p141 := eq_true p141
                  replace q141 := eq_true q141
                  have p142 : 0 ≤ (x9_1 : Int) := of_decide_eq_true (by first | (with_reducible assumption) | assumption)
                  have q142 : x9_1 < (l1.length : Int) := of_decide_eq_true (by first | (with_reducible assumption) | assumption)
                  obtain ⟨ad142, e142, hx142_0⟩ := Kd.at_int HR1.out x9_1 p142 q142
                  cases e142
                  replace p142 := eq_true p142
                  replace q142 := eq_true q142
                  go_wp2
                  go_roundg k1
                  case measure => have := HK1.out; omega
                  case rel => exact ⟨(wrap64 (x9_1 + 1)), (by first | rfl | (simp; done) | (simp [*]; done)), H', ⟨by have := HK1.out; omega⟩, by repeat (first | exact Drawn0.refl _ | apply Drawn0.step)⟩
                · rw [if_neg c8] at H
                  have c8b0 : ((rd l0 x9_1) == (rd l1 x9_1)) = false := beq_eq_false_iff_ne.mpr c8
                  have c8b1 : ((rd l0 x9_1) != (rd l1 x9_1)) = true := bne_iff_ne.mpr c8
                  obtain rfl := Option.some.inj H
                  have p141 : 0 ≤ (x9_1 : Int) := of_decide_eq_true (by first | (with_reducible assumption) | assumption)
                  have q141 : x9_1 < (l0.length : Int) := of_decide_eq_true (by first | (with_reducible assumption) | assumption)
                  obtain ⟨ad141, e141, hx141_0⟩ := Kd.at_int HR0.out x9_1 p141 q141
                  cases e141
                  replace p141 := eq_true p141
                  replace q141 := eq_true q141
                  have p142 : 0 ≤ (x9_1 : Int) := of_decide_eq_true (by first | (with_reducible assumption) | assumption)
                  have q142 : x9_1 < (l1.length : Int) := of_decide_eq_true (by first | (with_reducible assumption) | assumption)
                  obtain ⟨ad142, e142, hx142_0⟩ := Kd.at_int HR1.out x9_1 p142 q142
                  cases e142
                  replace p142 := eq_true p142
                  replace q142 := eq_true q142
                  have p143 : 0 ≤ (x9_1 : Int) := of_decide_eq_true (by first | (with_reducible assumption) | assumption)
                  have q143 : x9_1 < (l1.length : Int) := of_decide_eq_true (by first | (with_reducible assumption) | assumption)
                  obtain ⟨ad143, e143, hx143_0⟩ := Kd.at_int HR1.out x9_1 p143 q143
                  obtain rfl : ad142 = ad143 := (by injection e143)
                  replace p143 := eq_true p143
                  replace q143 := eq_true q143
                  go_wp2
                  go_ret
                  exact ⟨by first | rfl | (simp; done) | (simp [*]; done), by repeat (first | exact Drawn0.refl _ | apply Drawn0.step)⟩
              · rw [if_neg c7] at H
                exact absurd H (by simp)
          · rw [if_neg c5] at H
            exact absurd H (by simp)
        · rw [if_neg c4] at H
          exact absurd H (by simp)
      · rw [if_neg c3] at H
        have c3b0 : decide (x9_1 < (l0.length : Int)) = false := decide_eq_false c3
        clear c3
        obtain rfl := Option.some.inj H
        go_wp2
        go_ret
        exact ⟨by first | rfl | (simp; done) | (simp [*]; done), by repeat (first | exact Drawn0.refl _ | apply Drawn0.step)⟩

end Go.Proofs.Ytdeenfpcmaadcaa.Pr

/- Finding a number in a row, and which row is ahead of another: what the reference computes. -/
namespace Go.Proofs.Ytdeenfpcmaadcaa.M
open Go.RowKit Go.Proofs.YtdeenfpcmaadcaaW.PrintWords Go.Proofs.Ytdeenfpcmaadcaa.Pr
set_option linter.unusedVariables false
set_option linter.unusedSimpArgs false
theorem rd_int (l : List Int) (i : Nat) (h : i < l.length) : rd l (i : Int) = l[i] := by
  unfold rd
  simp [List.getD_eq_getElem?_getD, List.getElem?_eq_getElem h]
theorem l1Has_ev (l : List Int) (x : Int) (hl : l.length ≤ 1000000) : Ev (fun k => spec_l1Has.f k l x) (l.contains x) := by
  unfold spec_l1Has.f
  have e := Ev.scan0 (fun k i (_ : Unit) => spec_l1Has.l0 k x l (l.length : Int) i) l (fun rest _ => rest.contains x) (fun _ _ => True)
    (fun acc hp => by
      refine Ev.step (fun k => by rw [spec_l1Has.l0]) ?_
      exact Ev.neg (by omega) (Ev.val (by simp)))
    (fun i h acc hp => by
      by_cases hx : l[i] = x
      · right
        refine Ev.step (fun k => by rw [spec_l1Has.l0]) ?_
        refine Ev.pos (by omega) (Ev.pos (by omega) (Ev.pos (by omega) (Ev.pos (by rw [rd_int l i h]; exact hx) (Ev.val ?_))))
        rw [List.contains_cons, beq_iff_eq.2 hx.symm, Bool.true_or]
      · refine .inl ⟨(), trivial, ?_, fun r hr => ?_⟩
        · rw [List.contains_cons, beq_eq_false_iff_ne.2 (fun e => hx e.symm), Bool.false_or]
        · refine Ev.step (fun k => by rw [spec_l1Has.l0]) ?_
          refine Ev.pos (by omega) (Ev.pos (by omega) (Ev.pos (by omega) (Ev.neg (by rw [rd_int l i h]; exact hx) ?_)))
          rw [w64 (by omega) (by omega)]
          exact hr)
    () trivial
  simpa using e
theorem lexB_app (a b c : List Int) : lexB (c ++ a) (c ++ b) = lexB a b := by
  induction c with
  | nil => rfl
  | cons x c ih => rw [List.cons_append, List.cons_append, lexB, if_pos rfl, ih]
theorem reLess_l0 (a b : List Int) (ha : a.length ≤ 1000000) : ∀ (d i : Nat), i + d = a.length → i ≤ b.length → a.take i = b.take i → Ev (fun k => spec_reLess.l0 k a b a (a.length : Int) (i : Int)) (lexB a b)
  | 0, i, h, hb, he => by
    obtain rfl : i = a.length := by omega
    rw [List.take_length] at he
    refine Ev.step (fun k => by rw [spec_reLess.l0]) ?_
    refine Ev.neg (by omega) (Ev.val ?_)
    obtain ⟨c, hc⟩ : ∃ c, b = a ++ c := ⟨b.drop a.length, by
      have e := (List.take_append_drop a.length b).symm
      rwa [← he] at e⟩
    subst hc
    have e := lexB_app [] c a
    rw [List.append_nil] at e
    rw [e]
    cases c with
    | nil => simp [lexB]
    | cons x c => simp [lexB]; omega
  | d + 1, i, h, hb, he => by
    have hi : i < a.length := by omega
    have hra := rd_int a i hi
    have ea : a = a.take i ++ a[i] :: a.drop (i + 1) := by rw [← List.drop_eq_getElem_cons hi, List.take_append_drop]
    refine Ev.step (fun k => by rw [spec_reLess.l0]) ?_
    refine Ev.pos (by omega) (Ev.pos (by omega) (Ev.pos (by omega) ?_))
    by_cases hib : i = b.length
    · refine Ev.pos (by omega) (Ev.val ?_)
      have eb : b = a.take i := by rw [he, hib, List.take_length]
      have e := lexB_app (a[i] :: a.drop (i + 1)) [] (a.take i)
      rw [List.append_nil, ← ea, ← eb] at e
      rw [e]
      rfl
    · have hib2 : i < b.length := by omega
      have hrb := rd_int b i hib2
      have eb : b = a.take i ++ b[i] :: b.drop (i + 1) := by rw [he, ← List.drop_eq_getElem_cons hib2, List.take_append_drop]
      have e : lexB a b = lexB (a[i] :: a.drop (i + 1)) (b[i] :: b.drop (i + 1)) := by
        conv => lhs; rw [ea, eb]
        exact lexB_app _ _ _
      refine Ev.neg (by omega) (Ev.pos (by omega) ?_)
      by_cases hx : a[i] = b[i]
      · refine Ev.pos (by rw [hra, hrb]; exact hx) ?_
        rw [w64 (by omega) (by omega)]
        have ih := reLess_l0 a b ha d (i + 1) (by omega) (by omega) (by rw [List.take_succ_eq_append_getElem hi, List.take_succ_eq_append_getElem hib2, he, hx])
        rw [show ((i + 1 : Nat) : Int) = (i : Int) + 1 by omega] at ih
        exact ih
      · refine Ev.neg (by rw [hra, hrb]; exact hx) (Ev.val ?_)
        rw [e, lexB, if_neg hx, hra, hrb]
theorem reLess_ev (a b : List Int) (ha : a.length ≤ 1000000) : Ev (fun k => spec_reLess.f k a b) (lexB a b) := by
  unfold spec_reLess.f
  exact reLess_l0 a b ha a.length 0 (by omega) (by omega) rfl
end Go.Proofs.Ytdeenfpcmaadcaa.M

/- What the reference's reList computes: the regions that its splits leave, sorted. -/
namespace Go.Proofs.Ytdeenfpcmaadcaa.Pr
open Go.RowKit Go.Proofs.YtdeenfpcmaadcaaW.PrintWords Go.Proofs.YtdeenfpcmaadcaaW.PrintLast Go.Proofs.YtdeenfpcmaadcaaW.PrintMore
set_option linter.unusedVariables false
set_option linter.unusedSimpArgs false

def spec_reList.f (a0 : Int) (l1 : List (S47)) : Option ((List (List Int))) := if (0 ≤ a0 ∧ a0 ≤ 1000) ∧ l1.length ≤ 1000 then some ((M.foldR l1 [M.ptsTo a0]).foldl (insB M.lexB) []) else none
theorem has_calls (A : Option Addr) (c : Nat) (l : List Int) (x : Int) (W : World) (hr : KI.C W A l.length l) (hc : l.length ≤ c) (hl : l.length ≤ 1000000) :
    Calls Try.prog 45 #[.slice A l.length c, .int .i64 x] W fun e w' => e = .returned (.bool (l.contains x)) ∧ Drawn0 W w' := by
  obtain ⟨k, hk⟩ := (M.l1Has_ev l x hl).rounds
  exact spec_l1Has.calls k A c l x _ W hr hc hk
theorem less_calls (A : Option Addr) (c : Nat) (l : List Int) (A' : Option Addr) (c' : Nat) (l' : List Int) (W : World) (hr : KI.C W A l.length l) (hc : l.length ≤ c) (hr' : KI.C W A' l'.length l') (hc' : l'.length ≤ c') (hl : l.length ≤ 1000000) :
    Calls Try.prog 60 #[.slice A l.length c, .slice A' l'.length c'] W fun e w' => e = .returned (.bool (M.lexB l l')) ∧ Drawn0 W w' := by
  obtain ⟨k, hk⟩ := (M.reLess_ev l l' hl).rounds
  exact spec_reLess.calls k A c l A' c' l' _ W hr hc hr' hc' hk
theorem in_calls (x a b : Int) (W : World) : Calls Try.prog 37 #[.int .i64 x, .int .i64 a, .int .i64 b] W fun e w' => e = .returned (.bool (decide (a ≤ x ∧ x ≤ b))) ∧ Drawn0 W w' :=
  spec_l1In.calls x a b _ W (M.l1In_eq x a b)
theorem pts_succ (n : Nat) : M.ptsTo ((n : Int) + 1) = M.ptsTo (n : Int) ++ [(n : Int)] := by
  unfold M.ptsTo
  rw [show ((n : Int) + 1).toNat = n + 1 by omega, Int.toNat_natCast, List.range_succ, List.map_append]
  rfl
theorem pts_len (n : Nat) : (M.ptsTo (n : Int)).length = n := by simp [M.ptsTo]
/-- A round's world: the rows that are there, and the chord in its block. -/
structure LW (w W : World) (H : Nat) (c : S47) (v : Value) (rs : RL) : Prop where
  bl : Below w.heap.size w W
  hh : w.heap.size ≤ H
  rg : Regs w W (fun k => k < H) v rs
  cb : W.heap[H]? = some (.cells #[.int .i64 c.f0, .int .i64 c.f1] 47 (0, 0))
theorem LW.go {w W W' : World} {H : Nat} {c : S47} {v : Value} {rs : RL} (h : LW w W H c v rs) (hb : Below W.heap.size W W') : LW w W' H c v rs := ⟨below_step h.bl hb, h.hh, h.rg.below hb, blk_below h.cb hb⟩
theorem LW.new {w W : World} {c : S47} {v : Value} {rs : RL} (hb : Below w.heap.size w W) (h : Regs w W (fun _ => True) v rs) : LW w (W.alloc (.cells #[.int .i64 c.f0, .int .i64 c.f1] 47)) W.heap.size c v rs :=
  ⟨below_alloc hb _, hb.size, (h.old.mono (fun k hk => hk.2)).below (below_alloc (Below.refl _ _) _), heap_alloc_new W _⟩
theorem LW.lt {w W : World} {H : Nat} {c : S47} {v : Value} {rs : RL} (h : LW w W H c v rs) : H < W.heap.size := blk_lt h.cb
theorem LW.grown {w W W' : World} {H : Nat} {c : S47} {v : Value} {rs : RL} {row : Option Nat} (h : LW w W H c v rs) (hg : W.grownBy W' row) (hr : ∀ k, row = some k → H < k) (hb : Below w.heap.size w W') : LW w W' H c v rs :=
  ⟨hb, h.hh, h.rg.grown hg (fun k hk e => by have := hr k e.symm; omega), (hg.block H h.lt (fun e => by have := hr H e.symm; omega)).trans h.cb⟩
/-- A round's world, with the two rows that are made. -/
structure FW (w W : World) (H : Nat) (c : S47) (v : Value) (rs : RL) (vi vo : Value) (li lo : List Int) : Prop where
  l : LW w W H c v rs
  i : KI.R 3 W w.heap.size (fun k => H < k ∧ some k ≠ vo.ownBlock) vi li
  o : KI.R 3 W w.heap.size (fun k => H < k ∧ some k ≠ vi.ownBlock) vo lo
section
variable {w W W' : World} {H : Nat} {c : S47} {v : Value} {rs : RL} {vi vo v1 : Value} {li lo : List Int}
theorem FW.go (h : FW w W H c v rs vi vo li lo) (hb : Below W.heap.size W W') : FW w W' H c v rs vi vo li lo := ⟨h.l.go hb, Kd.R_below h.i hb, Kd.R_below h.o hb⟩
theorem FW.new (h : LW w W H c v rs) : FW w W H c v rs (.slice none 0 0) (.slice none 0 0) [] [] := ⟨h, Kd.R_nil _ _ _ _ _, Kd.R_nil _ _ _ _ _⟩
theorem FW.freshI (h : FW w W H c v rs vi vo li lo) : ∀ k, W.heap.size ≤ k → H < k ∧ some k ≠ vo.ownBlock := fun k hk => ⟨by have := h.l.lt; omega, fun e => by have := Kd.R_lt h.o k e.symm; omega⟩
theorem FW.freshO (h : FW w W H c v rs vi vo li lo) : ∀ k, W.heap.size ≤ k → H < k ∧ some k ≠ vi.ownBlock := fun k hk => ⟨by have := h.l.lt; omega, fun e => by have := Kd.R_lt h.i k e.symm; omega⟩
theorem FW.appI {li' : List Int} (h : FW w W H c v rs vi vo li lo) (ho : KI.R 3 W' w.heap.size (fun k => H < k ∧ some k ≠ vo.ownBlock) v1 li') (hb : Below w.heap.size w W') (hg : W.grownBy W' vi.ownBlock) (hat : v1.ownBlock = vi.ownBlock ∨ ∃ b, v1.ownBlock = some b ∧ W.heap.size ≤ b) : FW w W' H c v rs v1 vo li' lo :=
  ⟨h.l.grown hg (fun k hk => (h.i.1 k hk).1) hb, ho, Kd.R_after h.o hg hat⟩
theorem FW.appO {lo' : List Int} (h : FW w W H c v rs vi vo li lo) (ho : KI.R 3 W' w.heap.size (fun k => H < k ∧ some k ≠ vi.ownBlock) v1 lo') (hb : Below w.heap.size w W') (hg : W.grownBy W' vo.ownBlock) (hat : v1.ownBlock = vo.ownBlock ∨ ∃ b, v1.ownBlock = some b ∧ W.heap.size ≤ b) : FW w W' H c v rs vi v1 li lo' :=
  ⟨h.l.grown hg (fun k hk => (h.o.1 k hk).1) hb, Kd.R_after h.i hg hat, ho⟩
end
/-- The rows that are there, and the two that were made, all of them elder than block N. -/
structure GW (w W : World) (N : Nat) (v : Value) (rs : RL) (vi vo : Value) (li lo : List Int) : Prop where
  bl : Below w.heap.size w W
  hn : w.heap.size ≤ N ∧ N ≤ W.heap.size
  rg : Regs w W (fun k => k < N) v rs
  i : KI.R 3 W w.heap.size (fun k => k < N) vi li
  o : KI.R 3 W w.heap.size (fun k => k < N) vo lo
  ne : NeR vi vo ∧ (∀ r ∈ rs, NeR r.1 vi ∧ NeR r.1 vo)
section
variable {w W W' : World} {H N : Nat} {c : S47} {v : Value} {rs : RL} {vi vo v1 : Value} {li lo : List Int}
theorem GW.of (h : FW w W H c v rs vi vo li lo) : GW w W W.heap.size v rs vi vo li lo :=
  ⟨h.l.bl, ⟨h.l.bl.size, Nat.le_refl _⟩, h.l.rg.old.mono (fun k hk => hk.2), Kd.R_mono (Kd.R_bound h.i) (fun k hk => hk.2.2.1), Kd.R_mono (Kd.R_bound h.o) (fun k hk => hk.2.2.1),
    fun k hk e => (h.o.1 k e).2 hk.symm, fun r hr => ⟨fun k hk e => by have := (h.l.rg.inn r hr).1 k hk; have := (h.i.1 k e).1; omega, fun k hk e => by have := (h.l.rg.inn r hr).1 k hk; have := (h.o.1 k e).1; omega⟩⟩
theorem GW.grown {row : Option Nat} (h : GW w W N v rs vi vo li lo) (hg : W.grownBy W' row) (hr : ∀ k, row = some k → N ≤ k) (hb : Below w.heap.size w W') : GW w W' N v rs vi vo li lo :=
  ⟨hb, ⟨h.hn.1, Nat.le_trans h.hn.2 hg.size⟩, h.rg.grown hg (fun k hk e => by have := hr k e.symm; omega), Kd.R_grown h.i hg (fun k hk e => by have := hr k e.symm; omega), Kd.R_grown h.o hg (fun k hk e => by have := hr k e.symm; omega), h.ne⟩
theorem GW.go (h : GW w W N v rs vi vo li lo) (hb : Below W.heap.size W W') : GW w W' N v rs vi vo li lo :=
  h.grown (grown_of_below hb none) (fun _ e => by cases e) (below_step h.bl hb)
end
theorem size_alloc1 (W : World) (o : Obj) : (W.alloc o).heap.size = W.heap.size + 1 := by simp
theorem cutIn_succ {c : S47} (l : List Int) (q : Nat) (h : q < l.length) : M.cutIn c (l.take (q + 1)) = M.cutIn c (l.take q) ++ (if c.f0 ≤ l[q] ∧ l[q] ≤ c.f1 then [l[q]] else []) := by
  unfold M.cutIn
  rw [List.take_succ_eq_append_getElem h, List.filter_append]
  congr 1
  by_cases e : c.f0 ≤ l[q] ∧ l[q] ≤ c.f1
  · rw [if_pos e, List.filter_cons, if_pos (decide_eq_true e)]; rfl
  · rw [if_neg e, List.filter_cons, if_neg (by rw [decide_eq_false e]; decide)]; rfl
theorem cutOut_succ {c : S47} (l : List Int) (q : Nat) (h : q < l.length) : M.cutOut c (l.take (q + 1)) = M.cutOut c (l.take q) ++ (if l[q] ≤ c.f0 ∨ c.f1 ≤ l[q] then [l[q]] else []) := by
  unfold M.cutOut
  rw [List.take_succ_eq_append_getElem h, List.filter_append]
  congr 1
  by_cases e : l[q] ≤ c.f0 ∨ c.f1 ≤ l[q]
  · rw [if_pos e, List.filter_cons, if_pos (decide_eq_true e)]; rfl
  · rw [if_neg e, List.filter_cons, if_neg (by rw [decide_eq_false e]; decide)]; rfl
theorem cutIn_len {c : S47} (l : List Int) : (M.cutIn c l).length ≤ l.length := List.length_filter_le _ _
theorem cutOut_len {c : S47} (l : List Int) : (M.cutOut c l).length ≤ l.length := List.length_filter_le _ _
theorem out_cases (c : S47) (x : Int) : (decide (x ≤ c.f0) = true ∧ (x ≤ c.f0 ∨ c.f1 ≤ x)) ∨ (decide (x ≤ c.f0) = false ∧ decide (c.f1 ≤ x) = true ∧ (x ≤ c.f0 ∨ c.f1 ≤ x)) ∨ (decide (x ≤ c.f0) = false ∧ decide (c.f1 ≤ x) = false ∧ ¬ (x ≤ c.f0 ∨ c.f1 ≤ x)) := by
  by_cases h : x ≤ c.f0
  · exact .inl ⟨decide_eq_true h, .inl h⟩
  · by_cases h2 : c.f1 ≤ x
    · exact .inr (.inl ⟨decide_eq_false h, decide_eq_true h2, .inr h2⟩)
    · exact .inr (.inr ⟨decide_eq_false h, decide_eq_false h2, fun e => e.elim h h2⟩)
theorem hasB_false {c : S47} {r : List Int} (h : r.contains c.f0 = false ∨ r.contains c.f1 = false) : M.hasB c r = false := by
  unfold M.hasB
  refine decide_eq_false fun e => ?_
  rcases h with h | h
  · rw [List.contains_iff_mem.2 e.1] at h; cases h
  · rw [List.contains_iff_mem.2 e.2] at h; cases h
theorem hasB_true {c : S47} {r : List Int} (h : r.contains c.f0 = true) (h' : r.contains c.f1 = true) : M.hasB c r = true := decide_eq_true ⟨List.contains_iff_mem.1 h, List.contains_iff_mem.1 h'⟩
theorem stepR_none {c : S47} : ∀ rs : List (List Int), (∀ r ∈ rs, M.hasB c r = false) → M.stepR c rs = rs
  | [], _ => rfl
  | r :: rs, h => by rw [M.stepR, if_neg (by rw [h r (List.mem_cons_self ..)]; decide), stepR_none rs (fun x hx => h x (List.mem_cons_of_mem _ hx))]
theorem stepR_at {c : S47} : ∀ (a : List (List Int)) (r : List Int) (b : List (List Int)), (∀ x ∈ a, M.hasB c x = false) → M.hasB c r = true → M.stepR c (a ++ r :: b) = a ++ M.cutIn c r :: M.cutOut c r :: b
  | [], r, b, _, hr => by rw [List.nil_append, M.stepR, if_pos hr]; rfl
  | x :: a, r, b, h, hr => by
    rw [List.cons_append, M.stepR, if_neg (by rw [h x (List.mem_cons_self ..)]; decide), stepR_at a r b (fun y hy => h y (List.mem_cons_of_mem _ hy)) hr]
    rfl
theorem ins_perm {rs os : RL} {i K0 : Nat} {re : Value × List Int} (hil : i < rs.length) (h : os.Perm (rs.take i)) (hre : re = rs[i]) : (os.take K0 ++ re :: os.drop K0).Perm (rs.take (i + 1)) := by
  rw [List.take_succ_eq_append_getElem hil, ← hre]
  refine List.perm_middle.trans ?_
  rw [List.take_append_drop]
  exact (h.cons re).trans (List.perm_append_singleton re _).symm
theorem ins_map {rs os : RL} {i K0 : Nat} {re : Value × List Int} (hil : i < rs.length) (h : os.map (·.2) = ((rs.take i).map (·.2)).foldl (insB M.lexB) []) (hre : re = rs[i]) (hK : K0 = backK M.lexB re.2 (os.map (·.2)) os.length) :
    (os.take K0 ++ re :: os.drop K0).map (·.2) = ((rs.take (i + 1)).map (·.2)).foldl (insB M.lexB) [] := by
  rw [List.take_succ_eq_append_getElem hil, ← hre]
  simp only [List.map_append, List.map_cons, List.map_nil, List.foldl_append, List.foldl_cons, List.foldl_nil, ← h]
  rw [insB, List.length_map, ← hK, List.map_take, List.map_drop]
set_option maxHeartbeats 4000000 in
set_option maxRecDepth 100000 in
theorem spec_reList.calls (a0 : Int) (A1 : Option Addr) (c1 : Nat) (l1 : List (S47)) (r : List (List Int)) (w : World) (hr1 : Kd.C k47 w A1 l1.length l1) (hc1 : l1.length ≤ c1) (h : spec_reList.f a0 l1 = some r) :
    Calls Try.prog 33 #[.int .i64 a0, .slice A1 l1.length c1] w fun e w' => ∃ v0_ : Value, e = .returned (v0_) ∧ Kd.S (Kd.slice 3 (Kd.int .i64)) 24 w' w.heap.size (fun _ => True) v0_ r ∧ Below w.heap.size w w' := by
  unfold spec_reList.f at h
  split at h
  rotate_left
  · cases h
  rename_i hb
  obtain ⟨⟨ha0, ha1⟩, hl1⟩ := hb
  obtain rfl := Option.some.inj h
  clear h
  obtain ⟨p, rfl⟩ : ∃ p : Nat, a0 = (p : Int) := ⟨a0.toNat, by omega⟩
  have hp1 : p ≤ 1000 := by omega
  clear ha0 ha1
  have HR1 := Aside0.mk hr1
  have HB := Aside0.mk (Below.refl w.heap.size w)
  clear hr1
  go_enter Try.func33, Try.ntmps33
  go_wp2_with fail
  go_loopg [5, 6] p (fun gg v5 v6 W => ∃ (q : Nat), v6 = .int .i64 q ∧ Aside0 (q + gg = p) ∧ Aside0 (Below w.heap.size w W) ∧ Aside0 (KI.R 3 W w.heap.size (fun _ => True) v5 (M.ptsTo (q : Int))))
  case atStart => exact ⟨0, by first | rfl | (simp; done), ⟨by omega⟩, ⟨by first | exact HB.out | exact pw_below_drewN HB.out _⟩, ⟨by have : M.ptsTo ((0 : Nat) : Int) = [] := rfl; rw [this]; exact Kd.R_nil _ _ _ _ _⟩⟩
  case round =>
    clear HB
    obtain ⟨q, rfl, HG, HB, HO⟩ := hrel
    by_cases hq : q < p
    · have e1 : decide ((q : Int) < (p : Int)) = true := decide_eq_true (by omega)
      have e2 : IntKind.i64.wrap ((q : Int) + 1) = ((q + 1 : Nat) : Int) := by
        rw [i64_w]
        exact M.w64 (by omega) (by omega)
      obtain ⟨gm, rfl⟩ : ∃ gm, gk = gm + 1 := ⟨gk - 1, by have := HG.out; omega⟩
      have HLn := Aside0.mk (pts_len q)
      go_wp2_with ((with_reducible refine gate_builtin (b := .append) (xs := #[.tmp 27, .tmp 29]) rfl ?_); at_builtin; refine Kd.R_append (Kd.int .i64) (w0 := w) w.heap.size rfl (.tmp 27) (.tmp 29) 24 3 (.int .i64 0) 8 rfl Try.underlying24 info3 rfl (by decide) (by omega) _ (M.ptsTo (q : Int)) (q : Int) [.int .i64 (q : Int)] (fun _ => True) (fun _ => False) rfl rfl ?aP (fun _ hk => hk.elim) ?aF ?aO ?aB ?aS ?aL ?_; (case aP => exact rfl); (case aF => exact (fun _ _ => trivial)); (case aO => exact HO.out); (case aB => exact HB.out); (case aS => exact HB.out.size); (case aL => have := HLn.out; omega); intro v7 w7 ho hb hg hat; have HO2 := Aside0.mk ho; have HB2 := Aside0.mk hb; clear ho hb hg hat)
      go_roundg gm
      case measure => omega
      case rel => exact ⟨q + 1, by first | rfl | (simp; done), ⟨by have := HG.out; omega⟩, HB2, ⟨by have := HO2.out; rwa [← pts_succ] at this⟩⟩
    · obtain rfl : q = p := by have := HG.out; omega
      have e1 : decide ((q : Int) < (q : Int)) = false := decide_eq_false (by omega)
      obtain ⟨Av, cv, ev⟩ := Kd.R_slice HO.out
      subst ev
      have HR := Aside0.mk (regs_one HB.out HO.out)
      have HB2 := Aside0.mk (below_alloc HB.out (.cells #[.slice Av (M.ptsTo (q : Int)).length cv] 24))
      clear HB
      have HB := HB2
      clear HB2
      go_wp2_with fail
      obtain ⟨N, hN⟩ : ∃ N, N = l1.length := ⟨_, rfl⟩
      go_loopg [7, 35] N (fun gg v7 v35 W => ∃ (j : Nat) (rs : RL), v35 = .int .i64 j ∧ Aside0 (j + gg = N) ∧ Aside0 (Below w.heap.size w W) ∧ Aside0 (Regs w W (fun _ => True) v7 rs) ∧ Aside0 (Dist rs) ∧ Aside0 (rs.length ≤ j + 1 ∧ ∀ r ∈ rs, r.2.length ≤ 1000) ∧ Aside0 (M.foldR (l1.drop j) (rs.map (·.2)) = M.foldR l1 [M.ptsTo (q : Int)]))
      case atStart => exact ⟨0, [(_, M.ptsTo (q : Int))], by first | rfl | (simp; done), ⟨by omega⟩, HB, ⟨HR.out⟩, ⟨List.pairwise_singleton _ _⟩, ⟨by simp, fun r hr => by rw [List.mem_singleton.1 hr]; show (M.ptsTo (q : Int)).length ≤ 1000; rw [pts_len]; exact hp1⟩, ⟨rfl⟩⟩
      case round =>
        clear HB HR HO HG
        obtain ⟨j, rs, rfl, HG, HB, HR, HD, HLn, HF⟩ := hrel
        have hN2 : (N : Int) = (l1.length : Int) := by omega
        by_cases hj : j < N
        · have hjl : j < l1.length := by omega
          have e1 : decide ((j : Int) < (l1.length : Int)) = true := decide_eq_true (by omega)
          have e2 : IntKind.i64.wrap ((j : Int) + 1) = ((j + 1 : Nat) : Int) := by
            rw [i64_w]
            exact M.w64 (by omega) (by omega)
          obtain ⟨gm, rfl⟩ : ∃ gm, gk = gm + 1 := ⟨gk - 1, by have := HG.out; omega⟩
          obtain ⟨c, hc⟩ : ∃ c, c = l1[j] := ⟨_, rfl⟩
          have hF := HF.out
          rw [List.drop_eq_getElem_cons hjl, ← hc, M.foldR] at hF
          have HF2 := Aside0.mk hF
          clear hF HF
          obtain ⟨ad, ea, x0, x1⟩ := at_T47 (Kd.C_below HR1.out HB.out) (j : Int) (by omega) (by omega)
          rw [M.rd_ch l1 j hjl, ← hc] at x0 x1
          have HCj := Aside0.mk hc
          clear hc
          rw [Int.toNat_natCast] at x0 x1
          cases ea
          obtain ⟨Ar, cr, ev, hcap, hC⟩ := HR.out.slice
          subst ev
          have HC := Aside0.mk hC
          clear hC
          have HL := Aside0.mk (LW.new (c := c) HB.out HR.out)
          go_upto_block 3 with fail
          go_cut [7] from 1 to 0 (fun v7 wc => ∃ (rs' : RL), Aside0 (Below w.heap.size w wc) ∧ Aside0 (Regs w wc (fun _ => True) v7 rs') ∧ Aside0 (Dist rs') ∧ Aside0 (rs'.length ≤ j + 2 ∧ ∀ r ∈ rs', r.2.length ≤ 1000) ∧ Aside0 (rs'.map (·.2) = M.stepR c (rs.map (·.2))))
          case first =>
            have HH : Aside0 (w.heap.size ≤ wr.heap.size) := ⟨HB.out.size⟩
            go_upto_block 4 with fail
            clear HB HR HC HF2 x0 x1
            generalize wr.heap.size = H at HL HH ⊢
            generalize (wr.alloc (.cells #[.int .i64 c.f0, .int .i64 c.f1] 47)) = W1 at HL ⊢
            go_wp2_with fail
            obtain ⟨M0, hM0⟩ : ∃ M0, M0 = rs.length := ⟨_, rfl⟩
            go_loopg [7, 41] M0 (fun gg v7 v41 W => ∃ (i : Nat), v7 = .slice Ar rs.length cr ∧ v41 = .int .i64 i ∧ Aside0 (i + gg = M0) ∧ Aside0 (LW w W H c (.slice Ar rs.length cr) rs) ∧ Aside0 (∀ r ∈ rs.take i, M.hasB c r.2 = false))
            case atStart => exact ⟨0, by first | rfl | (simp; done), by first | rfl | (simp; done), ⟨by omega⟩, HL, ⟨fun r hr => by simp at hr⟩⟩
            case round =>
              clear HL HG
              obtain ⟨i, rfl, rfl, HG, HL, HN⟩ := hrel
              have hM1 : (M0 : Int) = (rs.length : Int) := by omega
              by_cases hi : i < M0
              · have hil : i < rs.length := by omega
                have e3 : decide ((i : Int) < (rs.length : Int)) = true := decide_eq_true (by omega)
                have e4 : IntKind.i64.wrap ((i : Int) + 1) = ((i + 1 : Nat) : Int) := by
                  rw [i64_w]
                  have := HLn.out.1
                  exact M.w64 (by omega) (by omega)
                obtain ⟨gi, rfl⟩ : ∃ gi, gk = gi + 1 := ⟨gk - 1, by have := HG.out; omega⟩
                obtain ⟨re, hre⟩ : ∃ re, re = rs[i] := ⟨_, rfl⟩
                have hmem : re ∈ rs := by rw [hre]; exact List.getElem_mem hil
                obtain ⟨ad2, ea2, x2⟩ := at_raw (Kd.R_reads' HL.out.rg.out).2.2 i hil
                rw [← hre] at x2
                have HIn := Aside0.mk (HL.out.rg.inn re hmem)
                obtain ⟨Ae, ce, ev2⟩ := Kd.R_slice HIn.out
                rw [ev2] at x2
                have HIn2 := HIn.out
                rw [ev2] at HIn2
                clear HIn
                have HIn := Aside0.mk HIn2
                clear HIn2
                have HRe := Aside0.mk (show re.1 = .slice Ae re.2.length ce ∧ re = rs[i] ∧ re ∈ rs from ⟨ev2, hre, hmem⟩)
                have HRl := Aside0.mk (HLn.out.2 re hmem)
                clear hre hmem ev2
                cases ea2
                obtain ⟨y0, y1⟩ := blk_two HL.out.cb
                have HC1 := Aside0.mk (fun (W : World) (hW : KI.R 3 W w.heap.size (fun k => k < H) (.slice Ae re.2.length ce) re.2) => calls_drawn (has_calls Ae ce re.2 c.f0 W (Kd.R_reads' hW).2.2 (Kd.R_reads' hW).2.1 (by have := HRl.out; omega)))
                have HC2 := Aside0.mk (fun (W : World) (hW : KI.R 3 W w.heap.size (fun k => k < H) (.slice Ae re.2.length ce) re.2) => calls_drawn (has_calls Ae ce re.2 c.f1 W (Kd.R_reads' hW).2.2 (Kd.R_reads' hW).2.1 (by have := HRl.out; omega)))
                cases hA : re.2.contains c.f0 with
                | false =>
                  rw [hA] at HC1
                  clear HC2
                  go_wp2_with (go_at_call 45; refine (HC1.out _ HIn.out).mono ?_; rintro e w3 ⟨rfl, hb3⟩; have HL2 := Aside0.mk (HL.out.go hb3); clear HL y0 y1 x2 HC1 hb3; have HL := HL2; clear HL2)
                  go_roundg gi
                  case measure => omega
                  case rel => exact ⟨i + 1, by first | rfl | (simp; done), by first | rfl | (simp; done), ⟨by have := HG.out; omega⟩, HL, ⟨fun r hr => by
                    rw [List.take_succ_eq_append_getElem hil] at hr
                    rcases List.mem_append.1 hr with hr | hr
                    · exact HN.out r hr
                    · rw [List.mem_singleton.1 hr, ← HRe.out.2.1]
                      exact hasB_false (.inl hA)⟩⟩
                | true =>
                  rw [hA] at HC1
                  cases hB : re.2.contains c.f1 with
                  | false =>
                    rw [hB] at HC2
                    go_wp2_with (first | (go_at_call 45; refine (HC1.out _ HIn.out).mono ?_; rintro e w3 ⟨rfl, hb3⟩; have HL2 := Aside0.mk (HL.out.go hb3); have HIn2 := Aside0.mk (Kd.R_below HIn.out hb3); clear HL y0 y1 x2 HC1 HIn hb3; have HL := HL2; have HIn := HIn2; clear HL2 HIn2; obtain ⟨y0, y1⟩ := blk_two HL.out.cb) | (go_at_call 45; refine (HC2.out _ HIn.out).mono ?_; rintro e w3 ⟨rfl, hb3⟩; have HL2 := Aside0.mk (HL.out.go hb3); clear HL y0 y1 HC2 hb3; have HL := HL2; clear HL2))
                    go_roundg gi
                    case measure => omega
                    case rel => exact ⟨i + 1, by first | rfl | (simp; done), by first | rfl | (simp; done), ⟨by have := HG.out; omega⟩, HL, ⟨fun r hr => by
                      rw [List.take_succ_eq_append_getElem hil] at hr
                      rcases List.mem_append.1 hr with hr | hr
                      · exact HN.out r hr
                      · rw [List.mem_singleton.1 hr, ← HRe.out.2.1]
                        exact hasB_false (.inr hB)⟩⟩
                  | true =>
                    rw [hB] at HC2
                    go_wp2_with (first | (go_at_call 45; refine (HC1.out _ HIn.out).mono ?_; rintro e w3 ⟨rfl, hb3⟩; have HL2 := Aside0.mk (HL.out.go hb3); have HIn2 := Aside0.mk (Kd.R_below HIn.out hb3); clear HL y0 y1 x2 HC1 HIn hb3; have HL := HL2; have HIn := HIn2; clear HL2 HIn2; obtain ⟨y0, y1⟩ := blk_two HL.out.cb) | (go_at_call 45; refine (HC2.out _ HIn.out).mono ?_; rintro e w3 ⟨rfl, hb3⟩; have HL2 := Aside0.mk (HL.out.go hb3); have HIn2 := Aside0.mk (Kd.R_below HIn.out hb3); clear HL y0 y1 HC2 HIn hb3; have HL := HL2; have HIn := HIn2; clear HL2 HIn2))
                    have HW := Aside0.mk (FW.new HL.out)
                    clear HL HIn
                    obtain ⟨M2, hM2⟩ : ∃ M2, M2 = re.2.length := ⟨_, rfl⟩
                    go_loopg [12, 13, 60] M2 (fun gg v12 v13 v60 W => ∃ (q2 : Nat), v60 = .int .i64 q2 ∧ Aside0 (q2 + gg = M2) ∧ Aside0 (FW w W H c (.slice (some ad2) rs.length cr) rs v12 v13 (M.cutIn c (re.2.take q2)) (M.cutOut c (re.2.take q2))))
                    case atStart => exact ⟨0, by first | rfl | (simp; done), ⟨by omega⟩, HW⟩
                    case round =>
                      clear HW
                      obtain ⟨q2, rfl, HG3, HW⟩ := hrel
                      have hM3 : (M2 : Int) = (re.2.length : Int) := by omega
                      by_cases hq2 : q2 < M2
                      · have hql : q2 < re.2.length := by omega
                        have e5 : decide ((q2 : Int) < (re.2.length : Int)) = true := decide_eq_true (by omega)
                        have e6 : IntKind.i64.wrap ((q2 : Int) + 1) = ((q2 + 1 : Nat) : Int) := by
                          rw [i64_w]
                          have := HRl.out
                          exact M.w64 (by omega) (by omega)
                        obtain ⟨g3, rfl⟩ : ∃ g3, gk = g3 + 1 := ⟨gk - 1, by have := HG3.out; omega⟩
                        have hin := HW.out.l.rg.inn re HRe.out.2.2
                        rw [HRe.out.1] at hin
                        obtain ⟨ad3, ea3, x3⟩ := Kd.at_int (Kd.R_reads' hin).2.2 (q2 : Int) (by omega) (by omega)
                        rw [M.rd_int re.2 q2 hql, Int.toNat_natCast] at x3
                        obtain ⟨x, hx⟩ : ∃ x, x = re.2[q2] := ⟨_, rfl⟩
                        rw [← hx] at x3
                        have HX := Aside0.mk hx
                        clear hx hin
                        cases ea3
                        obtain ⟨y0, y1⟩ := blk_two HW.out.l.cb
                        have HLq := Aside0.mk (show (M.cutIn c (re.2.take q2)).length ≤ 1000 ∧ (M.cutOut c (re.2.take q2)).length ≤ 1000 from by
                          have h1 := cutIn_len (c := c) (re.2.take q2)
                          have h2 := cutOut_len (c := c) (re.2.take q2)
                          rw [List.length_take] at h1 h2
                          have := HRl.out
                          omega)
                        have HCI := Aside0.mk (cutIn_succ (c := c) re.2 q2 hql)
                        have HCO := Aside0.mk (cutOut_succ (c := c) re.2 q2 hql)
                        by_cases hci : c.f0 ≤ x ∧ x ≤ c.f1
                        · have e7 : decide (c.f0 ≤ x ∧ x ≤ c.f1) = true := decide_eq_true hci
                          rcases out_cases c x with ⟨e8, ho⟩ | ⟨e8, e9, ho⟩ | ⟨e8, e9, ho⟩
                          all_goals
                            have HOo := Aside0.mk ho
                            clear ho
                            go_wp2_with (first | (go_at_call 37; refine (calls_drawn (in_calls x c.f0 c.f1 _)).mono ?_; rintro e w4 ⟨rfl, hb4⟩; have HW2 := Aside0.mk (HW.out.go hb4); clear HW hb4 y0 y1 x3; have HW := HW2; clear HW2; obtain ⟨y0, y1⟩ := blk_two HW.out.l.cb) | ((with_reducible refine gate_builtin (b := .append) (xs := #[.tmp 70, .tmp 72]) rfl ?_); at_builtin; refine Kd.R_append KI (w0 := w) w.heap.size rfl (.tmp 70) (.tmp 72) 24 3 (.int .i64 0) 8 rfl Try.underlying24 info3 rfl (by decide) (by omega) _ (M.cutIn c (re.2.take q2)) x [.int .i64 x] (fun k => H < k ∧ some k ≠ u13.ownBlock) (fun _ => False) rfl rfl ?aP (fun _ hk => hk.elim) ?aF ?aO ?aB ?aS ?aL ?_; (case aP => exact rfl); (case aO => exact HW.out.i); (case aF => exact HW.out.freshI); (case aB => exact HW.out.l.bl); (case aS => exact HW.out.l.bl.size); (case aL => have := HLq.out.1; omega); intro v9 w9 ho hb hg hat; have HW2 := Aside0.mk (HW.out.appI ho hb hg hat); clear HW ho hb hg hat y0 y1; have HW := HW2; clear HW2; obtain ⟨y0, y1⟩ := blk_two HW.out.l.cb) | ((with_reducible refine gate_builtin (b := .append) (xs := #[.tmp 84, .tmp 86]) rfl ?_); at_builtin; refine Kd.R_append KI (w0 := w) w.heap.size rfl (.tmp 84) (.tmp 86) 24 3 (.int .i64 0) 8 rfl Try.underlying24 info3 rfl (by decide) (by omega) _ (M.cutOut c (re.2.take q2)) x [.int .i64 x] (fun k => H < k ∧ some k ≠ v9.ownBlock) (fun _ => False) rfl rfl ?aP (fun _ hk => hk.elim) ?aF ?aO ?aB ?aS ?aL ?_; (case aP => exact rfl); (case aO => exact HW.out.o); (case aF => exact HW.out.freshO); (case aB => exact HW.out.l.bl); (case aS => exact HW.out.l.bl.size); (case aL => have := HLq.out.2; omega); intro v10 w10 ho hb hg hat; have HW2 := Aside0.mk (HW.out.appO ho hb hg hat); clear HW ho hb hg hat y0 y1; have HW := HW2; clear HW2))
                            go_roundg g3
                            case measure => omega
                            case rel => exact ⟨q2 + 1, by first | rfl | (simp; done), ⟨by have := HG3.out; omega⟩, ⟨by
                              have a1 := HCI.out
                              have a2 := HCO.out
                              rw [← HX.out] at a1 a2
                              rw [if_pos hci] at a1
                              first | rw [if_pos HOo.out] at a2 | rw [if_neg HOo.out, List.append_nil] at a2
                              rw [a1, a2]
                              exact HW.out⟩⟩
                        · have e7 : decide (c.f0 ≤ x ∧ x ≤ c.f1) = false := decide_eq_false hci
                          rcases out_cases c x with ⟨e8, ho⟩ | ⟨e8, e9, ho⟩ | ⟨e8, e9, ho⟩
                          all_goals
                            have HOo := Aside0.mk ho
                            clear ho
                            go_wp2_with (first | (go_at_call 37; refine (calls_drawn (in_calls x c.f0 c.f1 _)).mono ?_; rintro e w4 ⟨rfl, hb4⟩; have HW2 := Aside0.mk (HW.out.go hb4); clear HW hb4 y0 y1 x3; have HW := HW2; clear HW2; obtain ⟨y0, y1⟩ := blk_two HW.out.l.cb) | ((with_reducible refine gate_builtin (b := .append) (xs := #[.tmp 84, .tmp 86]) rfl ?_); at_builtin; refine Kd.R_append KI (w0 := w) w.heap.size rfl (.tmp 84) (.tmp 86) 24 3 (.int .i64 0) 8 rfl Try.underlying24 info3 rfl (by decide) (by omega) _ (M.cutOut c (re.2.take q2)) x [.int .i64 x] (fun k => H < k ∧ some k ≠ u12.ownBlock) (fun _ => False) rfl rfl ?aP (fun _ hk => hk.elim) ?aF ?aO ?aB ?aS ?aL ?_; (case aP => exact rfl); (case aO => exact HW.out.o); (case aF => exact HW.out.freshO); (case aB => exact HW.out.l.bl); (case aS => exact HW.out.l.bl.size); (case aL => have := HLq.out.2; omega); intro v10 w10 ho hb hg hat; have HW2 := Aside0.mk (HW.out.appO ho hb hg hat); clear HW ho hb hg hat y0 y1; have HW := HW2; clear HW2))
                            go_roundg g3
                            case measure => omega
                            case rel => exact ⟨q2 + 1, by first | rfl | (simp; done), ⟨by have := HG3.out; omega⟩, ⟨by
                              have a1 := HCI.out
                              have a2 := HCO.out
                              rw [← HX.out] at a1 a2
                              rw [if_neg hci, List.append_nil] at a1
                              first | rw [if_pos HOo.out] at a2 | rw [if_neg HOo.out, List.append_nil] at a2
                              rw [a1, a2]
                              exact HW.out⟩⟩
                      · have hqe : q2 = re.2.length := by have := HG3.out; omega
                        have e5 : decide ((q2 : Int) < (re.2.length : Int)) = false := decide_eq_false (by omega)
                        have hW := HW.out
                        rw [hqe, List.take_length] at hW
                        clear HW
                        have HW := Aside0.mk hW
                        clear hW
                        have HG0 := Aside0.mk (GW.of HW.out)
                        clear HW
                        obtain ⟨Ai, ci, evi⟩ := Kd.R_slice HG0.out.i
                        obtain ⟨Ao, co, evo⟩ := Kd.R_slice HG0.out.o
                        subst evi evo
                        have e11 : IntKind.i64.wrap ((i : Int) + 1) = ((i + 1 : Nat) : Int) := e4
                        have e12 : i ≤ cr := by omega
                        have e13 : i + 1 ≤ rs.length := by omega
                        have HCap := Aside0.mk hcap
                        have HLi := Aside0.mk (show (M.cutIn c re.2).length ≤ 1000 ∧ (M.cutOut c re.2).length ≤ 1000 from by
                          have h1 := cutIn_len (c := c) re.2
                          have h2 := cutOut_len (c := c) re.2
                          have := HRl.out
                          omega)
                        go_upto_region 24 with (first | ((with_reducible refine gate_builtin (b := .append) (xs := #[.tmp 89, .tmp 92]) rfl ?_); at_builtin; refine Kd.R_append_rows KV (w0 := w) w.heap.size rfl (.tmp 89) (.tmp 92) 37 24 (.slice none 0 0) 24 rfl Try.underlying37 info24 rfl (by decide) (by omega) (.slice (some ⟨wr.heap.size, 0, none⟩) 0 0) [] ((vsOf rs).take i) (some ad2) i cr (fun k => wr.heap.size ≤ k) (fun _ => False) rfl rfl ?bO ?bR (fun _ _ h => h) (fun _ h => h.elim) ?bF ?bB ?bS ?bL ?_; (case bO => exact Kd.R_mono (raw_lit HG0.out.bl.size [] (by simp) (by simp)) (fun k hk => Nat.le_of_eq hk.symm)); (case bR => exact take_reads (Kd.R_reads' (Kd.R_alloc HG0.out.rg.out _)).2.2 (Nat.le_of_lt hil)); (case bF => exact (fun k hk => by rw [size_alloc1] at hk; omega)); (case bB => exact below_alloc HG0.out.bl _); (case bS => exact Nat.le_trans HG0.out.bl.size (by rw [size_alloc1]; omega)); (case bL => have := HLn.out.1; simp only [List.length_nil]; omega); intro v11 w11 ho hb hg hat; have HG1 := Aside0.mk ((HG0.out.go (below_alloc (Below.refl _ _) _)).grown hg (fun k hk => by have hk : some wr.heap.size = some k := hk; injection hk with hk; omega) hb); have HO1 := Aside0.mk ho; clear HG0 ho hb hg hat) | ((with_reducible refine gate_builtin (b := .append) (xs := #[.tmp 93, .tmp 96]) rfl ?_); at_builtin; refine Kd.R_append_rows KV (w0 := w) w.heap.size rfl (.tmp 93) (.tmp 96) 37 24 (.slice none 0 0) 24 rfl Try.underlying37 info24 rfl (by decide) (by omega) v11 ([] ++ (vsOf rs).take i) [[.slice Ai (M.cutIn c re.2).length ci], [.slice Ao (M.cutOut c re.2).length co]] (some ⟨w11.heap.size, 0, none⟩) 2 2 (fun k => wr.heap.size ≤ k) (fun _ => False) rfl rfl ?cO ?cR (fun _ _ h => h) (fun _ h => h.elim) ?cF ?cB ?cS ?cL ?_; (case cO => exact Kd.R_alloc HO1.out _); (case cR => exact (Kd.R_reads' (raw_lit (w := w) HG1.out.bl.size [.slice Ai (M.cutIn c re.2).length ci, .slice Ao (M.cutOut c re.2).length co] (by intro u hu; simp only [List.mem_cons, List.not_mem_nil, or_false] at hu; rcases hu with rfl | rfl <;> rfl) (by simp))).2.2); (case cF => exact (fun k hk => by rw [size_alloc1] at hk; have := HG1.out.hn.2; omega)); (case cB => exact below_alloc HG1.out.bl _); (case cS => exact Nat.le_trans HG1.out.bl.size (by rw [size_alloc1]; omega)); (case cL => have := HLn.out.1; simp only [List.nil_append, List.length_take, vsOf_length]; omega); intro v12 w12 ho hb hg hat; have HG2 := Aside0.mk ((HG1.out.go (below_alloc (Below.refl _ _) _)).grown hg (fun k hk => HO1.out.1 k hk) hb); have HO2 := Aside0.mk ho; clear HG1 HO1 ho hb hg hat))
                        by_cases hcc : cr = i + 1
                        · go_wp2_with ((with_reducible refine gate_builtin (b := .append) (xs := #[.tmp 98, .tmp 102]) rfl ?_); at_builtin; refine Kd.R_append_rows KV (w0 := w) w.heap.size rfl (.tmp 98) (.tmp 102) 37 24 (.slice none 0 0) 24 rfl Try.underlying37 info24 rfl (by decide) (by omega) v12 (([] ++ (vsOf rs).take i) ++ [[.slice Ai (M.cutIn c re.2).length ci], [.slice Ao (M.cutOut c re.2).length co]]) ((vsOf rs).drop (i + 1)) _ (rs.length - (i + 1)) _ (fun k => wr.heap.size ≤ k) (fun _ => False) rfl rfl ?dO1 ?dR1 (fun _ _ h => h) (fun _ h => h.elim) ?dF1 ?dB1 ?dS1 ?dL1 ?_; (case dO1 => exact HO2.out); (case dR1 => have e := drop_reads (Kd.R_reads' HG2.out.rg.out).2.2 e13 HCap.out; first | (rw [if_pos hcc] at e; exact e) | (rw [if_neg hcc] at e; exact e)); (case dF1 => exact (fun k hk => by have := HG2.out.hn.2; omega)); (case dB1 => exact HG2.out.bl); (case dS1 => exact HG2.out.bl.size); (case dL1 => have := HLn.out.1; simp only [List.nil_append, List.length_append, List.length_take, vsOf_length, List.length_cons, List.length_nil]; omega); intro v13 w13 ho hb hg hat; have HG3 := Aside0.mk (HG2.out.grown hg (fun k hk => HO2.out.1 k hk) hb); have HO3 := Aside0.mk ho; clear HG2 HO2 ho hb hg hat)
                          go_meet
                          case rel =>
                            refine ⟨rs.take i ++ (.slice Ai (M.cutIn c re.2).length ci, M.cutIn c re.2) :: (.slice Ao (M.cutOut c re.2).length co, M.cutOut c re.2) :: rs.drop (i + 1), ⟨HG3.out.bl⟩, ⟨⟨?_, fun r hr => ?_⟩⟩, ⟨dist_split HD.out HG3.out.ne.1 HG3.out.ne.2⟩, ⟨by rw [split_len rs i hil]; have := HLn.out.1; omega, fun r hr => ?_⟩, ⟨?_⟩⟩
                            · rw [split_vs]
                              exact Kd.R_mono HO3.out (fun _ _ => trivial)
                            · rcases split_mem hr with hr | rfl | rfl
                              · exact Kd.R_mono (HG3.out.rg.inn r hr) (fun _ _ => trivial)
                              · exact Kd.R_mono HG3.out.i (fun _ _ => trivial)
                              · exact Kd.R_mono HG3.out.o (fun _ _ => trivial)
                            · rcases split_mem hr with hr | rfl | rfl
                              · exact HLn.out.2 r hr
                              · exact HLi.out.1
                              · exact HLi.out.2
                            · have e : rs.map (·.2) = (rs.take i).map (·.2) ++ re.2 :: (rs.drop (i + 1)).map (·.2) := by
                                conv => lhs; rw [← List.take_append_drop i rs, List.drop_eq_getElem_cons hil, ← HRe.out.2.1]
                                rw [List.map_append, List.map_cons]
                              rw [e, stepR_at _ _ _ (fun x hx => by
                                obtain ⟨r, hr, rfl⟩ := List.mem_map.1 hx
                                exact HN.out r hr) (hasB_true hA hB), List.map_append, List.map_cons, List.map_cons]
                        · go_wp2_with ((with_reducible refine gate_builtin (b := .append) (xs := #[.tmp 98, .tmp 102]) rfl ?_); at_builtin; refine Kd.R_append_rows KV (w0 := w) w.heap.size rfl (.tmp 98) (.tmp 102) 37 24 (.slice none 0 0) 24 rfl Try.underlying37 info24 rfl (by decide) (by omega) v12 (([] ++ (vsOf rs).take i) ++ [[.slice Ai (M.cutIn c re.2).length ci], [.slice Ao (M.cutOut c re.2).length co]]) ((vsOf rs).drop (i + 1)) _ (rs.length - (i + 1)) _ (fun k => wr.heap.size ≤ k) (fun _ => False) rfl rfl ?dO2 ?dR2 (fun _ _ h => h) (fun _ h => h.elim) ?dF2 ?dB2 ?dS2 ?dL2 ?_; (case dO2 => exact HO2.out); (case dR2 => have e := drop_reads (Kd.R_reads' HG2.out.rg.out).2.2 e13 HCap.out; first | (rw [if_pos hcc] at e; exact e) | (rw [if_neg hcc] at e; exact e)); (case dF2 => exact (fun k hk => by have := HG2.out.hn.2; omega)); (case dB2 => exact HG2.out.bl); (case dS2 => exact HG2.out.bl.size); (case dL2 => have := HLn.out.1; simp only [List.nil_append, List.length_append, List.length_take, vsOf_length, List.length_cons, List.length_nil]; omega); intro v13 w13 ho hb hg hat; have HG3 := Aside0.mk (HG2.out.grown hg (fun k hk => HO2.out.1 k hk) hb); have HO3 := Aside0.mk ho; clear HG2 HO2 ho hb hg hat)
                          go_meet
                          case rel =>
                            refine ⟨rs.take i ++ (.slice Ai (M.cutIn c re.2).length ci, M.cutIn c re.2) :: (.slice Ao (M.cutOut c re.2).length co, M.cutOut c re.2) :: rs.drop (i + 1), ⟨HG3.out.bl⟩, ⟨⟨?_, fun r hr => ?_⟩⟩, ⟨dist_split HD.out HG3.out.ne.1 HG3.out.ne.2⟩, ⟨by rw [split_len rs i hil]; have := HLn.out.1; omega, fun r hr => ?_⟩, ⟨?_⟩⟩
                            · rw [split_vs]
                              exact Kd.R_mono HO3.out (fun _ _ => trivial)
                            · rcases split_mem hr with hr | rfl | rfl
                              · exact Kd.R_mono (HG3.out.rg.inn r hr) (fun _ _ => trivial)
                              · exact Kd.R_mono HG3.out.i (fun _ _ => trivial)
                              · exact Kd.R_mono HG3.out.o (fun _ _ => trivial)
                            · rcases split_mem hr with hr | rfl | rfl
                              · exact HLn.out.2 r hr
                              · exact HLi.out.1
                              · exact HLi.out.2
                            · have e : rs.map (·.2) = (rs.take i).map (·.2) ++ re.2 :: (rs.drop (i + 1)).map (·.2) := by
                                conv => lhs; rw [← List.take_append_drop i rs, List.drop_eq_getElem_cons hil, ← HRe.out.2.1]
                                rw [List.map_append, List.map_cons]
                              rw [e, stepR_at _ _ _ (fun x hx => by
                                obtain ⟨r, hr, rfl⟩ := List.mem_map.1 hx
                                exact HN.out r hr) (hasB_true hA hB), List.map_append, List.map_cons, List.map_cons]
              · have hie : i = rs.length := by have := HG.out; omega
                have e3 : decide ((i : Int) < (rs.length : Int)) = false := decide_eq_false (by omega)
                go_wp2_with fail
                go_meet
                case rel => exact ⟨rs, ⟨HL.out.bl⟩, ⟨HL.out.rg.mono (fun _ _ => trivial)⟩, HD, ⟨by have := HLn.out.1; omega, HLn.out.2⟩, ⟨(stepR_none _ (fun r hr => by
                  obtain ⟨x, hx, rfl⟩ := List.mem_map.1 hr
                  exact HN.out x (by rw [hie, List.take_length]; exact hx))).symm⟩⟩
          case rest =>
            obtain ⟨rs', K1, K2, K3, K4, K5⟩ := hcut
            clear HL HB HR HC
            go_wp2_with fail
            go_roundg gm
            case measure => omega
            case rel => exact ⟨j + 1, rs', by first | rfl | (simp; done), ⟨by have := HG.out; omega⟩, K1, K2, K3, K4, ⟨by rw [K5.out]; exact HF2.out⟩⟩
        · have hjN : j = l1.length := by have := HG.out; omega
          have hF := HF.out
          rw [hjN, List.drop_length, M.foldR] at hF
          have HF2 := Aside0.mk hF
          clear hF HF
          have e1 : decide ((j : Int) < (l1.length : Int)) = false := decide_eq_false (by omega)
          have hrl : rs.length ≤ 1001 := by have := HLn.out.1; omega
          have e1' : decide (j < l1.length) = false := decide_eq_false (by omega)
          clear hjN hj
          obtain ⟨Ar, cr, ev, hcap, hC⟩ := HR.out.slice
          subst ev
          clear hC
          go_wp2_with fail
          clear e1 e1'
          obtain ⟨M0, hM0⟩ : ∃ M0, M0 = rs.length := ⟨_, rfl⟩
          go_loopg [17, 108] M0 (fun gg v17 v108 W => ∃ (i : Nat) (os : RL), v108 = .int .i64 i ∧ Aside0 (i + gg = M0) ∧ Aside0 (Below w.heap.size w W) ∧ Aside0 (Regs w W (fun _ => True) (.slice Ar rs.length cr) rs) ∧ Aside0 (KV.R 24 W w.heap.size (fun _ => True) v17 (vsOf os)) ∧ Aside0 (os.Perm (rs.take i)) ∧ Aside0 (os.map (·.2) = ((rs.take i).map (·.2)).foldl (insB M.lexB) []) ∧ Aside0 (os = [] → v17 = .slice none 0 0))
          case atStart => exact ⟨0, [], by first | rfl | (simp; done), ⟨by omega⟩, HB, HR, ⟨Kd.R_nil _ _ _ _ _⟩, ⟨List.Perm.refl _⟩, ⟨rfl⟩, ⟨fun _ => rfl⟩⟩
          case round =>
            clear HB HR
            obtain ⟨i, os, rfl, HGi, HB, HR, HO2, HPm, HMp, HNl⟩ := hrel
            have hM1 : (M0 : Int) = (rs.length : Int) := by omega
            by_cases hi : i < M0
            · have hil : i < rs.length := by omega
              have e3 : decide ((i : Int) < (rs.length : Int)) = true := decide_eq_true (by omega)
              have e4 : IntKind.i64.wrap ((i : Int) + 1) = ((i + 1 : Nat) : Int) := by
                rw [i64_w]
                exact M.w64 (by omega) (by omega)
              obtain ⟨gi, rfl⟩ : ∃ gi, gk = gi + 1 := ⟨gk - 1, by have := HGi.out; omega⟩
              obtain ⟨re, hre⟩ : ∃ re, re = rs[i] := ⟨_, rfl⟩
              have hmem : re ∈ rs := by rw [hre]; exact List.getElem_mem hil
              obtain ⟨ad2, ea2, x2⟩ := at_raw (Kd.R_reads' HR.out.out).2.2 i hil
              rw [← hre] at x2
              obtain ⟨Ae, ce, ev2⟩ := Kd.R_slice (HR.out.inn re hmem)
              rw [ev2] at x2
              have HRe := Aside0.mk (show re.1 = .slice Ae re.2.length ce ∧ re = rs[i] ∧ re ∈ rs from ⟨ev2, hre, hmem⟩)
              have HRl := Aside0.mk (HLn.out.2 re hmem)
              clear hre hmem ev2
              cases ea2
              obtain ⟨N2, hN2⟩ : ∃ N2, N2 = wr.heap.size := ⟨_, rfl⟩
              have hbw := BW.now HB.out HR.out HO2.out
              rw [← hN2] at hbw
              have HBW := Aside0.mk hbw
              have hosl : os.length = i := by rw [HPm.out.length_eq, List.length_take]; omega
              have HLo := Aside0.mk (show os.length ≤ 1001 by omega)
              have HOl := Aside0.mk hosl
              clear hbw HB HR HO2 hN2 hosl
              obtain ⟨Ao, co, evo, hoc⟩ : ∃ Ao co, u17 = .slice Ao os.length co ∧ os.length ≤ co := by
                obtain ⟨A, c', e, hl, _⟩ := Kd.R_reads HBW.out.og
                rw [vsOf_length] at e hl
                exact ⟨A, c', e, hl⟩
              subst evo
              have HOc := Aside0.mk hoc
              clear hoc
              go_upto_block 10 with fail
              go_cut [20] from 1 to 0 (fun v20 wc => v20 = .int .i64 ((backK M.lexB re.2 (os.map (·.2)) os.length : Nat) : Int) ∧ Aside0 (BW w wc N2 (.slice (some ad2) rs.length cr) rs (.slice Ao os.length co) os))
              case first =>
                clear x2
                go_wp2_with fail
                obtain ⟨L0, hL0⟩ : ∃ L0, L0 = os.length := ⟨_, rfl⟩
                go_loopg [20] L0 (fun gg v20 W => ∃ (k : Nat), v20 = .int .i64 k ∧ Aside0 (k = gg ∧ k ≤ os.length) ∧ Aside0 (BW w W N2 (.slice (some ad2) rs.length cr) rs (.slice Ao os.length co) os) ∧ Aside0 (backK M.lexB re.2 (os.map (·.2)) k = backK M.lexB re.2 (os.map (·.2)) os.length))
                case atStart => exact ⟨os.length, by first | rfl | (simp; done), ⟨by omega⟩, HBW, ⟨rfl⟩⟩
                case round =>
                  clear HBW
                  obtain ⟨k, rfl, HK, HBW, HQ⟩ := hrel
                  by_cases hk0 : k = 0
                  · have e6 : decide (0 < (k : Int)) = false := decide_eq_false (by omega)
                    have E7 := Aside0.mk (show (k : Int) = ((backK M.lexB re.2 (os.map (·.2)) os.length : Nat) : Int) by
                      rw [← HQ.out, hk0]; rfl)
                    have e9 : decide (0 < k) = false := decide_eq_false (by omega)
                    clear hk0
                    go_wp2_with fail
                    go_meet
                    case rel => exact ⟨by rw [E7.out], HBW⟩
                  · obtain ⟨k', hk'⟩ : ∃ k', k = k' + 1 := ⟨k - 1, by omega⟩
                    have hkl : k' < os.length := by have := HK.out; omega
                    have e6 : decide (0 < (k : Int)) = true := decide_eq_true (by omega)
                    have e7 : IntKind.i64.wrap ((k : Int) - 1) = (k' : Int) := by
                      rw [i64_w, M.w64 (by omega) (by have := HLo.out; omega)]
                      omega
                    obtain ⟨gj, rfl⟩ : ∃ gj, gk = gj + 1 := ⟨gk - 1, by have := HK.out; omega⟩
                    obtain ⟨oe, hoe⟩ : ∃ oe, oe = os[k'] := ⟨_, rfl⟩
                    have hom : oe ∈ rs := List.mem_of_mem_take (HPm.out.mem_iff.1 (by rw [hoe]; exact List.getElem_mem hkl))
                    obtain ⟨ad5, ea5, x5⟩ := at_raw (Kd.R_reads' HBW.out.og).2.2 k' hkl
                    rw [← hoe] at x5
                    obtain ⟨Aq, cq, evq⟩ := Kd.R_slice (HBW.out.rg.inn oe hom)
                    rw [evq] at x5
                    have hq1 := HBW.out.rg.inn oe hom
                    rw [evq] at hq1
                    have hq2 := HBW.out.rg.inn re HRe.out.2.2
                    rw [HRe.out.1] at hq2
                    have HC := Aside0.mk (calls_drawn (less_calls Ae ce re.2 Aq cq oe.2 wr (Kd.R_reads' hq2).2.2 (Kd.R_reads' hq2).2.1 (Kd.R_reads' hq1).2.2 (Kd.R_reads' hq1).2.1 (by have := HRl.out; omega)))
                    have HQ2 := Aside0.mk (show backK M.lexB re.2 (os.map (·.2)) k = if M.lexB re.2 oe.2 = true then backK M.lexB re.2 (os.map (·.2)) k' else k by
                      rw [hk', backK, List.getD_eq_getElem?_getD, List.getElem?_map, List.getElem?_eq_getElem hkl, ← hoe]
                      rfl)
                    have HKe := Aside0.mk hk'
                    cases ea5
                    clear hoe evq hq1 hq2 hk'
                    cases hlt : M.lexB re.2 oe.2 with
                    | true =>
                      rw [hlt] at HC
                      go_wp2_with (go_at_call 60; refine HC.out.mono ?_; rintro e w15 ⟨rfl, hb15⟩; have HBW2 := Aside0.mk (HBW.out.go hb15); clear HBW HC hb15 x5; have HBW := HBW2; clear HBW2)
                      go_roundg gj
                      case measure => omega
                      case rel => exact ⟨k', by first | rfl | (simp; done), ⟨by have := HK.out; have := HKe.out; omega⟩, HBW, ⟨by rw [← HQ.out, HQ2.out, if_pos hlt]⟩⟩
                    | false =>
                      rw [hlt] at HC
                      have E8 := Aside0.mk (show (k : Int) = ((backK M.lexB re.2 (os.map (·.2)) os.length : Nat) : Int) by
                        rw [← HQ.out, HQ2.out, if_neg (by rw [hlt]; decide)])
                      go_wp2_with (go_at_call 60; refine HC.out.mono ?_; rintro e w15 ⟨rfl, hb15⟩; have HBW2 := Aside0.mk (HBW.out.go hb15); clear HBW HC hb15 x5; have HBW := HBW2; clear HBW2)
                      go_meet
                      case rel => exact ⟨by rw [E8.out], HBW⟩
              case rest =>
                obtain ⟨rfl, HBW2⟩ := hcut
                clear HBW x2
                have HBW := HBW2
                clear HBW2
                obtain ⟨K0, hK⟩ : ∃ K0, K0 = backK M.lexB re.2 (os.map (·.2)) os.length := ⟨_, rfl⟩
                rw [← hK]
                have HKd := Aside0.mk hK
                have HK0 := Aside0.mk (show K0 ≤ os.length by rw [hK]; exact backK_le _ _ _ _)
                clear hK
                have hk1 : K0 ≤ co := by have := HK0.out; have := HOc.out; omega
                have hk2 : K0 ≤ os.length := HK0.out
                rcases (show (os = [] ∧ Ao = none ∧ co = 0) ∨ ∃ ad5, Ao = some ad5 by
                  by_cases h0 : os = []
                  · have e := HNl.out h0
                    injection e with q1 q2 q3
                    exact .inl ⟨h0, q1, q3⟩
                  · right
                    obtain ⟨ad5, e5, _⟩ := at_raw (Kd.R_reads' HBW.out.og).2.2 0 (List.length_pos_iff.2 h0)
                    exact ⟨ad5, e5⟩) with ⟨rfl, rfl, rfl⟩ | ⟨ad5, rfl⟩
                · obtain rfl : K0 = 0 := by simpa using hk2
                  have hcc : (0 : Nat) = 0 := rfl
                  go_upto_region 35 with (first | ((with_reducible refine gate_builtin (b := .append) (xs := #[.tmp 127, .tmp 130]) rfl ?_); at_builtin; refine Kd.R_append_rows KV (w0 := w) w.heap.size rfl (.tmp 127) (.tmp 130) 37 24 (.slice none 0 0) 24 rfl Try.underlying37 info24 rfl (by decide) (by omega) (.slice (some ⟨wc.heap.size, 0, none⟩) 0 0) [] ((vsOf []).take 0) none 0 0 (fun k => N2 ≤ k) (fun _ => False) rfl rfl ?pOn ?pRn (fun _ _ h => h) (fun _ h => h.elim) ?pFn ?pBn ?pSn ?pLn ?_; (case pOn => exact Kd.R_mono (raw_lit HBW.out.bl.size [] (by simp) (by simp)) (fun k hk => by have := HBW.out.hn.2; omega)); (case pRn => exact take_reads (Kd.R_reads' (Kd.R_alloc HBW.out.og _)).2.2 HK0.out); (case pFn => exact (fun k hk => by rw [size_alloc1] at hk; have := HBW.out.hn.2; omega)); (case pBn => exact below_alloc HBW.out.bl _); (case pSn => exact Nat.le_trans HBW.out.bl.size (by rw [size_alloc1]; omega)); (case pLn => have := HLo.out; have := HK0.out; simp only [List.length_nil]; omega); intro v21 w21 ho hb hg hat; have HB1 := Aside0.mk ((HBW.out.go (below_alloc (Below.refl _ _) _)).grown hg (fun k hk => by have hk : some wc.heap.size = some k := hk; injection hk with hk; have := HBW.out.hn.2; omega) hb); have HP1 := Aside0.mk ho; clear HBW ho hb hg hat) | ((with_reducible refine gate_builtin (b := .append) (xs := #[.tmp 131, .tmp 133]) rfl ?_); at_builtin; refine Kd.R_append_rows KV (w0 := w) w.heap.size rfl (.tmp 131) (.tmp 133) 37 24 (.slice none 0 0) 24 rfl Try.underlying37 info24 rfl (by decide) (by omega) v21 ([] ++ (vsOf []).take 0) [[.slice Ae re.2.length ce]] (some ⟨w21.heap.size, 0, none⟩) 1 1 (fun k => N2 ≤ k) (fun _ => False) rfl rfl ?qOn ?qRn (fun _ _ h => h) (fun _ h => h.elim) ?qFn ?qBn ?qSn ?qLn ?_; (case qOn => exact Kd.R_alloc HP1.out _); (case qRn => exact (Kd.R_reads' (raw_lit (w := w) HB1.out.bl.size [.slice Ae re.2.length ce] (by intro u hu; rw [List.mem_singleton.1 hu]; rfl) (by simp))).2.2); (case qFn => exact (fun k hk => by rw [size_alloc1] at hk; have := HB1.out.hn.2; omega)); (case qBn => exact below_alloc HB1.out.bl _); (case qSn => exact Nat.le_trans HB1.out.bl.size (by rw [size_alloc1]; omega)); (case qLn => have := HLo.out; simp only [List.nil_append, List.length_take, vsOf_length]; omega); intro v22 w22 ho hb hg hat; have HB2 := Aside0.mk ((HB1.out.go (below_alloc (Below.refl _ _) _)).grown hg (fun k hk => HP1.out.1 k hk) hb); have HP2 := Aside0.mk ho; clear HB1 HP1 ho hb hg hat))
                  go_wp2_with ((with_reducible refine gate_builtin (b := .append) (xs := #[.tmp 135, .tmp 138]) rfl ?_); at_builtin; refine Kd.R_append_rows KV (w0 := w) w.heap.size rfl (.tmp 135) (.tmp 138) 37 24 (.slice none 0 0) 24 rfl Try.underlying37 info24 rfl (by decide) (by omega) v22 (([] ++ (vsOf []).take 0) ++ [[.slice Ae re.2.length ce]]) ((vsOf []).drop 0) _ 0 _ (fun k => N2 ≤ k) (fun _ => False) rfl rfl ?sOn ?sRn (fun _ _ h => h) (fun _ h => h.elim) ?sFn ?sBn ?sSn ?sLn ?_; (case sOn => exact HP2.out); (case sRn => have e := drop_reads (Kd.R_reads' HB2.out.og).2.2 HK0.out HOc.out; first | (rw [if_pos hcc] at e; exact e) | (rw [if_neg hcc] at e; exact e)); (case sFn => exact (fun k hk => by have := HB2.out.hn.2; omega)); (case sBn => exact HB2.out.bl); (case sSn => exact HB2.out.bl.size); (case sLn => have := HLo.out; simp only [List.nil_append, List.length_append, List.length_take, vsOf_length, List.length_cons, List.length_nil]; omega); intro v23 w23 ho hb hg hat; have HB3 := Aside0.mk (HB2.out.grown hg (fun k hk => HP2.out.1 k hk) hb); have HP3 := Aside0.mk ho; clear HB2 HP2 ho hb hg hat)
                  go_roundg gi
                  case measure => omega
                  case rel => exact ⟨i + 1, ([] : RL).take 0 ++ re :: ([] : RL).drop 0, by first | rfl | (simp; done), ⟨by have := HGi.out; omega⟩, ⟨HB3.out.bl⟩, ⟨HB3.out.rg.mono (fun _ _ => trivial)⟩, ⟨by rw [vs_ins, HRe.out.1]; exact Kd.R_mono HP3.out (fun _ _ => trivial)⟩, ⟨ins_perm hil HPm.out HRe.out.2.1⟩, ⟨ins_map hil HMp.out HRe.out.2.1 HKd.out⟩, ⟨fun e => absurd e (by simp)⟩⟩
                · have hdum : True := trivial
                  go_upto_region 35 with (first | ((with_reducible refine gate_builtin (b := .append) (xs := #[.tmp 127, .tmp 130]) rfl ?_); at_builtin; refine Kd.R_append_rows KV (w0 := w) w.heap.size rfl (.tmp 127) (.tmp 130) 37 24 (.slice none 0 0) 24 rfl Try.underlying37 info24 rfl (by decide) (by omega) (.slice (some ⟨wc.heap.size, 0, none⟩) 0 0) [] ((vsOf os).take K0) (some ad5) K0 co (fun k => N2 ≤ k) (fun _ => False) rfl rfl ?pOm ?pRm (fun _ _ h => h) (fun _ h => h.elim) ?pFm ?pBm ?pSm ?pLm ?_; (case pOm => exact Kd.R_mono (raw_lit HBW.out.bl.size [] (by simp) (by simp)) (fun k hk => by have := HBW.out.hn.2; omega)); (case pRm => exact take_reads (Kd.R_reads' (Kd.R_alloc HBW.out.og _)).2.2 HK0.out); (case pFm => exact (fun k hk => by rw [size_alloc1] at hk; have := HBW.out.hn.2; omega)); (case pBm => exact below_alloc HBW.out.bl _); (case pSm => exact Nat.le_trans HBW.out.bl.size (by rw [size_alloc1]; omega)); (case pLm => have := HLo.out; have := HK0.out; simp only [List.length_nil]; omega); intro v21 w21 ho hb hg hat; have HB1 := Aside0.mk ((HBW.out.go (below_alloc (Below.refl _ _) _)).grown hg (fun k hk => by have hk : some wc.heap.size = some k := hk; injection hk with hk; have := HBW.out.hn.2; omega) hb); have HP1 := Aside0.mk ho; clear HBW ho hb hg hat) | ((with_reducible refine gate_builtin (b := .append) (xs := #[.tmp 131, .tmp 133]) rfl ?_); at_builtin; refine Kd.R_append_rows KV (w0 := w) w.heap.size rfl (.tmp 131) (.tmp 133) 37 24 (.slice none 0 0) 24 rfl Try.underlying37 info24 rfl (by decide) (by omega) v21 ([] ++ (vsOf os).take K0) [[.slice Ae re.2.length ce]] (some ⟨w21.heap.size, 0, none⟩) 1 1 (fun k => N2 ≤ k) (fun _ => False) rfl rfl ?qOm ?qRm (fun _ _ h => h) (fun _ h => h.elim) ?qFm ?qBm ?qSm ?qLm ?_; (case qOm => exact Kd.R_alloc HP1.out _); (case qRm => exact (Kd.R_reads' (raw_lit (w := w) HB1.out.bl.size [.slice Ae re.2.length ce] (by intro u hu; rw [List.mem_singleton.1 hu]; rfl) (by simp))).2.2); (case qFm => exact (fun k hk => by rw [size_alloc1] at hk; have := HB1.out.hn.2; omega)); (case qBm => exact below_alloc HB1.out.bl _); (case qSm => exact Nat.le_trans HB1.out.bl.size (by rw [size_alloc1]; omega)); (case qLm => have := HLo.out; simp only [List.nil_append, List.length_take, vsOf_length]; omega); intro v22 w22 ho hb hg hat; have HB2 := Aside0.mk ((HB1.out.go (below_alloc (Below.refl _ _) _)).grown hg (fun k hk => HP1.out.1 k hk) hb); have HP2 := Aside0.mk ho; clear HB1 HP1 ho hb hg hat))
                  by_cases hcc : co = K0
                  · go_wp2_with ((with_reducible refine gate_builtin (b := .append) (xs := #[.tmp 135, .tmp 138]) rfl ?_); at_builtin; refine Kd.R_append_rows KV (w0 := w) w.heap.size rfl (.tmp 135) (.tmp 138) 37 24 (.slice none 0 0) 24 rfl Try.underlying37 info24 rfl (by decide) (by omega) v22 (([] ++ (vsOf os).take K0) ++ [[.slice Ae re.2.length ce]]) ((vsOf os).drop K0) _ (os.length - K0) _ (fun k => N2 ≤ k) (fun _ => False) rfl rfl ?sOm1 ?sRm1 (fun _ _ h => h) (fun _ h => h.elim) ?sFm1 ?sBm1 ?sSm1 ?sLm1 ?_; (case sOm1 => exact HP2.out); (case sRm1 => have e := drop_reads (Kd.R_reads' HB2.out.og).2.2 HK0.out HOc.out; first | (rw [if_pos hcc] at e; exact e) | (rw [if_neg hcc] at e; exact e)); (case sFm1 => exact (fun k hk => by have := HB2.out.hn.2; omega)); (case sBm1 => exact HB2.out.bl); (case sSm1 => exact HB2.out.bl.size); (case sLm1 => have := HLo.out; simp only [List.nil_append, List.length_append, List.length_take, vsOf_length, List.length_cons, List.length_nil]; omega); intro v23 w23 ho hb hg hat; have HB3 := Aside0.mk (HB2.out.grown hg (fun k hk => HP2.out.1 k hk) hb); have HP3 := Aside0.mk ho; clear HB2 HP2 ho hb hg hat)
                    go_roundg gi
                    case measure => omega
                    case rel => exact ⟨i + 1, os.take K0 ++ re :: os.drop K0, by first | rfl | (simp; done), ⟨by have := HGi.out; omega⟩, ⟨HB3.out.bl⟩, ⟨HB3.out.rg.mono (fun _ _ => trivial)⟩, ⟨by rw [vs_ins, HRe.out.1]; exact Kd.R_mono HP3.out (fun _ _ => trivial)⟩, ⟨ins_perm hil HPm.out HRe.out.2.1⟩, ⟨ins_map hil HMp.out HRe.out.2.1 HKd.out⟩, ⟨fun e => absurd e (by simp)⟩⟩
                  · go_wp2_with ((with_reducible refine gate_builtin (b := .append) (xs := #[.tmp 135, .tmp 138]) rfl ?_); at_builtin; refine Kd.R_append_rows KV (w0 := w) w.heap.size rfl (.tmp 135) (.tmp 138) 37 24 (.slice none 0 0) 24 rfl Try.underlying37 info24 rfl (by decide) (by omega) v22 (([] ++ (vsOf os).take K0) ++ [[.slice Ae re.2.length ce]]) ((vsOf os).drop K0) _ (os.length - K0) _ (fun k => N2 ≤ k) (fun _ => False) rfl rfl ?sOm2 ?sRm2 (fun _ _ h => h) (fun _ h => h.elim) ?sFm2 ?sBm2 ?sSm2 ?sLm2 ?_; (case sOm2 => exact HP2.out); (case sRm2 => have e := drop_reads (Kd.R_reads' HB2.out.og).2.2 HK0.out HOc.out; first | (rw [if_pos hcc] at e; exact e) | (rw [if_neg hcc] at e; exact e)); (case sFm2 => exact (fun k hk => by have := HB2.out.hn.2; omega)); (case sBm2 => exact HB2.out.bl); (case sSm2 => exact HB2.out.bl.size); (case sLm2 => have := HLo.out; simp only [List.nil_append, List.length_append, List.length_take, vsOf_length, List.length_cons, List.length_nil]; omega); intro v23 w23 ho hb hg hat; have HB3 := Aside0.mk (HB2.out.grown hg (fun k hk => HP2.out.1 k hk) hb); have HP3 := Aside0.mk ho; clear HB2 HP2 ho hb hg hat)
                    go_roundg gi
                    case measure => omega
                    case rel => exact ⟨i + 1, os.take K0 ++ re :: os.drop K0, by first | rfl | (simp; done), ⟨by have := HGi.out; omega⟩, ⟨HB3.out.bl⟩, ⟨HB3.out.rg.mono (fun _ _ => trivial)⟩, ⟨by rw [vs_ins, HRe.out.1]; exact Kd.R_mono HP3.out (fun _ _ => trivial)⟩, ⟨ins_perm hil HPm.out HRe.out.2.1⟩, ⟨ins_map hil HMp.out HRe.out.2.1 HKd.out⟩, ⟨fun e => absurd e (by simp)⟩⟩
            · have hie : i = rs.length := by have := HGi.out; omega
              have e3 : decide ((i : Int) < (rs.length : Int)) = false := decide_eq_false (by omega)
              have hdum : True := trivial
              have hPm := HPm.out
              have hMp := HMp.out
              rw [hie, List.take_length] at hPm hMp
              have HS := Aside0.mk (Regs.S (⟨HO2.out, fun r hr => HR.out.inn r (hPm.mem_iff.1 hr)⟩ : Regs w wr (fun _ => True) u17 os) (dist_perm hPm.symm HD.out))
              rw [hMp, HF2.out] at HS
              clear hPm hMp hie
              go_wp2_with fail
              go_ret
              exact ⟨_, by first | rfl | (simp; done), HS.out, HB.out⟩
end Go.Proofs.Ytdeenfpcmaadcaa.Pr

/- What is asked of a predicate that is handed to the library, and the place of the first element for which it holds. -/
namespace Go.Proofs.Ytdeenfpcmaadcaa.Pr
open Go.RowKit Go.Proofs.YtdeenfpcmaadcaaW.PrintWords Go.Proofs.YtdeenfpcmaadcaaW.PrintLast Go.Proofs.YtdeenfpcmaadcaaW.PrintMore
set_option linter.unusedVariables false
set_option linter.unusedSimpArgs false

/-- A function value that tells p of the elements of a list, in any world in which what was there is as it was. -/
def PredB {α : Type} (g : Nat) (lb : Array Value) (enc : α → Value) (p : α → Bool) (zs : List α) (w : World) : Prop :=
  ∀ (W : World) (x : α), x ∈ zs → Below w.heap.size w W → Calls Try.prog g (#[enc x] ++ lb) W fun e w' => e = .returned (.bool (p x)) ∧ Below W.heap.size W w'
/-- The place of the first element for which p holds, or -1. -/
def idxP {α : Type} (p : α → Bool) : List α → Int
  | [] => -1
  | x :: r => if p x = true then 0 else if idxP p r < 0 then -1 else idxP p r + 1
theorem idxP_ge {α : Type} (p : α → Bool) : ∀ l : List α, -1 ≤ idxP p l
  | [] => by simp [idxP]
  | x :: r => by
    have := idxP_ge p r
    unfold idxP
    split
    · omega
    · split <;> omega
theorem idxP_nonneg {α : Type} (p : α → Bool) : ∀ l : List α, decide (idxP p l ≥ 0) = l.any p
  | [] => by simp [idxP]
  | x :: r => by
    have ih := idxP_nonneg p r
    unfold idxP
    rw [List.any_cons, ← ih]
    cases hx : p x with
    | true => simp
    | false =>
      simp only [Bool.false_eq_true, if_false, Bool.false_or]
      split
      · rename_i h; simp; omega
      · rename_i h; simp; omega
theorem idxP_none {α : Type} (p : α → Bool) : ∀ l : List α, (∀ x ∈ l, p x = false) → idxP p l = -1
  | [], _ => rfl
  | x :: r, h => by
    unfold idxP
    rw [if_neg (by rw [h x (List.mem_cons_self ..)]; simp), idxP_none p r (fun y hy => h y (List.mem_cons_of_mem _ hy))]
    simp
theorem idxP_at {α : Type} (p : α → Bool) : ∀ (l : List α) (i : Nat) (h : i < l.length), p l[i] = true → (∀ j (hj : j < i), p (l[j]'(by omega)) = false) → idxP p l = i
  | [], i, h, _, _ => by simp at h
  | x :: r, 0, h, hp, _ => by
    unfold idxP
    rw [if_pos (by simpa using hp)]
    rfl
  | x :: r, i + 1, h, hp, hn => by
    have h0 := hn 0 (by omega)
    have ih := idxP_at p r i (by simpa using h) (by simpa using hp) (fun j hj => by simpa using hn (j + 1) (by omega))
    unfold idxP
    rw [if_neg (by simp at h0; rw [h0]; simp), ih, if_neg (by omega)]
    omega

end Go.Proofs.Ytdeenfpcmaadcaa.Pr

/- What slices.IndexFunc and slices.ContainsFunc compute on chords, for any predicate that leaves old memory as it was. -/
namespace Go.Proofs.Ytdeenfpcmaadcaa.Pr
open Go.RowKit Go.Proofs.YtdeenfpcmaadcaaW.PrintWords Go.Proofs.YtdeenfpcmaadcaaW.PrintLast Go.Proofs.YtdeenfpcmaadcaaW.PrintMore
set_option linter.unusedVariables false
set_option linter.unusedSimpArgs false

def encCh (x : S47) : Value := .agg #[.int .i64 x.f0, .int .i64 x.f1]
theorem rdCh (l : List S47) (i : Nat) (h : i < l.length) : rd_T47 l (i : Int) = l[i] := by
  unfold rd_T47
  simp [List.getD_eq_getElem?_getD, List.getElem?_eq_getElem h]

set_option maxHeartbeats 2000000 in
set_option maxRecDepth 100000 in
theorem indexFunc_chord (A : Option Addr) (c : Nat) (zs : List S47) (p : S47 → Bool) (g : Nat) (lb : Array Value) (eg : ∀ args w, (callFunc g args).run Try.prog w = .ok (.enter g args) w) (w : World)
    (hr : Kd.C k47 w A zs.length zs) (hc : zs.length ≤ c) (hp : PredB g lb encCh p zs w) :
    Calls Try.prog 90 #[.slice A zs.length c, .func (.func g) #[] lb] w fun e w' => e = .returned (.int .i64 (idxP p zs)) ∧ Below w.heap.size w w' := by
  have hbig : zs.length ≤ 9223372036854775807 := hr.2.1
  have HR := Aside0.mk hr
  have HP := Aside0.mk hp
  have hu60 := Try.underlying47
  clear hr hp hc
  go_enter Try.func90, Try.ntmps90
  go_wp2
  go_loopg [5, 8] zs.length (fun gg _ s8 wr => ∃ i : Nat, s8 = .int .i64 i ∧ Aside0 (i ≤ zs.length) ∧ Aside0 (zs.length - i ≤ gg) ∧ Aside0 (Below w.heap.size w wr) ∧ Aside0 (∀ j (hj : j < zs.length), j < i → p zs[j] = false))
  case atStart => exact ⟨0, rfl, ⟨Nat.zero_le _⟩, ⟨by omega⟩, ⟨Below.refl _ w⟩, ⟨fun j _ hj => absurd hj (Nat.not_lt_zero _)⟩⟩
  case round =>
    obtain ⟨i, rfl, HI, HG, HB, HA⟩ := hrel
    by_cases hlt : i < zs.length
    · have c4b0 : decide ((i : Int) < (zs.length : Int)) = true := decide_eq_true (by omega)
      have c5b0 : decide (i < zs.length) = true := decide_eq_true hlt
      obtain ⟨ad, e, h0, h1⟩ := at_T47 HR.out (i : Int) (by omega) (by omega)
      cases e
      rw [rdCh zs i hlt, Int.toNat_natCast] at h0 h1
      replace h0 := (HB.out.cell (World.block_lt_of_cell? w _ h0)).trans h0
      replace h1 := (HB.out.cell (World.block_lt_of_cell? w _ h1)).trans h1
      have hcall := HP.out wr zs[i] (List.getElem_mem hlt) HB.out
      have hn := HA.out
      obtain ⟨y, hy⟩ : ∃ y, zs[i] = y := ⟨_, rfl⟩
      have HY := Aside0.mk hy
      rw [hy] at h0 h1 hcall
      have HN := Aside0.mk hn
      clear hn hy
      cases hq : p y with
      | true =>
        rw [hq] at hcall
        have HQ := Aside0.mk hq
        clear hq
        go_wp2_with (go_at_fn g; refine hcall.mono ?_; rintro e w' ⟨rfl, hb1⟩)
        have hb' := HB.out.trans (hb1.mono HB.out.size)
        go_ret
        exact ⟨congrArg (fun z => Ending.returned (Value.int .i64 z)) (idxP_at p zs i hlt (by rw [HY.out]; exact HQ.out) (fun j hj => HN.out j (by omega) hj)).symm, hb'⟩
      | false =>
        rw [hq] at hcall
        have HQ := Aside0.mk hq
        clear hq
        go_wp2_with (go_at_fn g; refine hcall.mono ?_; rintro e w' ⟨rfl, hb1⟩)
        have hb' := HB.out.trans (hb1.mono HB.out.size)
        go_roundg (zs.length - (i + 1))
        case measure => have := HG.out; omega
        case rel =>
          refine ⟨i + 1, by go_num, ⟨by omega⟩, ⟨by omega⟩, ⟨hb'⟩, ⟨fun j hj hji => ?_⟩⟩
          by_cases e : j = i
          · subst e
            rw [HY.out]; exact HQ.out
          · exact HN.out j hj (by omega)
    · have c4b0 : decide ((i : Int) < (zs.length : Int)) = false := decide_eq_false (by omega)
      have c5b0 : decide (i < zs.length) = false := decide_eq_false hlt
      have hall := Aside0.mk (idxP_none p zs (fun x hx => by
        obtain ⟨j, hj, rfl⟩ := List.getElem_of_mem hx
        exact HA.out j hj (by omega)))
      have HB2 := HB
      clear HA HP HR
      go_wp2
      go_ret
      exact ⟨congrArg (fun z => Ending.returned (Value.int .i64 z)) hall.out.symm, HB2.out⟩

set_option maxHeartbeats 2000000 in
theorem containsFunc_chord (A : Option Addr) (c : Nat) (zs : List S47) (p : S47 → Bool) (g : Nat) (lb : Array Value) (eg : ∀ args w, (callFunc g args).run Try.prog w = .ok (.enter g args) w) (w : World)
    (hr : Kd.C k47 w A zs.length zs) (hc : zs.length ≤ c) (hp : PredB g lb encCh p zs w) :
    Calls Try.prog 73 #[.slice A zs.length c, .func (.func g) #[] lb] w fun e w' => e = .returned (.bool (zs.any p)) ∧ Below w.heap.size w w' := by
  rw [← idxP_nonneg p zs]
  have hcon := indexFunc_chord A c zs p g lb eg w hr hc hp
  clear hr hp
  generalize idxP p zs = r at hcon ⊢
  go_enter Try.func73, Try.ntmps73
  go_wp2_with (go_at_call 90; refine hcon.mono ?_; rintro e w' ⟨rfl, hb'⟩)
  go_ret
  exact ⟨by simp, hb'⟩
end Go.Proofs.Ytdeenfpcmaadcaa.Pr

-- Written by a program for this claim.
namespace Go.Proofs.Ytdeenfpcmaadcaa.Pr
open Go.RowKit Go.Proofs.YtdeenfpcmaadcaaW.PrintWords Go.Proofs.YtdeenfpcmaadcaaW.PrintLast Go.Proofs.YtdeenfpcmaadcaaW.PrintMore
attribute [local go_sem] max2_int min2_int max_two min_two max_three min_three max_four min_four   -- for this text's walks alone
set_option linter.unusedVariables false
set_option linter.unusedSimpArgs false

theorem eqA47 (d : Nat) (w : World) (x0 y0 : Int) (x1 y1 : Int) :
    (Op.equalIn (d + 2) 47 (.agg #[.int .i64 x0, .int .i64 x1]) (.agg #[.int .i64 y0, .int .i64 y1])).run Try.prog w = .ok (x0 == y0 && (x1 == y1)) w := by
  refine eqA_of Try.underlying47 (by kernel_rfl) ?_
  refine eqf_cons (by rfl) (by go_simp; rfl) (by go_simp; rfl) (by go_simp) ?_
  exact eqf_last (by rfl) (by go_simp; rfl) (by go_simp; rfl) (by go_simp)
end Go.Proofs.Ytdeenfpcmaadcaa.Pr

-- Written by a program for this claim.
namespace Go.Proofs.Ytdeenfpcmaadcaa.Pr
open Go.RowKit Go.Proofs.YtdeenfpcmaadcaaW.PrintWords Go.Proofs.YtdeenfpcmaadcaaW.PrintLast Go.Proofs.YtdeenfpcmaadcaaW.PrintMore
attribute [local go_sem] max2_int min2_int max_two min_two max_three min_three max_four min_four   -- for this text's walks alone
set_option linter.unusedVariables false
set_option linter.unusedSimpArgs false

attribute [local go_sem high] eqA47
/-! ### impl_Chord_75: function 75 -/
def impl_Chord_75.l0 : Nat → List (S47) → Int → Int → Int → Int → Option (Int)
  | 0, _, _, _, _, _ => none
  | k + 1, x0, x7, x8, x154000, x154001 => if x8 < x7 then (if 0 ≤ x8 then (if x8 < (x0.length : Int) then (if (x154000 == ((rd_T47 x0 x8).f0) && (x154001 == ((rd_T47 x0 x8).f1))) = true then (some x8) else (impl_Chord_75.l0 k x0 x7 (wrap64 (x8 + 1)) x154000 x154001)) else (none)) else (none)) else (some (-1))
def impl_Chord_75.f (k : Nat) (l0 : List (S47)) (a1_0 : Int) (a1_1 : Int) : Option (Int) := impl_Chord_75.l0 k l0 (l0.length : Int) 0 a1_0 a1_1
theorem impl_Chord_75.mono_l : ∀ k, (∀ y0 y1 y2 y3 y4, LeO (impl_Chord_75.l0 k y0 y1 y2 y3 y4) (impl_Chord_75.l0 (k + 1) y0 y1 y2 y3 y4))
  | 0 => fun _ _ _ _ _ r h => by simp [impl_Chord_75.l0] at h
  | k + 1 => by
    have ih0 := impl_Chord_75.mono_l k
    · intro y0 y1 y2 y3 y4
      unfold impl_Chord_75.l0
      repeat' first
      | (with_reducible exact ih0 _ _ _ _ _)
      | (with_reducible exact LeO.refl _)
      | (with_reducible exact LeO.none _)
      | (with_reducible refine LeO.ite ?_ ?_)
      | (with_reducible refine LeO.bind ?_ (fun _ => ?_))
      | exact ih0 _ _ _ _ _
      | exact LeO.none _
      | refine LeO.ite ?_ ?_
      | refine LeO.bind ?_ (fun _ => ?_)
theorem impl_Chord_75.mono : ∀ a0 a1 a2 k, LeO (impl_Chord_75.f k a0 a1 a2) (impl_Chord_75.f (k + 1) a0 a1 a2) := by
  intro a0 a1 a2 k
  have ih0 := impl_Chord_75.mono_l k
  unfold impl_Chord_75.f
  repeat' first
      | (with_reducible exact ih0 _ _ _ _ _)
      | (with_reducible exact LeO.refl _)
      | (with_reducible exact LeO.none _)
      | (with_reducible refine LeO.ite ?_ ?_)
      | (with_reducible refine LeO.bind ?_ (fun _ => ?_))
      | exact ih0 _ _ _ _ _
      | exact LeO.none _
      | refine LeO.ite ?_ ?_
      | refine LeO.bind ?_ (fun _ => ?_)
set_option maxHeartbeats 8000000 in
set_option maxRecDepth 100000 in
theorem impl_Chord_75.calls (k : Nat) (A0 : Option Addr) (c0 : Nat) (l0 : List (S47)) (a1_0 : Int) (a1_1 : Int) (r : Int) (w : World) (hr0 : Kd.C k47 w A0 l0.length l0) (hc0 : l0.length ≤ c0) (h : impl_Chord_75.f k l0 a1_0 a1_1 = some r) :
    Calls Try.prog 75 #[.slice A0 l0.length c0, .agg #[.int .i64 a1_0, .int .i64 a1_1]] w fun e w' => e = .returned (.int .i64 r) ∧ Below w.heap.size w w' := by
  have hu47 := Try.underlying47
  have HR0 := Aside0.mk hr0
  have HC0 := Aside0.mk hc0
  clear hr0 hc0
  have HB := Aside0.mk (Below.refl w.heap.size w)
  have H : (impl_Chord_75.l0 k l0 (l0.length : Int) 0 a1_0 a1_1) = some r := h
  clear h
  have H' := Aside0.mk H
  clear H
  go_enter Try.func75, Try.ntmps75
  go_wp2_with (first | ((with_reducible refine gate_dst (N := 3) rfl ?_); refine box_event ?hg (N := 3) ?hd (cs := #[.int .i64 a1_0, .int .i64 a1_1]) (t := 47) ?hr ?_; (case hd => rfl); (case hg => rfl); (case hr => first | (go_simp; done) | (go_simp; rfl)); intro gb153 hg w3 hbox hb; have n0_ := Aside0.mk (below_step (by repeat (first | (with_reducible first | exact HB.out | apply below_alloc | apply pw_below_drewN | apply below_drew1) | exact HB.out)) hb); have n1_ := Aside0.mk (hbox); have n2_ := Aside0.mk ((by rw [hg]; exact (below_size (by repeat (first | (with_reducible first | exact HB.out | apply below_alloc | apply pw_below_drewN | apply below_drew1) | exact HB.out))) : w.heap.size ≤ gb153)); have n3_ := Aside0.mk ((by rw [hg]; exact (below_size (by repeat (first | (with_reducible first | exact HB.out | apply below_alloc | apply pw_below_drewN | apply below_drew1) | exact HB.out))) : w.heap.size ≤ gb153)); clear HB; have HB := n0_; have BK153 := n1_; have GW153 := n2_; have GE153 := n3_; clear n0_ n1_ n2_ n3_; clear hb hbox hg))
  repeat (go_quiet (first | ((with_reducible refine gate_dst (N := 3) rfl ?_); refine box_event ?hg (N := 3) ?hd (cs := #[.int .i64 a1_0, .int .i64 a1_1]) (t := 47) ?hr ?_; (case hd => rfl); (case hg => rfl); (case hr => first | (go_simp; done) | (go_simp; rfl)); intro gb153 hg w3 hbox hb; have n0_ := Aside0.mk (below_step (by repeat (first | (with_reducible first | exact HB.out | apply below_alloc | apply pw_below_drewN | apply below_drew1) | exact HB.out)) hb); have n1_ := Aside0.mk (hbox); have n2_ := Aside0.mk ((by rw [hg]; exact (below_size (by repeat (first | (with_reducible first | exact HB.out | apply below_alloc | apply pw_below_drewN | apply below_drew1) | exact HB.out))) : w.heap.size ≤ gb153)); have n3_ := Aside0.mk ((by rw [hg]; exact (below_size (by repeat (first | (with_reducible first | exact HB.out | apply below_alloc | apply pw_below_drewN | apply below_drew1) | exact HB.out))) : w.heap.size ≤ gb153)); clear HB; have HB := n0_; have BK153 := n1_; have GW153 := n2_; have GE153 := n3_; clear n0_ n1_ n2_ n3_; clear hb hbox hg)); try go_wp2_with (first | ((with_reducible refine gate_dst (N := 3) rfl ?_); refine box_event ?hg (N := 3) ?hd (cs := #[.int .i64 a1_0, .int .i64 a1_1]) (t := 47) ?hr ?_; (case hd => rfl); (case hg => rfl); (case hr => first | (go_simp; done) | (go_simp; rfl)); intro gb153 hg w3 hbox hb; have n0_ := Aside0.mk (below_step (by repeat (first | (with_reducible first | exact HB.out | apply below_alloc | apply pw_below_drewN | apply below_drew1) | exact HB.out)) hb); have n1_ := Aside0.mk (hbox); have n2_ := Aside0.mk ((by rw [hg]; exact (below_size (by repeat (first | (with_reducible first | exact HB.out | apply below_alloc | apply pw_below_drewN | apply below_drew1) | exact HB.out))) : w.heap.size ≤ gb153)); have n3_ := Aside0.mk ((by rw [hg]; exact (below_size (by repeat (first | (with_reducible first | exact HB.out | apply below_alloc | apply pw_below_drewN | apply below_drew1) | exact HB.out))) : w.heap.size ≤ gb153)); clear HB; have HB := n0_; have BK153 := n1_; have GW153 := n2_; have GE153 := n3_; clear n0_ n1_ n2_ n3_; clear hb hbox hg)))
  go_loopg [8] k (fun kq v8 w' => ∃ (x8_1 : Int), v8 = .int .i64 x8_1 ∧ Aside0 (impl_Chord_75.l0 kq l0 (l0.length : Int) x8_1 a1_0 a1_1 = some r) ∧ Aside0 (kq ≤ k) ∧ Aside0 (w'.heap[gb153]? = some (.cells #[.int .i64 a1_0, .int .i64 a1_1] 47 (0, 0))) ∧ Aside0 (Below w.heap.size w w'))
  case atStart => exact ⟨(0), (by first | rfl | (simp; done) | (simp [*]; done)), H', ⟨Nat.le_refl _⟩, ⟨by (with_reducible repeat (first | refine blk_drewN ?_ _ | refine blk_drew ?_ | refine blk_alloc ?_ _)); exact BK153.out⟩, ⟨by repeat (first | (with_reducible first | exact HB.out | apply below_alloc | apply pw_below_drewN | apply below_drew1 | refine below_set ?_ GE153.out) | exact HB.out)⟩⟩
  case round =>
    clear H'
    try clear p2
    obtain ⟨x8_1, rfl, HA, HK1, BK153, HB⟩ := hrel
    cases gk with
    | zero => exact absurd HA.out (by simp [impl_Chord_75.l0])
    | succ k1 =>
      have H := HA.out
      clear HA
      simp only [impl_Chord_75.l0] at H
      by_cases c4 : x8_1 < (l0.length : Int)
      · rw [if_pos c4] at H
        have c4b0 : decide (x8_1 < (l0.length : Int)) = true := decide_eq_true c4
        clear c4
        by_cases c5 : 0 ≤ x8_1
        · rw [if_pos c5] at H
          have c5b0 : decide (0 ≤ x8_1) = true := decide_eq_true c5
          clear c5
          by_cases c6 : x8_1 < (l0.length : Int)
          · rw [if_pos c6] at H
            have c6b0 : decide (x8_1 < (l0.length : Int)) = true := decide_eq_true c6
            clear c6
            by_cases c7 : (a1_0 == ((rd_T47 l0 x8_1).f0) && (a1_1 == ((rd_T47 l0 x8_1).f1))) = true
            · rw [if_pos c7] at H
              have c7b0 : (a1_0 == ((rd_T47 l0 x8_1).f0) && (a1_1 == ((rd_T47 l0 x8_1).f1))) = true := c7
              (try (have c7b1 : decide (a1_0 = ((rd_T47 l0 x8_1).f0) && (a1_1 == ((rd_T47 l0 x8_1).f1))) = true := by simpa using c7))
              (try (have c7b2 : (a1_0 == ((rd_T47 l0 x8_1).f0) && (a1_1 == ((rd_T47 l0 x8_1).f1))) = true := by simpa using c7))
              clear c7
              obtain rfl := Option.some.inj H
              have hcz8_0 : wr.cell? ⟨gb153, 0, none⟩ = some (.int .i64 a1_0) := (blk_cell BK153.out 0).trans rfl
              have hcz8_1 : wr.cell? ⟨gb153, 1, none⟩ = some (.int .i64 a1_1) := (blk_cell BK153.out 1).trans rfl
              have hfz8_0 := blk_frozen BK153.out 0
              have hfz8_1 := blk_frozen BK153.out 1
              have p154 : 0 ≤ (x8_1 : Int) := of_decide_eq_true (by first | (with_reducible assumption) | assumption)
              have q154 : x8_1 < (l0.length : Int) := of_decide_eq_true (by first | (with_reducible assumption) | assumption)
              obtain ⟨ad154, e154, hx154_0, hx154_1⟩ := at_T47 HR0.out x8_1 p154 q154
              cases e154
              replace hx154_0 := (HB.out.cell (World.block_lt_of_cell? w _ hx154_0)).trans hx154_0
              replace hx154_1 := (HB.out.cell (World.block_lt_of_cell? w _ hx154_1)).trans hx154_1
              replace p154 := eq_true p154
              replace q154 := eq_true q154
              go_wp2
              repeat (go_quiet (fail); try go_wp2)
              go_ret
              exact ⟨by first | rfl | (simp [errW_none, errW_some] <;> rfl) | (simp [*, errW_none, errW_some] <;> rfl), by repeat (first | (with_reducible first | exact HB.out | apply below_alloc | apply pw_below_drewN | apply below_drew1 | refine below_set ?_ GE153.out) | exact HB.out)⟩
            · rw [if_neg c7] at H
              have c7b0 : (a1_0 == ((rd_T47 l0 x8_1).f0) && (a1_1 == ((rd_T47 l0 x8_1).f1))) = false := by simpa using c7
              (try (have c7b1 : decide (a1_0 = ((rd_T47 l0 x8_1).f0) && (a1_1 == ((rd_T47 l0 x8_1).f1))) = false := by simpa using c7))
              (try (have c7b2 : (a1_0 == ((rd_T47 l0 x8_1).f0) && (a1_1 == ((rd_T47 l0 x8_1).f1))) = false := by simpa using c7))
              (try (have c7b3 : ¬ (a1_0 = ((rd_T47 l0 x8_1).f0) && (a1_1 == ((rd_T47 l0 x8_1).f1))) := by simpa using c7))
              clear c7
              have H' := Aside0.mk H
              clear H
              have hcz9_0 : wr.cell? ⟨gb153, 0, none⟩ = some (.int .i64 a1_0) := (blk_cell BK153.out 0).trans rfl
              have hcz9_1 : wr.cell? ⟨gb153, 1, none⟩ = some (.int .i64 a1_1) := (blk_cell BK153.out 1).trans rfl
              have hfz9_0 := blk_frozen BK153.out 0
              have hfz9_1 := blk_frozen BK153.out 1
              have p154 : 0 ≤ (x8_1 : Int) := of_decide_eq_true (by first | (with_reducible assumption) | assumption)
              have q154 : x8_1 < (l0.length : Int) := of_decide_eq_true (by first | (with_reducible assumption) | assumption)
              obtain ⟨ad154, e154, hx154_0, hx154_1⟩ := at_T47 HR0.out x8_1 p154 q154
              cases e154
              replace hx154_0 := (HB.out.cell (World.block_lt_of_cell? w _ hx154_0)).trans hx154_0
              replace hx154_1 := (HB.out.cell (World.block_lt_of_cell? w _ hx154_1)).trans hx154_1
              replace p154 := eq_true p154
              replace q154 := eq_true q154
              go_wp2
              repeat (go_quiet (fail); try go_wp2)
              go_roundg k1
              case measure => have := HK1.out; omega
              case rel => exact ⟨(wrap64 (x8_1 + 1)), (by first | rfl | (simp; done) | (simp [*]; done)), H', ⟨by have := HK1.out; omega⟩, ⟨by (with_reducible repeat (first | refine blk_drewN ?_ _ | refine blk_drew ?_ | refine blk_alloc ?_ _)); exact BK153.out⟩, ⟨by repeat (first | (with_reducible first | exact HB.out | apply below_alloc | apply pw_below_drewN | apply below_drew1 | refine below_set ?_ GE153.out) | exact HB.out)⟩⟩
          · rw [if_neg c6] at H
            exact absurd H (by simp)
        · rw [if_neg c5] at H
          exact absurd H (by simp)
      · rw [if_neg c4] at H
        have c4b0 : decide (x8_1 < (l0.length : Int)) = false := decide_eq_false c4
        clear c4
        obtain rfl := Option.some.inj H
        go_wp2
        repeat (go_quiet (fail); try go_wp2)
        go_ret
        exact ⟨by first | rfl | (simp [errW_none, errW_some] <;> rfl) | (simp [*, errW_none, errW_some] <;> rfl), by repeat (first | (with_reducible first | exact HB.out | apply below_alloc | apply pw_below_drewN | apply below_drew1 | refine below_set ?_ GE153.out) | exact HB.out)⟩

end Go.Proofs.Ytdeenfpcmaadcaa.Pr

-- Written by a program for this claim.
namespace Go.Proofs.Ytdeenfpcmaadcaa.Pr
open Go.RowKit Go.Proofs.YtdeenfpcmaadcaaW.PrintWords Go.Proofs.YtdeenfpcmaadcaaW.PrintLast Go.Proofs.YtdeenfpcmaadcaaW.PrintMore
attribute [local go_sem] max2_int min2_int max_two min_two max_three min_three max_four min_four   -- for this text's walks alone
set_option linter.unusedVariables false
set_option linter.unusedSimpArgs false

/-! ### impl_Chord_51: function 51 -/
def impl_Chord_51.f (k : Nat) (l0 : List (S47)) (a1_0 : Int) (a1_1 : Int) : Option (Bool) := (impl_Chord_75.f k l0 a1_0 a1_1).bind fun t156 => (some (decide (t156 ≥ 0)))
theorem impl_Chord_51.mono : ∀ a0 a1 a2 k, LeO (impl_Chord_51.f k a0 a1 a2) (impl_Chord_51.f (k + 1) a0 a1 a2) := by
  intro a0 a1 a2 k
  unfold impl_Chord_51.f
  repeat' first
      | (with_reducible exact impl_Chord_75.mono _ _ _ _)
      | (with_reducible exact LeO.refl _)
      | (with_reducible exact LeO.none _)
      | (with_reducible refine LeO.ite ?_ ?_)
      | (with_reducible refine LeO.bind ?_ (fun _ => ?_))
      | exact impl_Chord_75.mono _ _ _ _
      | exact LeO.none _
      | refine LeO.ite ?_ ?_
      | refine LeO.bind ?_ (fun _ => ?_)
set_option maxHeartbeats 8000000 in
set_option maxRecDepth 100000 in
theorem impl_Chord_51.calls (k : Nat) (A0 : Option Addr) (c0 : Nat) (l0 : List (S47)) (a1_0 : Int) (a1_1 : Int) (r : Bool) (w : World) (hr0 : Kd.C k47 w A0 l0.length l0) (hc0 : l0.length ≤ c0) (h : impl_Chord_51.f k l0 a1_0 a1_1 = some r) :
    Calls Try.prog 51 #[.slice A0 l0.length c0, .agg #[.int .i64 a1_0, .int .i64 a1_1]] w fun e w' => e = .returned (.bool r) ∧ Below w.heap.size w w' := by
  have hu47 := Try.underlying47
  have HR0 := Aside0.mk hr0
  have HC0 := Aside0.mk hc0
  clear hr0 hc0
  have HB := Aside0.mk (Below.refl w.heap.size w)
  have H : ((impl_Chord_75.f k l0 a1_0 a1_1).bind fun t156 => (some (decide (t156 ≥ 0)))) = some r := h
  clear h
  replace H := Option.bind_eq_some_iff.mp H
  obtain ⟨t156, A30, H⟩ := H
  replace H : (some (decide (t156 ≥ 0))) = some r := H
  have A3 := Aside0.mk A30
  clear A30
  obtain rfl := Option.some.inj H
  go_enter Try.func51, Try.ntmps51
  go_wp2_with (first | ((with_reducible refine gate_dst (N := 3) rfl ?_); refine box_event ?hg (N := 3) ?hd (cs := #[.int .i64 a1_0, .int .i64 a1_1]) (t := 47) ?hr ?_; (case hd => rfl); (case hg => rfl); (case hr => first | (go_simp; done) | (go_simp; rfl)); intro gb155 hg w4 hbox hb; have n0_ := Aside0.mk (below_step (by repeat (first | (with_reducible first | exact HB.out | apply below_alloc | apply pw_below_drewN | apply below_drew1) | exact HB.out)) hb); have n1_ := Aside0.mk (hbox); have n2_ := Aside0.mk ((by rw [hg]; exact (below_size (by repeat (first | (with_reducible first | exact HB.out | apply below_alloc | apply pw_below_drewN | apply below_drew1) | exact HB.out))) : w.heap.size ≤ gb155)); have n3_ := Aside0.mk ((by rw [hg]; exact (below_size (by repeat (first | (with_reducible first | exact HB.out | apply below_alloc | apply pw_below_drewN | apply below_drew1) | exact HB.out))) : w.heap.size ≤ gb155)); clear HB; have HB := n0_; have BK155 := n1_; have GW155 := n2_; have GE155 := n3_; clear n0_ n1_ n2_ n3_; clear hb hbox hg; have hcz5_0 : w4.cell? ⟨gb155, 0, none⟩ = some (.int .i64 a1_0) := (blk_cell BK155.out 0).trans rfl; have hcz5_1 : w4.cell? ⟨gb155, 1, none⟩ = some (.int .i64 a1_1) := (blk_cell BK155.out 1).trans rfl; have hfz5_0 := blk_frozen BK155.out 0; have hfz5_1 := blk_frozen BK155.out 1) | ((with_reducible refine gate_callee (f := 75) rfl ?_); refine goesL_ (some 7) rfl rfl Try.func75 (by kernel_rfl) rfl #[.slice A0 l0.length c0, .agg #[.int .i64 a1_0, .int .i64 a1_1]] rfl (by (try simp only [List.map_toArray, List.map_cons, List.map_nil]); first | done | rfl | (simp only [List.length_drop, List.length_take]; rfl)) ?_; (with_reducible refine (impl_Chord_75.calls k _ _ l0 a1_0 a1_1 t156 _ ?side1 ?side2 A3.out).mono ?_); (case side1 => repeat (first | exact (Kd.C_below HR0.out HB.out) | (with_reducible refine Kd.C_alloc ?_ _) | (with_reducible refine Kd.C_drewN ?_ _) | (with_reducible refine Kd.C_drew ?_))); (case side2 => exact HC0.out); rintro e w6 ⟨rfl, hb⟩; refine ⟨_, rfl, ?_⟩; have n0_ := Aside0.mk (blk_below (g := gb155) (o := .cells #[.int .i64 a1_0, .int .i64 a1_1] 47 (0, 0)) (by (with_reducible repeat (first | refine blk_drewN ?_ _ | refine blk_drew ?_ | refine blk_alloc ?_ _)); exact BK155.out) hb); have n1_ := Aside0.mk (below_step (by repeat (first | (with_reducible first | exact HB.out | apply below_alloc | apply pw_below_drewN | apply below_drew1 | refine below_set ?_ GE155.out) | exact HB.out)) hb); clear BK155; clear HB; have BK155 := n0_; have HB := n1_; clear n0_ n1_; (try clear hb); (try clear hb2); (try clear hk); (try clear hi)))
  go_ret
  exact ⟨by first | rfl | (simp [errW_none, errW_some] <;> rfl) | (simp [*, errW_none, errW_some] <;> rfl), by repeat (first | (with_reducible first | exact HB.out | apply below_alloc | apply pw_below_drewN | apply below_drew1 | refine below_set ?_ GE155.out) | exact HB.out)⟩

end Go.Proofs.Ytdeenfpcmaadcaa.Pr

/- Whether a chord is one of a row of chords: the library's Contains, in plain words. -/
namespace Go.Proofs.Ytdeenfpcmaadcaa.M
open Go.RowKit Go.Proofs.YtdeenfpcmaadcaaW.PrintWords Go.Proofs.Ytdeenfpcmaadcaa.Pr
set_option linter.unusedVariables false
set_option linter.unusedSimpArgs false
def hasC (l : List Ch) (c : Ch) : Bool := l.any fun d => c.f0 == d.f0 && (c.f1 == d.f1)
theorem hasC_iff (l : List Ch) (c : Ch) : hasC l c = true ↔ c ∈ l := by
  unfold hasC
  rw [List.any_eq_true]
  constructor
  · rintro ⟨d, hd, e⟩
    rw [Bool.and_eq_true, beq_iff_eq, beq_iff_eq] at e
    have : c = d := by cases c; cases d; simp only at e; rw [e.1, e.2]
    rw [this]; exact hd
  · exact fun h => ⟨c, h, by simp⟩
theorem indexC_ev (l : List Ch) (c : Ch) (hl : l.length ≤ 9223372036854775807) : Ev (fun k => impl_Chord_75.f k l c.f0 c.f1) (if hasC l c = true then ((l.findIdx fun d => c.f0 == d.f0 && (c.f1 == d.f1) : Nat) : Int) else -1) := by
  unfold impl_Chord_75.f
  have e := Ev.scan0 (fun k i (n : Nat) => impl_Chord_75.l0 k l (l.length : Int) i c.f0 c.f1) l (fun rest n => if hasC rest c = true then (((n + rest.findIdx fun d => c.f0 == d.f0 && (c.f1 == d.f1)) : Nat) : Int) else -1) (fun i n => n = i)
    (fun n hn => by
      refine Ev.step (fun k => by rw [impl_Chord_75.l0]) ?_
      exact Ev.neg (by omega) (Ev.val (by simp [hasC])))
    (fun i h n hn => by
      subst hn
      by_cases hx : (c.f0 == l[n].f0 && (c.f1 == l[n].f1)) = true
      · right
        refine Ev.step (fun k => by rw [impl_Chord_75.l0]) ?_
        refine Ev.pos (by omega) (Ev.pos (by omega) (Ev.pos (by omega) (Ev.pos (by rw [rd_ch l n h]; exact hx) (Ev.val ?_))))
        unfold hasC
        rw [List.any_cons, hx, Bool.true_or, if_pos rfl, List.findIdx_cons, hx]
        simp
      · refine .inl ⟨n + 1, rfl, ?_, fun r hr => ?_⟩
        · have hx2 : (c.f0 == l[n].f0 && (c.f1 == l[n].f1)) = false := by simpa using hx
          unfold hasC
          rw [List.any_cons, hx2, Bool.false_or, List.findIdx_cons, hx2]
          split
          · simp; omega
          · rfl
        · refine Ev.step (fun k => by rw [impl_Chord_75.l0]) ?_
          refine Ev.pos (by omega) (Ev.pos (by omega) (Ev.pos (by omega) (Ev.neg (by rw [rd_ch l n h]; exact hx) ?_)))
          rw [w64 (by omega) (by omega)]
          exact hr)
    0 rfl
  simpa using e
theorem hasC_ev (l : List Ch) (c : Ch) (hl : l.length ≤ 9223372036854775807) : Ev (fun k => impl_Chord_51.f k l c.f0 c.f1) (hasC l c) := by
  unfold impl_Chord_51.f
  refine Ev.bindk (indexC_ev l c hl) (Ev.val ?_)
  cases h : hasC l c with
  | true => rw [if_pos rfl]; simp
  | false => rw [if_neg (by simp)]; simp
end Go.Proofs.Ytdeenfpcmaadcaa.M

/- The program's neighbours, by hand: all two regions with a chord in common. -/
namespace Go.Proofs.Ytdeenfpcmaadcaa.M
open Go.RowKit Go.Proofs.YtdeenfpcmaadcaaW.PrintWords Go.Proofs.Ytdeenfpcmaadcaa.Pr
abbrev Rg := S54
/-- Whether two regions have a chord in common. -/
def shB (a b : Rg) : Bool := a.f1.any fun c => hasC b.f1 c
def rowK (a : Rg) (i : Nat) : Nat → List Rg → List (List Int)
  | _, [] => []
  | k, b :: r => if shB a b = true then [(i : Int), (k : Int)] :: rowK a i (k + 1) r else rowK a i (k + 1) r
def neighL : Nat → List Rg → List (List Int)
  | _, [] => []
  | i, a :: r => rowK a i (i + 1) r ++ neighL (i + 1) r
theorem rd_rg (l : List Rg) (i : Nat) (h : i < l.length) : rd_T54 l (i : Int) = l[i] := by
  unfold rd_T54
  simp [List.getD_eq_getElem?_getD, List.getElem?_eq_getElem h]
theorem rowK_len (a : Rg) (i : Nat) : ∀ (k : Nat) (r : List Rg), (rowK a i k r).length ≤ r.length
  | _, [] => by simp [rowK]
  | k, b :: r => by
    have := rowK_len a i (k + 1) r
    unfold rowK
    split <;> simp <;> omega
end Go.Proofs.Ytdeenfpcmaadcaa.M
namespace Go.Proofs.Ytdeenfpcmaadcaa.Pr
open Go.RowKit Go.Proofs.YtdeenfpcmaadcaaW.PrintWords Go.Proofs.YtdeenfpcmaadcaaW.PrintLast Go.Proofs.YtdeenfpcmaadcaaW.PrintMore Go.Proofs.Ytdeenfpcmaadcaa.M
set_option linter.unusedVariables false
set_option linter.unusedSimpArgs false
theorem cell_alloc_lt {W : World} {b off : Nat} (o : Obj) (h : b < W.heap.size) : (W.alloc o).cell? ⟨b, off, none⟩ = W.cell? ⟨b, off, none⟩ := (below_alloc (Below.refl W.heap.size W) o).cell (p := ⟨b, off, none⟩) h
def impl_neighbours.f (l0 : List Rg) : Option ((List (List Int))) := if l0.length ≤ 1000 then some (neighL 0 l0) else none
theorem pair_lit {W : World} {base : Nat} (hb : base ≤ W.heap.size) (i j : Int) : KI.R 3 (W.alloc (.cells #[.int .i64 i, .int .i64 j] 3)) base (fun q => q = W.heap.size) (.slice (some ⟨W.heap.size, 0, none⟩) 2 2) [i, j] := by
  refine ⟨fun k hk => ?_, [.int .i64 i, .int .i64 j], ?_, rfl, fun q p hq => ?_⟩
  · simpa [Value.ownBlock] using hk.symm
  · exact (by simpa using World.ownsRow_lit (base := base) (e := 3) (size := 1) W #[.int .i64 i, .int .i64 j] 2 hb (by unfold maxLen; omega) (by simp) : World.ownsRow _ _ _ 1 _ _ _)
  · match q, hq with
    | 0, hq => (obtain rfl := Option.some.inj hq; exact rfl)
    | 1, hq => (obtain rfl := Option.some.inj hq; exact rfl)
set_option maxHeartbeats 2000000 in
theorem neigh_pred (A0 : Option Addr) (c0 : Nat) (l0 : List Rg) (W : World) (hr : Kd.C k54 W A0 l0.length l0) (B0 Bk k : Nat) (hk : k < l0.length) (h0 : W.cell? ⟨B0, 0, none⟩ = some (.slice A0 l0.length c0)) (h1 : W.cell? ⟨Bk, 0, none⟩ = some (.int .i64 k)) (c : Ch) :
    Calls Try.prog 79 #[.agg #[.int .i64 c.f0, .int .i64 c.f1], .pointer (some ⟨B0, 0, none⟩), .pointer (some ⟨Bk, 0, none⟩)] W fun e w' => e = .returned (.bool (hasC l0[k].f1 c)) ∧ Below W.heap.size W w' := by
  obtain ⟨ad, X0, d0, X1, d1, X2, d2, e, y0, y1, y2, _, _, hl1, hC1, _, _⟩ := at_T54 hr (k : Int) (by omega) (by omega)
  rw [rd_rg l0 k hk] at y1 hl1 hC1
  rw [Int.toNat_natCast] at y1
  clear y0 y2
  cases e
  obtain ⟨zs, hzs⟩ : ∃ zs, l0[k].f1 = zs := ⟨_, rfl⟩
  rw [hzs] at y1 hl1 hC1 ⊢
  obtain ⟨K, hK⟩ := hasC_ev zs c hC1.2.1
  have hcall := Aside0.mk (fun (W2 : World) (hb : Below W.heap.size W W2) => impl_Chord_51.calls K X1 d1 zs c.f0 c.f1 (hasC zs c) W2 (Kd.C_below hC1 hb) hl1 (hK K (Nat.le_refl _)))
  have hB0 : B0 < W.heap.size := World.block_lt_of_cell? W ⟨B0, 0, none⟩ h0
  have hBk : Bk < W.heap.size := World.block_lt_of_cell? W ⟨Bk, 0, none⟩ h1
  have hBa : (ad.add (k * 3)).block < W.heap.size := World.block_lt_of_cell? W ⟨(ad.add (k * 3)).block, (ad.add (k * 3)).off + 1, none⟩ y1
  have hn0 : B0 ≠ W.heap.size := by omega
  have hnk : Bk ≠ W.heap.size := by omega
  have hna : (ad.add (k * 3)).block ≠ W.heap.size := by omega
  have hlt : decide ((k : Int) < (l0.length : Int)) = true := decide_eq_true (by omega)
  have hlt2 : decide (k < l0.length) = true := decide_eq_true hk
  have HS1 := Aside0.mk (fun (W2 : World) (hb : Below (W.alloc (.cells #[.int .i64 c.f0, .int .i64 c.f1] 47)).heap.size (W.alloc (.cells #[.int .i64 c.f0, .int .i64 c.f1] 47)) W2) =>
    (⟨(hb.cell (p := ⟨B0, 0, none⟩) (by show B0 < _; simp; omega)).trans ((cell_alloc_lt _ hB0).trans h0), (hb.cell (p := ⟨Bk, 0, none⟩) (by show Bk < _; simp; omega)).trans ((cell_alloc_lt _ hBk).trans h1), (hb.cell (p := ⟨(ad.add (k * 3)).block, (ad.add (k * 3)).off + 1, none⟩) (by show (ad.add (k * 3)).block < _; simp; omega)).trans ((cell_alloc_lt _ hBa).trans y1),
      (hb.cell (p := ⟨W.heap.size, 0, none⟩) (by simp)).trans (by simp), (hb.cell (p := ⟨W.heap.size, 1, none⟩) (by simp)).trans (by simp), hb⟩ :
      W2.cell? ⟨B0, 0, none⟩ = some (.slice (some ad) l0.length c0) ∧ W2.cell? ⟨Bk, 0, none⟩ = some (.int .i64 k) ∧ W2.cell? ⟨(ad.add (k * 3)).block, (ad.add (k * 3)).off + 1, none⟩ = some (.slice X1 zs.length d1) ∧ W2.cell? ⟨W.heap.size, 0, none⟩ = some (.int .i64 c.f0) ∧ W2.cell? ⟨W.heap.size, 1, none⟩ = some (.int .i64 c.f1) ∧ Below (W.alloc (.cells #[.int .i64 c.f0, .int .i64 c.f1] 47)).heap.size (W.alloc (.cells #[.int .i64 c.f0, .int .i64 c.f1] 47)) W2))
  have HBW := Aside0.mk (show Below W.heap.size W (W.alloc (.cells #[.int .i64 c.f0, .int .i64 c.f1] 47)) from below_alloc (Below.refl _ _) _)
  have hk0 : (0 : Int) ≤ (k : Int) := by omega
  have hk1 : (k : Int) < (l0.length : Int) := by omega
  have hk2 : (k : Int) ≤ (l0.length : Int) := by omega
  clear hr hK hzs hC1 hl1 hB0 hBk hBa y1 h0 h1 hn0 hnk hna
  generalize hasC zs c = b at hcall ⊢
  have hu47 := Try.underlying47
  go_enter Try.func79, Try.ntmps79
  go_wp2_with fail
  generalize (W.alloc (.cells #[.int .i64 c.f0, .int .i64 c.f1] 47)) = W1 at HS1 HBW ⊢
  go_region_held3 (fun w' => w'.cell? ⟨B0, 0, none⟩ = some (.slice (some ad) l0.length c0) ∧ w'.cell? ⟨Bk, 0, none⟩ = some (.int .i64 k) ∧ w'.cell? ⟨(ad.add (k * 3)).block, (ad.add (k * 3)).off + 1, none⟩ = some (.slice X1 zs.length d1) ∧ w'.cell? ⟨W.heap.size, 0, none⟩ = some (.int .i64 c.f0) ∧ w'.cell? ⟨W.heap.size, 1, none⟩ = some (.int .i64 c.f1) ∧ Below W1.heap.size W1 w')
    ((go_split_ands; exact HS1.out _ (by first | assumption | exact Below.refl _ _ | exact below_drew (Below.refl _ _) | exact below_drew (by assumption) | exact below_step (by assumption) (by assumption))))
    (first | (go_at_call 51; refine (hcall.out _ (below_step HBW.out (by first | assumption | exact Below.refl _ _ | exact below_drew (Below.refl _ _) | exact below_drew (by assumption)))).mono ?_; rintro e w' ⟨rfl, hb⟩))
  all_goals
    rename_i hH
    obtain ⟨_, _, _, _, _, h3⟩ := hH
    go_wp2_with fail
    go_ret
    exact ⟨by simp, below_step HBW.out h3⟩
/-- What is held in the loops: the rows so far, the box of the regions, old memory. -/
structure NB (w W : World) (v : Value) (out : List (List Int)) : Prop where
  bl : Below w.heap.size w W
  rs : Kd.S (Kd.slice 3 KI) 24 W w.heap.size (fun _ => True) v out
theorem NB.go {w W W' : World} {v : Value} {out : List (List Int)} (h : NB w W v out) (hb : Below W.heap.size W W') : NB w W' v out := ⟨below_step h.bl hb, Kd.S_below h.rs hb⟩
def kpB (g : Nat) (t : Nat) (cs : Array Value) (W : World) : Prop := W.heap[g]? = some (.cells cs t (0, 0))
theorem kpB.go {g t : Nat} {cs : Array Value} {W W' : World} (h : kpB g t cs W) (hb : Below W.heap.size W W') : kpB g t cs W' := (hb.block g (blk_lt h)).trans h
theorem kpB.new {t : Nat} {cs : Array Value} (W : World) : kpB W.heap.size t cs (W.alloc (.cells cs t)) := by
  show (W.heap.push _)[W.heap.size]? = _
  exact Array.getElem?_push_size
theorem kpB.cell {g t : Nat} {cs : Array Value} {W : World} (h : kpB g t cs W) (j : Nat) : W.cell? ⟨g, j, none⟩ = cs[j]? := by
  rw [blk_cell h]
theorem kpB.grown {g t : Nat} {cs : Array Value} {W W' : World} {row : Option Nat} (h : kpB g t cs W) (hg : W.grownBy W' row) (hr : some g ≠ row) : kpB g t cs W' := (hg.block g (blk_lt h) hr).trans h
theorem nil_lit {α : Type} (d : Kd α) (e : Nat) {W : World} {base : Nat} (hb : base ≤ W.heap.size) : Kd.S d e (W.alloc (.cells #[] e)) base (fun _ => True) (.slice (some ⟨W.heap.size, 0, none⟩) 0 0) [] := by
  refine ⟨fun _ => 0, fun _ _ => trivial, [], ?_, (by simp), fun j p hj => by simp at hj⟩
  exact (by simpa using World.ownsRow_lit (base := base) (e := e) (size := d.sz) W #[] 0 hb (by unfold maxLen; omega) (by simp) : World.ownsRow _ _ _ d.sz _ _ _)
abbrev KR : Kd (List Int) := Kd.slice 3 KI
/-- What is held in the inner loop: besides, the boxes of the region at hand and of the index. -/
structure NW (w W : World) (v : Value) (out : List (List Int)) (cs rc : Array Value) (Br Bk : Nat) (k : Int) : Prop where
  nb : NB w W v out
  k0 : kpB w.heap.size 50 cs W
  kr : kpB Br 54 rc W
  kk : kpB Bk 3 #[.int .i64 k] W
section
variable {w W W' : World} {v : Value} {out : List (List Int)} {cs rc : Array Value} {Br Bk : Nat} {k : Int}
theorem NW.go (h : NW w W v out cs rc Br Bk k) (hb : Below W.heap.size W W') : NW w W' v out cs rc Br Bk k := ⟨h.nb.go hb, h.k0.go hb, h.kr.go hb, h.kk.go hb⟩
theorem NW.next (h : NW w W v out cs rc Br Bk k) : NW w (W.alloc (.cells #[.int .i64 (k + 1)] 3)) v out cs rc Br W.heap.size (k + 1) :=
  have hb : Below W.heap.size W (W.alloc (.cells #[.int .i64 (k + 1)] 3)) := below_alloc (Below.refl _ _) _
  ⟨h.nb.go hb, h.k0.go hb, h.kr.go hb, kpB.new W⟩
theorem NW.first (h : NB w W v out) (h0 : kpB w.heap.size 50 cs W) : NW w ((W.alloc (.cells rc 54)).alloc (.cells #[.int .i64 k] 3)) v out cs rc W.heap.size (W.heap.size + 1) k :=
  have hb : Below W.heap.size W (W.alloc (.cells rc 54)) := below_alloc (Below.refl _ _) _
  have hb2 : Below (W.alloc (.cells rc 54)).heap.size (W.alloc (.cells rc 54)) ((W.alloc (.cells rc 54)).alloc (.cells #[.int .i64 k] 3)) := below_alloc (Below.refl _ _) _
  ⟨(h.go hb).go hb2, (h0.go hb).go hb2, (kpB.new W).go hb2, by
    have e := kpB.new (t := 3) (cs := #[.int .i64 k]) (W.alloc (.cells rc 54))
    simpa using e⟩
theorem NW.hp (h : NW w W v out cs rc Br Bk k) (i j : Int) : KR.M (W.alloc (.cells #[.int .i64 i, .int .i64 j] 3)) w.heap.size (fun q => q = W.heap.size) [i, j] [.slice (some ⟨W.heap.size, 0, none⟩) 2 2] := ⟨_, rfl, pair_lit h.nb.bl.size i j⟩
theorem NW.hokp (h : NW w W v out cs rc Br Bk k) : ∀ q, q = W.heap.size → True ∧ some q ≠ v.ownBlock := fun q hq => ⟨trivial, fun e => by
  have := Kd.S_lt h.nb.rs q e.symm
  omega⟩
theorem NW.ho (h : NW w W v out cs rc Br Bk k) (o : Obj) : Kd.S KR 24 (W.alloc o) w.heap.size (fun q => True ∧ ¬ q = W.heap.size) v out := Kd.S_mono (Kd.S_old h.nb.rs (below_alloc (Below.refl _ _) o)) (fun q hq => ⟨trivial, by have := hq.2; omega⟩)
theorem NW.app (h : NW w W v out cs rc Br Bk k) {o : Obj} {v7 : Value} {w7 : World} {out' : List (List Int)} (hs : Kd.S KR 24 w7 w.heap.size (fun _ => True) v7 out') (hb : Below w.heap.size w w7) (hg : (W.alloc o).grownBy w7 v.ownBlock) : NW w w7 v7 out' cs rc Br Bk k :=
  have hb0 : Below W.heap.size W (W.alloc o) := below_alloc (Below.refl _ _) o
  have h2 := h.go hb0
  ⟨⟨hb, hs⟩, h2.k0.grown hg (Kd.S_ne h2.nb.rs h2.k0 (by decide)), h2.kr.grown hg (Kd.S_ne h2.nb.rs h2.kr (by decide)), h2.kk.grown hg (Kd.S_ne h2.nb.rs h2.kk (by decide))⟩
end
set_option maxHeartbeats 4000000 in
set_option maxRecDepth 100000 in
theorem impl_neighbours.calls (A0 : Option Addr) (c0 : Nat) (l0 : List Rg) (r : List (List Int)) (w : World) (hr0 : Kd.C k54 w A0 l0.length l0) (hc0 : l0.length ≤ c0) (h : impl_neighbours.f l0 = some r) :
    Calls Try.prog 57 #[.slice A0 l0.length c0] w fun e w' => ∃ v0_ : Value, e = .returned (v0_) ∧ Kd.S (Kd.slice 3 (Kd.int .i64)) 24 w' w.heap.size (fun _ => True) v0_ r ∧ Below w.heap.size w w' := by
  unfold impl_neighbours.f at h
  by_cases hn : l0.length ≤ 1000
  rotate_left
  · rw [if_neg hn] at h; cases h
  rw [if_pos hn] at h
  have HR := Aside0.mk (Option.some.inj h)
  clear h
  have HB0 := Aside0.mk (show Below w.heap.size w (w.alloc (.cells #[.slice A0 l0.length c0] 50)) from below_alloc (Below.refl _ _) _)
  have HK0 := Aside0.mk (kpB.new (t := 50) (cs := #[.slice A0 l0.length c0]) w)
  have HLT := Aside0.mk (show w.heap.size < (w.alloc (.cells #[.slice A0 l0.length c0] 50)).heap.size by simp)
  have HCAP := Aside0.mk hc0
  have eg : ∀ args w, (callFunc 79 args).run Try.prog w = .ok (.enter 79 args) w := enters_of Try.func79 (by kernel_rfl) rfl
  have HEG := Aside0.mk eg
  have HN := Aside0.mk hn
  have HR0 := Aside0.mk hr0
  clear hr0 hc0 eg
  go_enter Try.func57, Try.ntmps57
  go_upto_region 2 with fail
  have HNB := Aside0.mk (show NB w ((w.alloc (.cells #[.slice A0 l0.length c0] 50)).alloc (.cells #[] 24)) (.slice (some ⟨w.heap.size + 1, 0, none⟩) 0 0) [] from ⟨below_alloc HB0.out _, by
    have e := nil_lit KR 24 (W := w.alloc (.cells #[.slice A0 l0.length c0] 50)) (base := w.heap.size) (Nat.le_of_lt HLT.out)
    simpa using e⟩)
  have HK := Aside0.mk (HK0.out.go (below_alloc (Below.refl (w.alloc (.cells #[.slice A0 l0.length c0] 50)).heap.size (w.alloc (.cells #[.slice A0 l0.length c0] 50))) (.cells #[] 24)))
  generalize ((w.alloc (.cells #[.slice A0 l0.length c0] 50)).alloc (.cells #[] 24)) = W0 at HNB HK ⊢
  have x0 : W0.cell? ⟨w.heap.size, 0, none⟩ = some (.slice A0 l0.length c0) := HK.out.cell 0
  clear HB0 HK0
  go_wp2_with fail
  obtain ⟨N, hN⟩ : ∃ N, N = l0.length := ⟨_, rfl⟩
  go_loopg [3, 10] N (fun gg v3 v10 W => ∃ (i : Nat) (out : List (List Int)), v10 = .int .i64 i ∧ Aside0 (i + gg = N) ∧ Aside0 (NB w W v3 out) ∧ Aside0 (kpB w.heap.size 50 #[.slice A0 l0.length c0] W) ∧ Aside0 (out.length ≤ i * 1000) ∧ Aside0 (out ++ neighL i (l0.drop i) = r))
  case atStart => exact ⟨0, [], by first | rfl | (simp; done), ⟨by omega⟩, HNB, HK, ⟨by simp⟩, ⟨by simpa using HR.out⟩⟩
  case round =>
    clear HNB HK x0 HR
    obtain ⟨i, out, rfl, HG, HNB, HK, HOL, HR⟩ := hrel
    by_cases hi : i < N
    · have hil : i < l0.length := by omega
      have e1 : decide ((i : Int) < (l0.length : Int)) = true := decide_eq_true (by omega)
      have e2 : IntKind.i64.wrap ((i : Int) + 1) = ((i + 1 : Nat) : Int) := by
        rw [i64_w]
        exact M.w64 (by omega) (by omega)
      obtain ⟨gm, rfl⟩ : ∃ gm, gk = gm + 1 := ⟨gk - 1, by have := HG.out; omega⟩
      obtain ⟨a, ha⟩ : ∃ a, a = l0[i] := ⟨_, rfl⟩
      obtain ⟨ad, X0, d0, X1, d1, X2, d2, ea, y0, y1, y2, _, _, hl1, hC1, _, _⟩ := at_T54 HR0.out (i : Int) (by omega) (by omega)
      rw [rd_rg l0 i hil, ← ha] at y0 y1 y2 hl1 hC1
      rw [Int.toNat_natCast] at y0 y1 y2
      replace y0 := (HNB.out.bl.cell (World.block_lt_of_cell? w _ y0)).trans y0
      replace y1 := (HNB.out.bl.cell (World.block_lt_of_cell? w ⟨(ad.add (i * 3)).block, (ad.add (i * 3)).off + 1, none⟩ y1)).trans y1
      replace y2 := (HNB.out.bl.cell (World.block_lt_of_cell? w ⟨(ad.add (i * 3)).block, (ad.add (i * 3)).off + 2, none⟩ y2)).trans y2
      have hR := HR.out
      rw [List.drop_eq_getElem_cons hil, ← ha, neighL] at hR
      have HR2 := Aside0.mk hR
      have HA := Aside0.mk ha
      have HC1 := Aside0.mk hC1
      have HL1 := Aside0.mk hl1
      clear hR HR ha hC1 hl1
      cases ea
      have hu54 := Try.underlying54
      go_upto_block 2 with fail
      have HW := Aside0.mk (NW.first (k := (i : Int) + 1) (rc := #[.slice X0 a.f0.length d0, .slice X1 a.f1.length d1, .slice X2 a.f2.length d2]) HNB.out HK.out)
      clear HNB HK y0 y1 y2
      generalize ((wr.alloc (.cells #[.slice X0 a.f0.length d0, .slice X1 a.f1.length d1, .slice X2 a.f2.length d2] 54)).alloc (.cells #[.int .i64 ((i : Int) + 1)] 3)) = W1 at HW ⊢
      generalize wr.heap.size = Br at HW ⊢
      go_wp2_with fail
      obtain ⟨M0, hM0⟩ : ∃ M0, M0 = N - (i + 1) := ⟨_, rfl⟩
      go_loopg [3, 6] M0 (fun gg v3 v6 W => ∃ (k Bk : Nat) (out : List (List Int)), v6 = .pointer (some ⟨Bk, 0, none⟩) ∧ Aside0 (k + gg = N) ∧ Aside0 (NW w W v3 out #[.slice (some ad) l0.length c0] #[.slice X0 a.f0.length d0, .slice X1 a.f1.length d1, .slice X2 a.f2.length d2] Br Bk (k : Int)) ∧ Aside0 (out.length ≤ i * 1000 + k) ∧ Aside0 (out ++ (rowK a i k (l0.drop k) ++ neighL (i + 1) (l0.drop (i + 1))) = r))
      case atStart => exact ⟨i + 1, Br + 1, out, by first | rfl | (simp; done), ⟨by omega⟩, ⟨by have e := HW.out; rwa [show ((i + 1 : Nat) : Int) = (i : Int) + 1 by omega]⟩, ⟨by have := HOL.out; omega⟩, HR2⟩
      case round =>
        clear HW HR2 HOL
        obtain ⟨k, Bk, out, rfl, HG2, HW, HOL, HR2⟩ := hrel
        have hkN : k ≤ N := by have := HG2.out; omega
        have x0 : wr.cell? ⟨w.heap.size, 0, none⟩ = some (.slice (some ad) l0.length c0) := HW.out.k0.cell 0
        have x1 : wr.cell? ⟨Bk, 0, none⟩ = some (.int .i64 (k : Int)) := HW.out.kk.cell 0
        by_cases hk : k < N
        · have hkl : k < l0.length := by omega
          have e3 : decide ((k : Int) < (l0.length : Int)) = true := decide_eq_true (by omega)
          have e4 : decide (k < l0.length) = true := decide_eq_true hkl
          have e5 : IntKind.i64.wrap ((k : Int) + 1) = ((k + 1 : Nat) : Int) := by
            rw [i64_w]
            exact M.w64 (by omega) (by omega)
          obtain ⟨gi, rfl⟩ : ∃ gi, gk = gi + 1 := ⟨gk - 1, by have := HG2.out; omega⟩
          have x2 : wr.cell? ⟨Br, 1, none⟩ = some (.slice X1 a.f1.length d1) := HW.out.kr.cell 1
          have hR := HR2.out
          rw [List.drop_eq_getElem_cons hkl, rowK] at hR
          have HR3 := Aside0.mk hR
          have HCF := Aside0.mk (containsFunc_chord X1 d1 a.f1 (fun c => hasC l0[k].f1 c) 79 #[.pointer (some ⟨w.heap.size, 0, none⟩), .pointer (some ⟨Bk, 0, none⟩)] HEG.out wr (Kd.C_below HC1.out HW.out.nb.bl) HL1.out
            (fun W c _ hb => neigh_pred (some ad) c0 l0 W (Kd.C_below (Kd.C_below HR0.out HW.out.nb.bl) hb) w.heap.size Bk k hkl ((hb.cell (p := ⟨w.heap.size, 0, none⟩) (World.block_lt_of_cell? wr ⟨w.heap.size, 0, none⟩ x0)).trans x0) ((hb.cell (p := ⟨Bk, 0, none⟩) (World.block_lt_of_cell? wr ⟨Bk, 0, none⟩ x1)).trans x1) c))
          obtain ⟨b, hb⟩ : ∃ b, b = shB a l0[k] := ⟨_, rfl⟩
          have HSB := Aside0.mk hb
          have HCF2 := Aside0.mk (show Calls Try.prog 73 #[.slice X1 a.f1.length d1, .func (.func 79) #[] #[.pointer (some ⟨w.heap.size, 0, none⟩), .pointer (some ⟨Bk, 0, none⟩)]] wr fun e w' => e = .returned (.bool b) ∧ Below wr.heap.size wr w' by rw [hb]; exact HCF.out)
          clear hb hR HCF HR2
          cases b with
          | false =>
            go_wp2_with (go_at_call 73; refine HCF2.out.mono ?_; rintro e w2 ⟨rfl, hb2⟩; have HW2 := Aside0.mk (HW.out.go hb2); clear HW x0 x1 x2 hb2; have x1 : w2.cell? ⟨Bk, 0, none⟩ = some (.int .i64 (k : Int)) := HW2.out.kk.cell 0)
            go_roundg gi
            case measure => omega
            case rel => exact ⟨k + 1, w2.heap.size, out, by first | rfl | (simp; done), ⟨by have := HG2.out; omega⟩, ⟨by have e := HW2.out.next; rwa [show ((k + 1 : Nat) : Int) = (k : Int) + 1 by omega]⟩, ⟨by have := HOL.out; omega⟩, ⟨by have e := HR3.out; rwa [if_neg (by rw [← HSB.out]; simp)] at e⟩⟩
          | true =>
            go_wp2_with (first | (go_at_call 73; refine HCF2.out.mono ?_; rintro e w2 ⟨rfl, hb2⟩; have HW2 := Aside0.mk (HW.out.go hb2); clear HW x0 x1 x2 hb2; have x1 : w2.cell? ⟨Bk, 0, none⟩ = some (.int .i64 (k : Int)) := HW2.out.kk.cell 0) | ((with_reducible refine gate_builtin (b := .append) (xs := #[.tmp 27, .tmp 31]) rfl ?_); at_builtin; refine Kd.S_append KR (w0 := w) w.heap.size rfl (.tmp 27) (.tmp 31) 37 24 (.slice none 0 0) 24 rfl Try.underlying37 info24 rfl (by decide) (by omega) u3 out [(i : Int), (k : Int)] [.slice (some ⟨w2.heap.size, 0, none⟩) 2 2] (fun _ => True) (fun q => q = w2.heap.size) rfl (by show Value.slice (some ⟨w2.heap.size + 1, 0, none⟩) 1 1 = _; simp) (HW2.out.hp i k) HW2.out.hokp (fun _ _ => trivial) (HW2.out.ho _) (below_alloc HW2.out.nb.bl _) (Nat.le_trans HW2.out.nb.bl.size (by simp)) ?hl1 ?_; (case hl1 => have := HOL.out; have := HG2.out; have := HG.out; omega); intro v7 w7 hs7 hb7 hg7 hat7; have HW7 := Aside0.mk (HW2.out.app hs7 hb7 hg7); clear HW2 x1 hs7 hb7 hg7 hat7; have x1 : w7.cell? ⟨Bk, 0, none⟩ = some (.int .i64 (k : Int)) := HW7.out.kk.cell 0))
            go_roundg gi
            case measure => omega
            case rel => exact ⟨k + 1, w7.heap.size, out ++ [[(i : Int), (k : Int)]], by first | rfl | (simp; done), ⟨by have := HG2.out; omega⟩, ⟨by have e := HW7.out.next; rwa [show ((k + 1 : Nat) : Int) = (k : Int) + 1 by omega]⟩, ⟨by have := HOL.out; simp; omega⟩, ⟨by have e := HR3.out; rw [if_pos (by rw [← HSB.out])] at e; simpa using e⟩⟩
        · have hke : k = l0.length := by omega
          have e3 : decide ((k : Int) < (l0.length : Int)) = false := decide_eq_false (by omega)
          have e4 : decide (k < l0.length) = false := decide_eq_false (by omega)
          have hR := HR2.out
          rw [List.drop_eq_nil_of_le (by omega), rowK, List.nil_append] at hR
          have HR3 := Aside0.mk hR
          have HKE := Aside0.mk hke
          clear HR2 hR hke
          go_wp2_with fail
          go_roundg gm
          case measure => omega
          case rel => exact ⟨i + 1, out, by first | rfl | (simp; done), ⟨by have := HG.out; omega⟩, ⟨HW.out.nb⟩, ⟨HW.out.k0⟩, ⟨by have := HOL.out; have := HKE.out; have := HN.out; omega⟩, HR3⟩
    · have e1 : decide ((i : Int) < (l0.length : Int)) = false := decide_eq_false (by omega)
      have e4 : decide (i < l0.length) = false := decide_eq_false (by omega)
      have hR := HR.out
      rw [List.drop_eq_nil_of_le (by omega), neighL, List.append_nil] at hR
      have HR3 := Aside0.mk hR
      clear HR hR
      go_wp2_with fail
      go_ret
      exact ⟨_, rfl, by rw [← HR3.out]; exact HNB.out.rs, HNB.out.bl⟩
end Go.Proofs.Ytdeenfpcmaadcaa.Pr

/- What the reference's reNext computes: all two regions with two points in common. -/
namespace Go.Proofs.Ytdeenfpcmaadcaa.M
open Go.RowKit Go.Proofs.YtdeenfpcmaadcaaW.PrintWords Go.Proofs.Ytdeenfpcmaadcaa.Pr
def rowR (a : List Int) (i : Nat) : Nat → List (List Int) → List (List Int)
  | _, [] => []
  | k, b :: r => if comN a b = 2 then [(i : Int), (k : Int)] :: rowR a i (k + 1) r else rowR a i (k + 1) r
def neighR : Nat → List (List Int) → List (List Int)
  | _, [] => []
  | i, a :: r => rowR a i (i + 1) r ++ neighR (i + 1) r
theorem rd_rw (l : List (List Int)) (i : Nat) (h : i < l.length) : rd_L4 l (i : Int) = l[i] := by
  unfold rd_L4
  simp [List.getD_eq_getElem?_getD, List.getElem?_eq_getElem h]
theorem comN_succ (a b : List Int) (t : Nat) (h : t < b.length) : comN a (b.take (t + 1)) = comN a (b.take t) + (if a.contains b[t] = true then 1 else 0) := by
  unfold comN
  rw [List.take_succ_eq_append_getElem h, List.countP_append, List.countP_singleton]
theorem comN_le (a b : List Int) : comN a b ≤ b.length := List.countP_le_length
end Go.Proofs.Ytdeenfpcmaadcaa.M
namespace Go.Proofs.Ytdeenfpcmaadcaa.Pr
open Go.RowKit Go.Proofs.YtdeenfpcmaadcaaW.PrintWords Go.Proofs.YtdeenfpcmaadcaaW.PrintLast Go.Proofs.YtdeenfpcmaadcaaW.PrintMore
set_option linter.unusedVariables false
set_option linter.unusedSimpArgs false
def spec_reNext.f (a0 : Int) (l1 : List S47) : Option (List (List Int)) := (spec_reList.f a0 l1).bind fun rs => if rs.length ≤ 1000 ∧ ∀ r ∈ rs, r.length ≤ 1000000 then some (M.neighR 0 rs) else none
/-- What is held in the loops: the rows that are read, and those so far. -/
structure RN (w W : World) (N0 : Nat) (Ar : Option Addr) (cr : Nat) (rs : List (List Int)) (vo : Value) (out : List (List Int)) : Prop where
  bl : Below w.heap.size w W
  hn : N0 ≤ W.heap.size
  rs : Kd.S KR 24 W w.heap.size (fun k => k < N0) (.slice Ar rs.length cr) rs
  out : Kd.S KR 24 W w.heap.size (fun k => N0 ≤ k) vo out
section
variable {w W W' w7 : World} {N0 : Nat} {Ar : Option Addr} {cr : Nat} {rs out out' : List (List Int)} {vo v7 : Value}
theorem RN.go (h : RN w W N0 Ar cr rs vo out) (hb : Below W.heap.size W W') : RN w W' N0 Ar cr rs vo out := ⟨below_step h.bl hb, Nat.le_trans h.hn hb.size, Kd.S_below h.rs hb, Kd.S_below h.out hb⟩
theorem RN.at (h : RN w W N0 Ar cr rs vo out) {j : Nat} (hj : j < rs.length) : ∃ ad A0 c0, Ar = some ad ∧ W.cell? (ad.add j) = some (.slice A0 rs[j].length c0) ∧ KI.R 3 W w.heap.size (fun k => k < N0) (.slice A0 rs[j].length c0) rs[j] := by
  obtain ⟨ad, _, _, e, _, _, _⟩ := at_L4 (Kd.S_reads' h.rs).2.2 (j : Int) (by omega) (by omega)
  subst e
  obtain ⟨c2, hc2, hM, hcell⟩ := Kd.S_get h.rs [] (j : Int) (by omega) (by omega)
  rw [Int.toNat_natCast, show rs.getD j [] = rs[j] by simp [List.getD_eq_getElem?_getD, List.getElem?_eq_getElem hj]] at hM
  obtain ⟨v', rfl, hR⟩ := hM
  obtain ⟨A0, c0, e3⟩ := Kd.R_slice hR
  subst e3
  have z := hcell 0 _ rfl
  rw [Int.toNat_natCast, Nat.add_zero, show KR.sz = 1 from rfl, Nat.mul_one] at z
  exact ⟨ad, A0, c0, rfl, z, Kd.R_mono hR (fun k hk => hk.1)⟩
/-- A row that is read goes on being as it was. -/
theorem RN.row {A : Option Addr} {c : Nat} {a : List Int} {o : Obj} (h : RN w W N0 Ar cr rs vo out) (hr : KI.R 3 W w.heap.size (fun k => k < N0) (.slice A a.length c) a) (hg : (W.alloc o).grownBy w7 vo.ownBlock) : KI.R 3 w7 w.heap.size (fun k => k < N0) (.slice A a.length c) a :=
  Kd.R_grown (Kd.R_alloc hr o) hg (fun k hk e => by
    obtain ⟨f, q, _⟩ := h.out
    have := q k e.symm
    omega)
theorem RN.app {o : Obj} (h : RN w W N0 Ar cr rs vo out) (hs : Kd.S KR 24 w7 w.heap.size (fun k => N0 ≤ k) v7 out') (hb : Below w.heap.size w w7) (hg : (W.alloc o).grownBy w7 vo.ownBlock) : RN w w7 N0 Ar cr rs v7 out' := by
  have h2 := h.go (below_alloc (Below.refl _ _) o)
  refine ⟨hb, Nat.le_trans h2.hn hg.size, Kd.S_grown h2.rs hg (fun k hk e => ?_), hs⟩
  obtain ⟨f, q, _⟩ := h2.out
  have := q k e.symm
  omega
theorem RN.hp (h : RN w W N0 Ar cr rs vo out) (i j : Int) : KR.M (W.alloc (.cells #[.int .i64 i, .int .i64 j] 3)) w.heap.size (fun q => q = W.heap.size) [i, j] [.slice (some ⟨W.heap.size, 0, none⟩) 2 2] := ⟨_, rfl, pair_lit h.bl.size i j⟩
theorem RN.hokp (h : RN w W N0 Ar cr rs vo out) : ∀ q, q = W.heap.size → N0 ≤ q ∧ some q ≠ vo.ownBlock := fun q hq => ⟨by have := h.hn; omega, fun e => by
  have := Kd.S_lt h.out q e.symm
  omega⟩
theorem RN.ho (h : RN w W N0 Ar cr rs vo out) (o : Obj) : Kd.S KR 24 (W.alloc o) w.heap.size (fun q => N0 ≤ q ∧ ¬ q = W.heap.size) vo out := Kd.S_mono (Kd.S_old h.out (below_alloc (Below.refl _ _) o)) (fun q hq => ⟨hq.1, by have := hq.2; omega⟩)
end
set_option maxHeartbeats 4000000 in
set_option maxRecDepth 100000 in
theorem spec_reNext.calls (a0 : Int) (A1 : Option Addr) (c1 : Nat) (l1 : List S47) (r : List (List Int)) (w : World) (hr1 : Kd.C k47 w A1 l1.length l1) (hc1 : l1.length ≤ c1) (h : spec_reNext.f a0 l1 = some r) :
    Calls Try.prog 56 #[.int .i64 a0, .slice A1 l1.length c1] w fun e w' => ∃ v0_ : Value, e = .returned (v0_) ∧ Kd.S (Kd.slice 3 (Kd.int .i64)) 24 w' w.heap.size (fun _ => True) v0_ r ∧ Below w.heap.size w w' := by
  obtain ⟨rs, hrs, h⟩ := Option.bind_eq_some_iff.mp h
  by_cases hq : rs.length ≤ 1000 ∧ ∀ r ∈ rs, r.length ≤ 1000000
  rotate_left
  · rw [if_neg hq] at h; cases h
  rw [if_pos hq] at h
  have HR := Aside0.mk (Option.some.inj h)
  have HC := Aside0.mk (spec_reList.calls a0 A1 c1 l1 rs w hr1 hc1 hrs)
  have HQ := Aside0.mk hq.2
  have hn : rs.length ≤ 1000 := hq.1
  clear h hr1 hc1 hrs hq
  go_enter Try.func56, Try.ntmps56
  go_wp2_with (go_at_call 33; refine HC.out.mono ?_; rintro e w2 ⟨v0, rfl, hs, hb⟩; obtain ⟨Ar, cr, ev⟩ := Kd.S_slice hs; subst ev; have HW := Aside0.mk (show RN w w2 w2.heap.size Ar cr rs (.slice none 0 0) [] from ⟨hb, Nat.le_refl _, Kd.S_mono (Kd.S_bound hs) (fun k hk => hk.2.2.1), Kd.S_nil _ _ _ _ _⟩); clear hs hb HC)
  generalize w2.heap.size = N0 at HW ⊢
  obtain ⟨N, hN⟩ : ∃ N, N = rs.length := ⟨_, rfl⟩
  go_loopg [6, 18] N (fun gg v6 v18 W => ∃ (i : Nat) (out : List (List Int)), v18 = .int .i64 i ∧ Aside0 (i + gg = N) ∧ Aside0 (RN w W N0 Ar cr rs v6 out) ∧ Aside0 (out.length ≤ i * 1000) ∧ Aside0 (out ++ M.neighR i (rs.drop i) = r))
  case atStart => exact ⟨0, [], by first | rfl | (simp; done), ⟨by omega⟩, HW, ⟨by simp⟩, ⟨by simpa using HR.out⟩⟩
  case round =>
    clear HW HR
    obtain ⟨i, out, rfl, HG, HW, HOL, HR⟩ := hrel
    by_cases hi : i < N
    · have hil : i < rs.length := by omega
      have e1 : decide ((i : Int) < (rs.length : Int)) = true := decide_eq_true (by omega)
      have e1' : decide (i < rs.length) = true := decide_eq_true hil
      have e2 : IntKind.i64.wrap ((i : Int) + 1) = ((i + 1 : Nat) : Int) := by
        rw [i64_w]
        exact M.w64 (by omega) (by omega)
      obtain ⟨gm, rfl⟩ : ∃ gm, gk = gm + 1 := ⟨gk - 1, by have := HG.out; omega⟩
      obtain ⟨ad, Aa, ca, eA, y0, hra⟩ := HW.out.at hil
      subst eA
      obtain ⟨a, ha⟩ : ∃ a, a = rs[i] := ⟨_, rfl⟩
      rw [← ha] at y0 hra
      have hR := HR.out
      rw [List.drop_eq_getElem_cons hil, ← ha, M.neighR] at hR
      have HR2 := Aside0.mk hR
      have HLA := Aside0.mk (show a.length ≤ 1000000 from HQ.out a (by rw [ha]; exact List.getElem_mem hil))
      have HA := Aside0.mk hra
      clear hR HR ha hra
      go_upto_block 2 with fail
      clear y0
      go_wp2_with fail
      obtain ⟨M0, hM0⟩ : ∃ M0, M0 = N - (i + 1) := ⟨_, rfl⟩
      go_loopg [6, 9] M0 (fun gg v6 v9 W => ∃ (j : Nat) (out : List (List Int)), v9 = .int .i64 j ∧ Aside0 (j + gg = N) ∧ Aside0 (RN w W N0 (some ad) cr rs v6 out) ∧ Aside0 (KI.R 3 W w.heap.size (fun k => k < N0) (.slice Aa a.length ca) a) ∧ Aside0 (out.length ≤ i * 1000 + j) ∧ Aside0 (out ++ (M.rowR a i j (rs.drop j) ++ M.neighR (i + 1) (rs.drop (i + 1))) = r))
      case atStart => exact ⟨i + 1, out, by first | rfl | (simp; done), ⟨by omega⟩, HW, HA, ⟨by have := HOL.out; omega⟩, HR2⟩
      case round =>
        clear HW HA HOL HR2
        obtain ⟨j, out, rfl, HG2, HW, HA, HOL, HR2⟩ := hrel
        by_cases hj : j < N
        · have hjl : j < rs.length := by omega
          have e3 : decide ((j : Int) < (rs.length : Int)) = true := decide_eq_true (by omega)
          have e3' : decide (j < rs.length) = true := decide_eq_true hjl
          have e4 : IntKind.i64.wrap ((j : Int) + 1) = ((j + 1 : Nat) : Int) := by
            rw [i64_w]
            exact M.w64 (by omega) (by omega)
          obtain ⟨gi, rfl⟩ : ∃ gi, gk = gi + 1 := ⟨gk - 1, by have := HG2.out; omega⟩
          obtain ⟨ad2, Ab, cb, eA, y0, hrb⟩ := HW.out.at hjl
          injection eA with eA
          subst eA
          obtain ⟨b, hb⟩ : ∃ b, b = rs[j] := ⟨_, rfl⟩
          rw [← hb] at y0 hrb
          have hR := HR2.out
          rw [List.drop_eq_getElem_cons hjl, ← hb, M.rowR] at hR
          have HR3 := Aside0.mk hR
          have HLB := Aside0.mk (show b.length ≤ 1000000 from HQ.out b (by rw [hb]; exact List.getElem_mem hjl))
          have HBr := Aside0.mk hrb
          clear hR HR2 hb hrb
          go_upto_block 4 with fail
          clear y0
          go_wp2_with fail
          obtain ⟨M1, hM1⟩ : ∃ M1, M1 = b.length := ⟨_, rfl⟩
          go_loopg [10, 36] M1 (fun gg v10 v36 W => ∃ (t : Nat), v10 = .int .i64 (M.comN a (b.take t)) ∧ v36 = .int .i64 t ∧ Aside0 (t + gg = M1) ∧ Aside0 (RN w W N0 (some ad) cr rs u6 out) ∧ Aside0 (KI.R 3 W w.heap.size (fun k => k < N0) (.slice Aa a.length ca) a) ∧ Aside0 (KI.R 3 W w.heap.size (fun k => k < N0) (.slice Ab b.length cb) b))
          case atStart => exact ⟨0, by simp [M.comN], by first | rfl | (simp; done), ⟨by omega⟩, HW, HA, HBr⟩
          case round =>
            clear HW HA HBr
            obtain ⟨t, rfl, rfl, HG3, HW, HA, HBr⟩ := hrel
            have hbl := HLB.out
            have hcl : M.comN a (b.take t) ≤ b.length := Nat.le_trans (M.comN_le _ _) (by rw [List.length_take]; exact Nat.min_le_right _ _)
            by_cases ht : t < M1
            · have htl : t < b.length := by omega
              have e5 : decide ((t : Int) < (b.length : Int)) = true := decide_eq_true (by omega)
              have e5' : decide (t < b.length) = true := decide_eq_true htl
              have e6 : IntKind.i64.wrap ((t : Int) + 1) = ((t + 1 : Nat) : Int) := by
                rw [i64_w]
                exact M.w64 (by omega) (by omega)
              have e7 : IntKind.i64.wrap ((M.comN a (b.take t) : Int) + 1) = (M.comN a (b.take t) : Int) + 1 := by
                rw [i64_w]
                exact M.w64 (by omega) (by omega)
              obtain ⟨gt, rfl⟩ : ∃ gt, gk = gt + 1 := ⟨gk - 1, by have := HG3.out; omega⟩
              obtain ⟨ad3, eA3, y3⟩ := Kd.at_int (Kd.R_reads' HBr.out).2.2 (t : Int) (by omega) (by omega)
              rw [M.rd_int b t htl, Int.toNat_natCast] at y3
              subst eA3
              have hsuc := M.comN_succ a b t htl
              obtain ⟨x, hx⟩ : ∃ x, x = b[t] := ⟨_, rfl⟩
              rw [← hx] at y3 hsuc
              have HCa := Aside0.mk (has_calls Aa ca a x wr (Kd.R_reads' HA.out).2.2 (Kd.R_reads' HA.out).2.1 HLA.out)
              have HS := Aside0.mk hsuc
              obtain ⟨n, hn2⟩ : ∃ n, n = M.comN a (b.take t) := ⟨_, rfl⟩
              rw [← hn2] at e7 HS ⊢
              clear hx hsuc hbl hcl hn2
              cases hcx : a.contains x with
              | true =>
                rw [hcx] at HCa HS
                clear hcx
                go_wp2_with (go_at_call 45; refine (calls_drawn HCa.out).mono ?_; rintro e w3 ⟨rfl, hb3⟩; have HW3 := Aside0.mk (HW.out.go hb3); have HA3 := Aside0.mk (Kd.R_below HA.out hb3); have HB3 := Aside0.mk (Kd.R_below HBr.out hb3); clear HW HA HBr HCa y3 hb3)
                go_roundg gt
                case measure => omega
                case rel => exact ⟨t + 1, by rw [HS.out]; simp, by first | rfl | (simp; done), ⟨by have := HG3.out; omega⟩, HW3, HA3, HB3⟩
              | false =>
                rw [hcx] at HCa HS
                clear hcx
                go_wp2_with (go_at_call 45; refine (calls_drawn HCa.out).mono ?_; rintro e w3 ⟨rfl, hb3⟩; have HW3 := Aside0.mk (HW.out.go hb3); have HA3 := Aside0.mk (Kd.R_below HA.out hb3); have HB3 := Aside0.mk (Kd.R_below HBr.out hb3); clear HW HA HBr HCa y3 hb3)
                go_roundg gt
                case measure => omega
                case rel => exact ⟨t + 1, by rw [HS.out]; simp, by first | rfl | (simp; done), ⟨by have := HG3.out; omega⟩, HW3, HA3, HB3⟩
            · have hte : t = b.length := by have := HG3.out; omega
              have e5 : decide ((t : Int) < (b.length : Int)) = false := decide_eq_false (by omega)
              have e5' : decide (t < b.length) = false := decide_eq_false (by omega)
              rw [hte, List.take_length]
              obtain ⟨n, hn2⟩ : ∃ n, n = M.comN a b := ⟨_, rfl⟩
              rw [← hn2]
              have hR := HR3.out
              rw [← hn2] at hR
              clear hcl hbl hn2 hte HR3 HBr
              by_cases h2 : n = 2
              · rw [if_pos h2] at hR
                have HR4 := Aside0.mk hR
                subst h2
                clear hR
                go_wp2_with ((with_reducible refine gate_builtin (b := .append) (xs := #[.tmp 48, .tmp 52]) rfl ?_); at_builtin; refine Kd.S_append KR (w0 := w) w.heap.size rfl (.tmp 48) (.tmp 52) 37 24 (.slice none 0 0) 24 rfl Try.underlying37 info24 rfl (by decide) (by omega) u6 out [(i : Int), (j : Int)] [.slice (some ⟨wr.heap.size, 0, none⟩) 2 2] (fun k => N0 ≤ k) (fun q => q = wr.heap.size) rfl (by show Value.slice (some ⟨wr.heap.size + 1, 0, none⟩) 1 1 = _; simp) (HW.out.hp i j) HW.out.hokp (fun k hk => Nat.le_trans HW.out.hn (by simp at hk; omega)) (HW.out.ho _) (below_alloc HW.out.bl _) (Nat.le_trans HW.out.bl.size (by simp)) ?hl1 ?_; (case hl1 => have := HOL.out; have := HG2.out; have := HG.out; omega); intro v7 w7 hs7 hb7 hg7 hat7; have HW7 := Aside0.mk (HW.out.app hs7 hb7 hg7); have HA7 := Aside0.mk (HW.out.row HA.out hg7); clear HW HA hs7 hb7 hg7 hat7)
                go_roundg gi
                case measure => omega
                case rel => exact ⟨j + 1, out ++ [[(i : Int), (j : Int)]], by first | rfl | (simp; done), ⟨by have := HG2.out; omega⟩, HW7, HA7, ⟨by have := HOL.out; simp; omega⟩, ⟨by have e := HR4.out; simpa using e⟩⟩
              · rw [if_neg h2] at hR
                have HR4 := Aside0.mk hR
                have e8 : ((n : Int) == 2) = false := beq_eq_false_iff_ne.mpr (by omega)
                have e8' : (n == 2) = false := beq_eq_false_iff_ne.mpr h2
                clear hR h2
                go_wp2_with fail
                go_roundg gi
                case measure => omega
                case rel => exact ⟨j + 1, out, by first | rfl | (simp; done), ⟨by have := HG2.out; omega⟩, HW, HA, ⟨by have := HOL.out; omega⟩, HR4⟩
        · have hje : j = rs.length := by have := HG2.out; omega
          have e3 : decide ((j : Int) < (rs.length : Int)) = false := decide_eq_false (by omega)
          have e3' : decide (j < rs.length) = false := decide_eq_false (by omega)
          have hR := HR2.out
          rw [List.drop_eq_nil_of_le (by omega), M.rowR, List.nil_append] at hR
          have HR3 := Aside0.mk hR
          have HJE := Aside0.mk hje
          clear HR2 hR hje
          go_wp2_with fail
          go_roundg gm
          case measure => omega
          case rel => exact ⟨i + 1, out, by first | rfl | (simp; done), ⟨by have := HG.out; omega⟩, HW, ⟨by have := HOL.out; have := HJE.out; omega⟩, HR3⟩
    · have e1 : decide ((i : Int) < (rs.length : Int)) = false := decide_eq_false (by omega)
      have e1' : decide (i < rs.length) = false := decide_eq_false (by omega)
      have hR := HR.out
      rw [List.drop_eq_nil_of_le (by omega), M.neighR, List.append_nil] at hR
      have HR3 := Aside0.mk hR
      clear HR hR
      go_wp2_with fail
      go_ret
      exact ⟨_, rfl, by rw [← HR3.out]; exact Kd.S_mono HW.out.out (fun _ _ => trivial), HW.out.bl⟩
end Go.Proofs.Ytdeenfpcmaadcaa.Pr

-- Written by a program for this claim.
namespace Go.Proofs.Ytdeenfpcmaadcaa.Pr
open Go.RowKit Go.Proofs.YtdeenfpcmaadcaaW.PrintWords Go.Proofs.YtdeenfpcmaadcaaW.PrintLast Go.Proofs.YtdeenfpcmaadcaaW.PrintMore
attribute [local go_sem] max2_int min2_int max_two min_two max_three min_three max_four min_four   -- for this text's walks alone
set_option linter.unusedVariables false
set_option linter.unusedSimpArgs false

/-! ### spec_NextRegions: function 30 -/
def spec_NextRegions.f (k : Nat) (a0 : Int) (l1 : List (S47)) : Option ((List (List Int)) × Bool) := (spec_rePlane.f k a0 l1).bind fun t213 => (if t213 = true then ((spec_reNext.f a0 l1).bind fun t214 => (some (t214, true))) else (some (([] : List (List Int)), false)))
theorem spec_NextRegions.mono : ∀ a0 a1 k, LeO (spec_NextRegions.f k a0 a1) (spec_NextRegions.f (k + 1) a0 a1) := by
  intro a0 a1 k
  unfold spec_NextRegions.f
  repeat' first
      | (with_reducible exact spec_rePlane.mono _ _ _)
      | (with_reducible exact LeO.refl _)
      | (with_reducible exact LeO.none _)
      | (with_reducible refine LeO.ite ?_ ?_)
      | (with_reducible refine LeO.bind ?_ (fun _ => ?_))
      | exact spec_rePlane.mono _ _ _
      | exact LeO.none _
      | refine LeO.ite ?_ ?_
      | refine LeO.bind ?_ (fun _ => ?_)
set_option maxHeartbeats 8000000 in
set_option maxRecDepth 100000 in
theorem spec_NextRegions.calls (k : Nat) (a0 : Int) (A1 : Option Addr) (c1 : Nat) (l1 : List (S47)) (r1 : List (List Int)) (r2 : Bool) (w : World) (hr1 : Kd.C k47 w A1 l1.length l1) (hc1 : l1.length ≤ c1) (h : spec_NextRegions.f k a0 l1 = some (r1, r2)) :
    Calls Try.prog 30 #[.int .i64 a0, .slice A1 l1.length c1] w fun e w' => ∃ v0_ : Value, e = .returned (.tuple #[v0_, .bool r2]) ∧ Kd.S (Kd.slice 3 (Kd.int .i64)) 24 w' w.heap.size (fun _ => True) v0_ r1 ∧ Below w.heap.size w w' := by
  have HR1 := Aside0.mk hr1
  have HC1 := Aside0.mk hc1
  clear hr1 hc1
  have HB := Aside0.mk (Below.refl w.heap.size w)
  have H : ((spec_rePlane.f k a0 l1).bind fun t213 => (if t213 = true then ((spec_reNext.f a0 l1).bind fun t214 => (some (t214, true))) else (some (([] : List (List Int)), false)))) = some (r1, r2) := h
  clear h
  replace H := Option.bind_eq_some_iff.mp H
  obtain ⟨t213, A30, H⟩ := H
  replace H : (if t213 = true then ((spec_reNext.f a0 l1).bind fun t214 => (some (t214, true))) else (some (([] : List (List Int)), false))) = some (r1, r2) := H
  have A3 := Aside0.mk A30
  clear A30
  by_cases c4 : t213 = true
  · subst c4
    have H1 : ((spec_reNext.f a0 l1).bind fun t214 => (some (t214, true))) = some (r1, r2) := by rw [if_pos rfl] at H; exact H
    clear H
    have H := H1
    clear H1
    replace H := Option.bind_eq_some_iff.mp H
    obtain ⟨t214, A50, H⟩ := H
    replace H : (some (t214, true)) = some (r1, r2) := H
    have A5 := Aside0.mk A50
    clear A50
    simp only [Option.some.injEq, Prod.mk.injEq] at H
    obtain ⟨rfl, rfl⟩ := H
    go_enter Try.func30, Try.ntmps30
    go_wp2_with (first | ((with_reducible refine gate_callee (f := 32) rfl ?_); refine goesL_ (some 8) rfl rfl Try.func32 (by kernel_rfl) rfl #[.int .i64 a0, .slice A1 l1.length c1] rfl (by (try simp only [List.map_toArray, List.map_cons, List.map_nil]); first | done | rfl | (simp only [List.length_drop, List.length_take]; rfl)) ?_; (with_reducible refine (spec_rePlane.calls k a0 _ _ l1 true _ ?side1 ?side2 A3.out).mono ?_); (case side1 => repeat (first | exact HR1.out | (with_reducible refine Kd.C_alloc ?_ _) | (with_reducible refine Kd.C_drewN ?_ _) | (with_reducible refine Kd.C_drew ?_))); (case side2 => exact HC1.out); rintro e w6 ⟨rfl, hb⟩; refine ⟨_, rfl, ?_⟩; have n0_ := Aside0.mk (below_step (by repeat (first | (with_reducible first | exact HB.out | apply below_alloc | apply pw_below_drewN | apply below_drew1) | exact HB.out)) hb); clear HB; have HB := n0_; clear n0_; (try clear hb); (try clear hb2); (try clear hk); (try clear hi)) | ((with_reducible refine gate_callee (f := 56) rfl ?_); refine goesL_ (some 12) rfl rfl Try.func56 (by kernel_rfl) rfl #[.int .i64 a0, .slice A1 l1.length c1] rfl (by (try simp only [List.map_toArray, List.map_cons, List.map_nil]); first | done | rfl | (simp only [List.length_drop, List.length_take]; rfl)) ?_; (with_reducible refine (spec_reNext.calls a0 _ _ l1 t214 _ ?side1 ?side2 A5.out).mono ?_); (case side1 => repeat (first | exact (Kd.C_below HR1.out HB.out) | (with_reducible refine Kd.C_alloc ?_ _) | (with_reducible refine Kd.C_drewN ?_ _) | (with_reducible refine Kd.C_drew ?_))); (case side2 => exact HC1.out); rintro e w7 ⟨v215, rfl, ho0, hb⟩; refine ⟨_, rfl, ?_⟩; have n0_ := Aside0.mk (Kd.S_lower ho0 (below_size (by repeat (first | (with_reducible first | exact HB.out | apply below_alloc | apply pw_below_drewN | apply below_drew1) | exact HB.out)))); have n1_ := Aside0.mk (below_step (by repeat (first | (with_reducible first | exact HB.out | apply below_alloc | apply pw_below_drewN | apply below_drew1) | exact HB.out)) hb); clear HB; have HO216 := n0_; have HB := n1_; clear n0_ n1_; (try clear hb); (try clear hb2); (try clear hk); (try clear hi); (try clear ho0)))
    go_ret2
    exact ⟨_, by first | rfl | (simp [errW_none, errW_some] <;> rfl) | (simp [*, errW_none, errW_some] <;> rfl), by (with_reducible repeat (first | apply Kd.S_alloc | apply Kd.S_drewN | apply Kd.S_drew)); exact HO216.out, by repeat (first | (with_reducible first | exact HB.out | apply below_alloc | apply pw_below_drewN | apply below_drew1) | exact HB.out)⟩
  · replace c4 := Bool.eq_false_iff.mpr c4
    subst c4
    have H1 : (some (([] : List (List Int)), false)) = some (r1, r2) := by rw [if_neg (show ¬ (false = true) by decide)] at H; exact H
    clear H
    have H := H1
    clear H1
    simp only [Option.some.injEq, Prod.mk.injEq] at H
    obtain ⟨rfl, rfl⟩ := H
    go_enter Try.func30, Try.ntmps30
    go_wp2_with (first | ((with_reducible refine gate_callee (f := 32) rfl ?_); refine goesL_ (some 8) rfl rfl Try.func32 (by kernel_rfl) rfl #[.int .i64 a0, .slice A1 l1.length c1] rfl (by (try simp only [List.map_toArray, List.map_cons, List.map_nil]); first | done | rfl | (simp only [List.length_drop, List.length_take]; rfl)) ?_; (with_reducible refine (spec_rePlane.calls k a0 _ _ l1 false _ ?side1 ?side2 A3.out).mono ?_); (case side1 => repeat (first | exact HR1.out | (with_reducible refine Kd.C_alloc ?_ _) | (with_reducible refine Kd.C_drewN ?_ _) | (with_reducible refine Kd.C_drew ?_))); (case side2 => exact HC1.out); rintro e w8 ⟨rfl, hb⟩; refine ⟨_, rfl, ?_⟩; have n0_ := Aside0.mk (below_step (by repeat (first | (with_reducible first | exact HB.out | apply below_alloc | apply pw_below_drewN | apply below_drew1) | exact HB.out)) hb); clear HB; have HB := n0_; clear n0_; (try clear hb); (try clear hb2); (try clear hk); (try clear hi)))
    go_ret2
    exact ⟨_, by first | rfl | (simp [errW_none, errW_some] <;> rfl) | (simp [*, errW_none, errW_some] <;> rfl), by first | exact Kd.S_nil _ _ _ _ _ | exact Kd.N_nil _ _ _ _ _ | exact Kd.V_nil _ _ _ _ _ | exact Kd.Q_nil _ _ _ _ _ | exact Kd.R_nil _ _ _ _ _, by repeat (first | (with_reducible first | exact HB.out | apply below_alloc | apply pw_below_drewN | apply below_drew1) | exact HB.out)⟩

end Go.Proofs.Ytdeenfpcmaadcaa.Pr

-- Written by a program for this claim.
namespace Go.Proofs.Ytdeenfpcmaadcaa.Pr
open Go.RowKit Go.Proofs.YtdeenfpcmaadcaaW.PrintWords Go.Proofs.YtdeenfpcmaadcaaW.PrintLast Go.Proofs.YtdeenfpcmaadcaaW.PrintMore
attribute [local go_sem] max2_int min2_int max_two min_two max_three min_three max_four min_four   -- for this text's walks alone
set_option linter.unusedVariables false
set_option linter.unusedSimpArgs false

/-! ### slices_Compare_int_int: function 66 -/
def slices_Compare_int_int.l0 : Nat → List Int → List Int → List Int → Int → Int → Option (Int)
  | 0, _, _, _, _, _ => none
  | k + 1, x0, x1, x9, x10, x11 => if x11 < x10 then (if 0 ≤ x11 then (if x11 < (x9.length : Int) then (if x11 ≥ (x1.length : Int) then (some 1) else (if x11 < (x1.length : Int) then ((cmp_Compare_int.f (rd x9 x11) (rd x1 x11)).bind fun t148 => (if t148 = 0 then (slices_Compare_int_int.l0 k x0 x1 x9 x10 (wrap64 (x11 + 1))) else (some t148))) else (none))) else (none)) else (none)) else (if (x0.length : Int) < (x1.length : Int) then (some (-1)) else (some 0))
def slices_Compare_int_int.f (k : Nat) (l0 : List Int) (l1 : List Int) : Option (Int) := slices_Compare_int_int.l0 k l0 l1 l0 (l0.length : Int) 0
theorem slices_Compare_int_int.mono_l : ∀ k, (∀ y0 y1 y2 y3 y4, LeO (slices_Compare_int_int.l0 k y0 y1 y2 y3 y4) (slices_Compare_int_int.l0 (k + 1) y0 y1 y2 y3 y4))
  | 0 => fun _ _ _ _ _ r h => by simp [slices_Compare_int_int.l0] at h
  | k + 1 => by
    have ih0 := slices_Compare_int_int.mono_l k
    · intro y0 y1 y2 y3 y4
      unfold slices_Compare_int_int.l0
      repeat' first
      | (with_reducible exact ih0 _ _ _ _ _)
      | (with_reducible exact LeO.refl _)
      | (with_reducible exact LeO.none _)
      | (with_reducible refine LeO.ite ?_ ?_)
      | (with_reducible refine LeO.bind ?_ (fun _ => ?_))
      | exact ih0 _ _ _ _ _
      | exact LeO.none _
      | refine LeO.ite ?_ ?_
      | refine LeO.bind ?_ (fun _ => ?_)
theorem slices_Compare_int_int.mono : ∀ a0 a1 k, LeO (slices_Compare_int_int.f k a0 a1) (slices_Compare_int_int.f (k + 1) a0 a1) := by
  intro a0 a1 k
  have ih0 := slices_Compare_int_int.mono_l k
  unfold slices_Compare_int_int.f
  repeat' first
      | (with_reducible exact ih0 _ _ _ _ _)
      | (with_reducible exact LeO.refl _)
      | (with_reducible exact LeO.none _)
      | (with_reducible refine LeO.ite ?_ ?_)
      | (with_reducible refine LeO.bind ?_ (fun _ => ?_))
      | exact ih0 _ _ _ _ _
      | exact LeO.none _
      | refine LeO.ite ?_ ?_
      | refine LeO.bind ?_ (fun _ => ?_)
set_option maxHeartbeats 8000000 in
set_option maxRecDepth 100000 in
theorem slices_Compare_int_int.calls (k : Nat) (A0 : Option Addr) (c0 : Nat) (l0 : List Int) (A1 : Option Addr) (c1 : Nat) (l1 : List Int) (r : Int) (w : World) (hr0 : Kd.C (Kd.int .i64) w A0 l0.length l0) (hc0 : l0.length ≤ c0) (hr1 : Kd.C (Kd.int .i64) w A1 l1.length l1) (hc1 : l1.length ≤ c1) (h : slices_Compare_int_int.f k l0 l1 = some r) :
    Calls Try.prog 66 #[.slice A0 l0.length c0, .slice A1 l1.length c1] w fun e w' => e = .returned (.int .i64 r) ∧ Drawn0 w w' := by
  have HR0 := Aside0.mk hr0
  have HC0 := Aside0.mk hc0
  clear hr0 hc0
  have HR1 := Aside0.mk hr1
  have HC1 := Aside0.mk hc1
  clear hr1 hc1
  have H : (slices_Compare_int_int.l0 k l0 l1 l0 (l0.length : Int) 0) = some r := h
  clear h
  have H' := Aside0.mk H
  clear H
  go_enter Try.func66, Try.ntmps66
  go_wp2
  go_loopg [11] k (fun kq v11 w' => ∃ (x11_1 : Int), v11 = .int .i64 x11_1 ∧ Aside0 (slices_Compare_int_int.l0 kq l0 l1 l0 (l0.length : Int) x11_1 = some r) ∧ Aside0 (kq ≤ k) ∧ Drawn0 w w')
  case atStart => exact ⟨(0), (by first | rfl | (simp; done) | (simp [*]; done)), H', ⟨Nat.le_refl _⟩, by repeat (first | exact Drawn0.refl _ | apply Drawn0.step)⟩
  case round =>
    clear H'
    try clear c1
    try clear p2
    obtain ⟨x11_1, rfl, HA, HK1, ⟨m1, rfl⟩⟩ := hrel
    cases gk with
    | zero => exact absurd HA.out (by simp [slices_Compare_int_int.l0])
    | succ k1 =>
      have H := HA.out
      clear HA
      simp only [slices_Compare_int_int.l0] at H
      by_cases c3 : x11_1 < (l0.length : Int)
      · rw [if_pos c3] at H
        have c3b0 : decide (x11_1 < (l0.length : Int)) = true := decide_eq_true c3
        clear c3
        by_cases c4 : 0 ≤ x11_1
        · rw [if_pos c4] at H
          have c4b0 : decide (0 ≤ x11_1) = true := decide_eq_true c4
          clear c4
          by_cases c5 : x11_1 < (l0.length : Int)
          · rw [if_pos c5] at H
            have c5b0 : decide (x11_1 < (l0.length : Int)) = true := decide_eq_true c5
            clear c5
            by_cases c6 : x11_1 ≥ (l1.length : Int)
            · rw [if_pos c6] at H
              have c6b0 : decide ((l1.length : Int) ≤ x11_1) = true := decide_eq_true c6
              clear c6
              obtain rfl := Option.some.inj H
              have p146 : 0 ≤ (x11_1 : Int) := of_decide_eq_true (by first | (with_reducible assumption) | assumption)
              have q146 : x11_1 < (l0.length : Int) := of_decide_eq_true (by first | (with_reducible assumption) | assumption)
              obtain ⟨ad146, e146, hx146_0⟩ := Kd.at_int HR0.out x11_1 p146 q146
              cases e146
              replace p146 := eq_true p146
              replace q146 := eq_true q146
              go_wp2
              go_ret
              exact ⟨by first | rfl | (simp; done) | (simp [*]; done), by repeat (first | exact Drawn0.refl _ | apply Drawn0.step)⟩
            · rw [if_neg c6] at H
              have c6b0 : decide ((l1.length : Int) ≤ x11_1) = false := decide_eq_false c6
              clear c6
              by_cases c7 : x11_1 < (l1.length : Int)
              · rw [if_pos c7] at H
                have c7b0 : decide (x11_1 < (l1.length : Int)) = true := decide_eq_true c7
                clear c7
                replace H := Option.bind_eq_some_iff.mp H
                obtain ⟨t148, A80, H⟩ := H
                replace H : (if t148 = 0 then (slices_Compare_int_int.l0 k1 l0 l1 l0 (l0.length : Int) (wrap64 (x11_1 + 1))) else (some t148)) = some r := H
                have A8 := Aside0.mk A80
                clear A80
                by_cases c9 : t148 = 0
                · rw [if_pos c9] at H
                  have c9b0 : (t148 == 0) = true := beq_iff_eq.mpr c9
                  have c9b1 : (t148 != 0) = false := bne_eq_false_iff_eq.mpr c9
                  clear c9
                  have H' := Aside0.mk H
                  clear H
                  have p146 : 0 ≤ (x11_1 : Int) := of_decide_eq_true (by first | (with_reducible assumption) | assumption)
                  have q146 : x11_1 < (l0.length : Int) := of_decide_eq_true (by first | (with_reducible assumption) | assumption)
                  obtain ⟨ad146, e146, hx146_0⟩ := Kd.at_int HR0.out x11_1 p146 q146
                  cases e146
                  replace p146 := eq_true p146
                  replace q146 := eq_true q146
                  have p147 : 0 ≤ (x11_1 : Int) := of_decide_eq_true (by first | (with_reducible assumption) | assumption)
                  have q147 : x11_1 < (l1.length : Int) := of_decide_eq_true (by first | (with_reducible assumption) | assumption)
                  obtain ⟨ad147, e147, hx147_0⟩ := Kd.at_int HR1.out x11_1 p147 q147
                  cases e147
                  replace p147 := eq_true p147
                  replace q147 := eq_true q147
                  go_wp2_with (first | ((with_reducible refine gate_callee (f := 86) rfl ?_); refine goesL_ (some 26) rfl rfl Try.func86 (by kernel_rfl) rfl #[.int .i64 (rd l0 x11_1), .int .i64 (rd l1 x11_1)] rfl (by (try simp only [List.map_toArray, List.map_cons, List.map_nil]); first | done | rfl | (simp only [List.length_drop, List.length_take]; rfl)) ?_; (with_reducible refine (cmp_Compare_int.calls (rd l0 x11_1) (rd l1 x11_1) t148 _ A8.out).mono ?_); rintro e w' ⟨rfl, ⟨nd, rfl⟩⟩; refine ⟨_, rfl, ?_⟩))
                  go_roundg k1
                  case measure => have := HK1.out; omega
                  case rel => exact ⟨(wrap64 (x11_1 + 1)), (by first | rfl | (simp; done) | (simp [*]; done)), H', ⟨by have := HK1.out; omega⟩, by repeat (first | exact Drawn0.refl _ | apply Drawn0.step)⟩
                · rw [if_neg c9] at H
                  have c9b0 : (t148 == 0) = false := beq_eq_false_iff_ne.mpr c9
                  have c9b1 : (t148 != 0) = true := bne_iff_ne.mpr c9
                  obtain rfl := Option.some.inj H
                  have p146 : 0 ≤ (x11_1 : Int) := of_decide_eq_true (by first | (with_reducible assumption) | assumption)
                  have q146 : x11_1 < (l0.length : Int) := of_decide_eq_true (by first | (with_reducible assumption) | assumption)
                  obtain ⟨ad146, e146, hx146_0⟩ := Kd.at_int HR0.out x11_1 p146 q146
                  cases e146
                  replace p146 := eq_true p146
                  replace q146 := eq_true q146
                  have p147 : 0 ≤ (x11_1 : Int) := of_decide_eq_true (by first | (with_reducible assumption) | assumption)
                  have q147 : x11_1 < (l1.length : Int) := of_decide_eq_true (by first | (with_reducible assumption) | assumption)
                  obtain ⟨ad147, e147, hx147_0⟩ := Kd.at_int HR1.out x11_1 p147 q147
                  cases e147
                  replace p147 := eq_true p147
                  replace q147 := eq_true q147
                  go_wp2_with (first | ((with_reducible refine gate_callee (f := 86) rfl ?_); refine goesL_ (some 26) rfl rfl Try.func86 (by kernel_rfl) rfl #[.int .i64 (rd l0 x11_1), .int .i64 (rd l1 x11_1)] rfl (by (try simp only [List.map_toArray, List.map_cons, List.map_nil]); first | done | rfl | (simp only [List.length_drop, List.length_take]; rfl)) ?_; (with_reducible refine (cmp_Compare_int.calls (rd l0 x11_1) (rd l1 x11_1) t148 _ A8.out).mono ?_); rintro e w' ⟨rfl, ⟨nd, rfl⟩⟩; refine ⟨_, rfl, ?_⟩))
                  go_ret
                  exact ⟨by first | rfl | (simp; done) | (simp [*]; done), by repeat (first | exact Drawn0.refl _ | apply Drawn0.step)⟩
              · rw [if_neg c7] at H
                exact absurd H (by simp)
          · rw [if_neg c5] at H
            exact absurd H (by simp)
        · rw [if_neg c4] at H
          exact absurd H (by simp)
      · rw [if_neg c3] at H
        have c3b0 : decide (x11_1 < (l0.length : Int)) = false := decide_eq_false c3
        clear c3
        by_cases c10 : (l0.length : Int) < (l1.length : Int)
        · rw [if_pos c10] at H
          have c10b0 : decide ((l0.length : Int) < (l1.length : Int)) = true := decide_eq_true c10
          have c10b1 : decide (l0.length < l1.length) = true := decide_eq_true (Int.ofNat_lt.mp c10)
          clear c10
          obtain rfl := Option.some.inj H
          go_wp2
          go_ret
          exact ⟨by first | rfl | (simp; done) | (simp [*]; done), by repeat (first | exact Drawn0.refl _ | apply Drawn0.step)⟩
        · rw [if_neg c10] at H
          have c10b0 : decide ((l0.length : Int) < (l1.length : Int)) = false := decide_eq_false c10
          have c10b1 : decide (l0.length < l1.length) = false := decide_eq_false (fun h => c10 (Int.ofNat_lt.mpr h))
          clear c10
          obtain rfl := Option.some.inj H
          go_wp2
          go_ret
          exact ⟨by first | rfl | (simp; done) | (simp [*]; done), by repeat (first | exact Drawn0.refl _ | apply Drawn0.step)⟩

end Go.Proofs.Ytdeenfpcmaadcaa.Pr

/- What the comparison of two regions says: which row of points is ahead. -/
namespace Go.Proofs.Ytdeenfpcmaadcaa.M
open Go.RowKit Go.Proofs.YtdeenfpcmaadcaaW.PrintWords Go.Proofs.Ytdeenfpcmaadcaa.Pr
set_option linter.unusedVariables false
set_option linter.unusedSimpArgs false
def cmpL (a b : List Int) : Int := if lexB a b = true then -1 else if lexB b a = true then 1 else 0
theorem cmpI_eq (a b : Int) : cmp_Compare_int.f a b = some (if a < b then -1 else if a > b then 1 else 0) := by
  unfold cmp_Compare_int.f
  simp only [cmp_isNaN_int.f, Option.bind_some]
  split <;> rename_i h1 <;> (try split) <;> (try split) <;> (try split) <;> simp_all <;> omega
theorem cmpL_l0 (a b : List Int) (ha : a.length ≤ 1000000) : ∀ (d i : Nat), i + d = a.length → i ≤ b.length → a.take i = b.take i → Ev (fun k => slices_Compare_int_int.l0 k a b a (a.length : Int) (i : Int)) (cmpL a b)
  | 0, i, h, hb, he => by
    obtain rfl : i = a.length := by omega
    rw [List.take_length] at he
    refine Ev.step (fun k => by rw [slices_Compare_int_int.l0]) ?_
    refine Ev.neg (by omega) ?_
    obtain ⟨c, hc⟩ : ∃ c, b = a ++ c := ⟨b.drop a.length, by
      have e := (List.take_append_drop a.length b).symm
      rwa [← he] at e⟩
    subst hc
    cases c with
    | nil =>
      refine Ev.neg (by simp) (Ev.val ?_)
      rw [List.append_nil, cmpL, lexB_irrefl, if_neg (by decide), if_neg (by decide)]
    | cons x c =>
      refine Ev.pos (by rw [List.length_append, List.length_cons]; omega) (Ev.val ?_)
      have e := lexB_app [] (x :: c) a
      rw [List.append_nil] at e
      rw [cmpL, e]
      rfl
  | d + 1, i, h, hb, he => by
    have hi : i < a.length := by omega
    have hra := rd_int a i hi
    have ea : a = a.take i ++ a[i] :: a.drop (i + 1) := by rw [← List.drop_eq_getElem_cons hi, List.take_append_drop]
    refine Ev.step (fun k => by rw [slices_Compare_int_int.l0]) ?_
    refine Ev.pos (by omega) (Ev.pos (by omega) (Ev.pos (by omega) ?_))
    by_cases hib : i = b.length
    · refine Ev.pos (by omega) (Ev.val ?_)
      have eb : b = a.take i := by rw [he, hib, List.take_length]
      have e := lexB_app (a[i] :: a.drop (i + 1)) [] (a.take i)
      rw [List.append_nil, ← ea, ← eb] at e
      have e2 := lexB_app [] (a[i] :: a.drop (i + 1)) (a.take i)
      rw [List.append_nil, ← ea, ← eb] at e2
      rw [cmpL, e, e2]
      rfl
    · have hib2 : i < b.length := by omega
      have hrb := rd_int b i hib2
      have eb : b = a.take i ++ b[i] :: b.drop (i + 1) := by rw [he, ← List.drop_eq_getElem_cons hib2, List.take_append_drop]
      have e : lexB a b = lexB (a[i] :: a.drop (i + 1)) (b[i] :: b.drop (i + 1)) := by
        conv => lhs; rw [ea, eb]
        exact lexB_app _ _ _
      have e2 : lexB b a = lexB (b[i] :: b.drop (i + 1)) (a[i] :: a.drop (i + 1)) := by
        conv => lhs; rw [ea, eb]
        exact lexB_app _ _ _
      refine Ev.neg (by omega) (Ev.pos (by omega) (Ev.bindc (cmpI_eq _ _) ?_))
      rw [hra, hrb]
      by_cases hx : a[i] = b[i]
      · refine Ev.pos (by rw [if_neg (by omega), if_neg (by omega)]) ?_
        rw [w64 (by omega) (by omega)]
        have ih := cmpL_l0 a b ha d (i + 1) (by omega) (by omega) (by rw [List.take_succ_eq_append_getElem hi, List.take_succ_eq_append_getElem hib2, he, hx])
        rw [show ((i + 1 : Nat) : Int) = (i : Int) + 1 by omega] at ih
        exact ih
      · by_cases hl : a[i] < b[i]
        · refine Ev.neg (by rw [if_pos hl]; decide) (Ev.val ?_)
          rw [cmpL, e, lexB, if_neg hx, if_pos hl, if_pos (by simpa using hl)]
        · refine Ev.neg (by rw [if_neg hl, if_pos (by omega)]; decide) (Ev.val ?_)
          have q1 : lexB a b = false := by rw [e, lexB, if_neg hx]; simpa using hl
          have q2 : lexB b a = true := by rw [e2, lexB, if_neg (Ne.symm hx)]; simp; omega
          rw [cmpL, q1, q2, if_neg hl, if_pos (by omega), if_neg (by decide), if_pos rfl]
theorem cmpL_ev (a b : List Int) (ha : a.length ≤ 1000000) : Ev (fun k => slices_Compare_int_int.f k a b) (cmpL a b) := by
  unfold slices_Compare_int_int.f
  exact cmpL_l0 a b ha a.length 0 (by omega) (by omega) rfl
end Go.Proofs.Ytdeenfpcmaadcaa.M
namespace Go.Proofs.Ytdeenfpcmaadcaa.Pr
open Go.RowKit Go.Proofs.YtdeenfpcmaadcaaW.PrintWords Go.Proofs.YtdeenfpcmaadcaaW.PrintLast Go.Proofs.YtdeenfpcmaadcaaW.PrintMore
set_option linter.unusedVariables false
set_option linter.unusedSimpArgs false
def Gw (w w' : World) : Prop := ∃ q os', w' = Sort.grow (w.drewN q) os'
theorem Gw.refl (w : World) : Gw w w := ⟨0, #[], by simp [Sort.grow, World.drewN]⟩
theorem Gw.drewN {w w' : World} (h : Gw w w') (n : Nat) : Gw w (w'.drewN n) := by
  obtain ⟨q, os, rfl⟩ := h
  exact ⟨q + n, os, by simp [Sort.grow, World.drewN, Nat.add_assoc]⟩
theorem Gw.alloc {w w' : World} (h : Gw w w') (o : Obj) : Gw w (w'.alloc o) := by
  obtain ⟨q, os, rfl⟩ := h
  exact ⟨q, os ++ #[o], by rw [Sort.alloc_eq_grow, Sort.grow_grow]⟩
set_option maxHeartbeats 4000000 in
set_option maxRecDepth 100000 in
theorem cmpR_calls (A B : Option Addr) (c e : Nat) (a b : List Int) (v1 v2 u1 u2 : Value) (W : World) (ha : Kd.C (Kd.int .i64) W A a.length a) (hc : a.length ≤ c) (hb : Kd.C (Kd.int .i64) W B b.length b) (he : b.length ≤ e) (hl : a.length ≤ 1000000) (o1 : v1.oneCell' = true) (o2 : v2.oneCell' = true) (p1 : u1.oneCell' = true) (p2 : u2.oneCell' = true) :
    Calls Try.prog 65 #[.agg #[.slice A a.length c, v1, v2], .agg #[.slice B b.length e, u1, u2]] W fun x w' => x = .returned (.int .i64 (M.cmpL a b)) ∧ Gw W w' := by
  have hu := Try.underlying54
  have HA := Aside0.mk ha
  have HB := Aside0.mk hb
  have HC := Aside0.mk (show a.length ≤ c ∧ b.length ≤ e from ⟨hc, he⟩)
  obtain ⟨K, hK⟩ := M.cmpL_ev a b hl
  have HK := Aside0.mk (hK K (Nat.le_refl K))
  clear ha hb hc he hK hl
  go_enter Try.func65, Try.ntmps65
  go_wp2_with (go_at_call 66; refine (slices_Compare_int_int.calls K A c a B e b (M.cmpL a b) _ (Kd.C_below (Kd.C_below HA.out (below_alloc (Below.refl _ _) _)) (below_alloc (Below.refl _ _) _)) HC.out.1 (Kd.C_below (Kd.C_below HB.out (below_alloc (Below.refl _ _) _)) (below_alloc (Below.refl _ _) _)) HC.out.2 HK.out).mono ?_; rintro x w' ⟨rfl, ⟨nd, rfl⟩⟩)
  go_ret
  exact ⟨rfl, (((Gw.refl W).alloc _).alloc _).drewN _⟩
end Go.Proofs.Ytdeenfpcmaadcaa.Pr

/-
  DERIVED: THE SHELF's CONTRACTS AT THIS DUMP, IN PLAIN WORDS (tools/lay-plain.mjs out of 'YtdeenfpcmaadcaaSortRgLay.lean', which tools/lay-shelf.mjs wrote): THE SAME DECLARATIONS UNDER THE SAME NAMES: 'import', 'namespace', 'open', 'def', 'theorem' AND NOTHING ELSE: no command of the shelf's: FOR A HAND-IN. Each laying: the table of numbers ('.._ren') and one theorem, a field a fact of the dump's own or the kernel's comparison; each contract: ONE APPLICATION.
-/
namespace Go.Proofs
open Go.Shelf
def Try.sortRg_ren : Go.Shelf.Ren := ⟨fun | 6 => 64 | 15 => 85 | 14 => 84 | 28 => 103 | 29 => 104 | 20 => 95 | 21 => 96 | 22 => 97 | 23 => 98 | 24 => 99 | 25 => 100 | 26 => 101 | 27 => 102 | 46 => 114 | 47 => 115 | 48 => 116 | 49 => 117 | 50 => 118 | 57 => 122 | n => n, fun | 22 => 50 | 24 => 54 | 25 => 75 | 3 => 3 | 39 => 83 | 0 => 0 | 53 => 97 | 55 => 99 | 4 => 4 | 46 => 91 | 45 => 90 | 50 => 34 | 5 => 5 | 9 => 9 | 66 => 105 | 70 => 109 | 76 => 113 | 77 => 114 | n => n, fun | n => n⟩
theorem Try.sortRg : Go.Proofs.SlLaysF0.n6 Try.prog Try.sortRg_ren := {
  mixed := by kernel_rfl
  f6 := ⟨Try.f64.name, by decide, Try.func64.trans (congrArg some (by kernel_rfl))⟩
  f14 := ⟨Try.f84.name, by decide, Try.func84.trans (congrArg some (by kernel_rfl))⟩
  f15 := Try.func85.trans (congrArg some (by kernel_rfl))
  f20 := ⟨Try.f95.name, by decide, Try.func95.trans (congrArg some (by kernel_rfl))⟩
  f21 := ⟨Try.f96.name, by decide, Try.func96.trans (congrArg some (by kernel_rfl))⟩
  f22 := ⟨Try.f97.name, by decide, Try.func97.trans (congrArg some (by kernel_rfl))⟩
  f23 := ⟨Try.f98.name, by decide, Try.func98.trans (congrArg some (by kernel_rfl))⟩
  f24 := ⟨Try.f99.name, by decide, Try.func99.trans (congrArg some (by kernel_rfl))⟩
  f25 := ⟨Try.f100.name, by decide, Try.func100.trans (congrArg some (by kernel_rfl))⟩
  f26 := ⟨Try.f101.name, by decide, Try.func101.trans (congrArg some (by kernel_rfl))⟩
  f27 := ⟨Try.f102.name, by decide, Try.func102.trans (congrArg some (by kernel_rfl))⟩
  f28 := Try.func103.trans (congrArg some (by kernel_rfl))
  f29 := Try.func104.trans (congrArg some (by kernel_rfl))
  f46 := ⟨Try.f114.name, by decide, Try.func114.trans (congrArg some (by kernel_rfl))⟩
  f47 := Try.func115.trans (congrArg some (by kernel_rfl))
  f48 := Try.func116.trans (congrArg some (by kernel_rfl))
  f49 := ⟨Try.f117.name, by decide, Try.func117.trans (congrArg some (by kernel_rfl))⟩
  f50 := ⟨Try.f118.name, by decide, Try.func118.trans (congrArg some (by kernel_rfl))⟩
  f57 := ⟨Try.f122.name, by decide, Try.func122.trans (congrArg some (by kernel_rfl))⟩
  t0 := Try.underlying0
  a0 := Try.isAgg0
  z0 := Try.sizeOf0
  v0 := Try.zeroValue0
  t3 := Try.underlying3
  a3 := Try.isAgg3
  z3 := Try.sizeOf3
  v3 := Try.zeroValue3
  t4 := Try.underlying4
  a4 := Try.isAgg4
  z4 := Try.sizeOf4
  v4 := Try.zeroValue4
  t5 := Try.underlying5
  a5 := Try.isAgg5
  z5 := Try.sizeOf5
  v5 := Try.zeroValue5
  t9 := Try.underlying9
  a9 := Try.isAgg9
  z9 := Try.sizeOf9
  v9 := Try.zeroValue9
  t22 := Try.underlying50
  a22 := Try.isAgg50
  z22 := Try.sizeOf50
  v22 := Try.zeroValue50
  t25 := Try.underlying75
  a25 := Try.isAgg75
  z25 := Try.sizeOf75
  v25 := Try.zeroValue75
  t39 := Try.underlying83
  a39 := Try.isAgg83
  z39 := Try.sizeOf83
  v39 := Try.zeroValue83
  t45 := Try.underlying90
  a45 := Try.isAgg90
  z45 := Try.sizeOf90
  v45 := Try.zeroValue90
  t46 := Try.underlying91
  a46 := Try.isAgg91
  z46 := Try.sizeOf91
  v46 := Try.zeroValue91
  t50 := Try.underlying34
  a50 := Try.isAgg34
  z50 := Try.sizeOf34
  v50 := Try.zeroValue34
  t53 := Try.underlying97
  a53 := Try.isAgg97
  z53 := Try.sizeOf97
  v53 := Try.zeroValue97
  t55 := Try.underlying99
  a55 := Try.isAgg99
  z55 := Try.sizeOf99
  v55 := Try.zeroValue99
  t66 := Try.underlying105
  a66 := Try.isAgg105
  z66 := Try.sizeOf105
  v66 := Try.zeroValue105
  t70 := Try.underlying109
  a70 := Try.isAgg109
  z70 := Try.sizeOf109
  v70 := Try.zeroValue109
  t76 := Try.underlying113
  a76 := Try.isAgg113
  z76 := Try.sizeOf113
  v76 := Try.zeroValue113
  t77 := Try.underlying114
  a77 := Try.isAgg114
  z77 := Try.sizeOf114
  v77 := Try.zeroValue114 }
end Go.Proofs

/- The sort of a row of regions: the row in the order of the points. -/
namespace Go.Proofs.Ytdeenfpcmaadcaa.Pr
open Go.RowKit Go.Sort Go.Lib Go.Proofs.YtdeenfpcmaadcaaW.PrintWords Go.Proofs.YtdeenfpcmaadcaaW.PrintLast Go.Proofs.YtdeenfpcmaadcaaW.PrintMore
set_option linter.unusedVariables false
set_option linter.unusedSimpArgs false
abbrev SR := S54
/-- The regions in order. -/
def sortR (xs : List SR) : List SR := xs.mergeSort fun x y => !(M.lexB y.f0 x.f0)
theorem cmpL_lt (a b : List Int) : decide (M.cmpL a b < 0) = M.lexB a b := by
  unfold M.cmpL
  cases h : M.lexB a b with
  | true => simp
  | false =>
    cases M.lexB b a with
    | true => simp
    | false => simp
theorem kept_world {α : Type} {enc : α → List Value} [Inhabited α] {w : World} {g m k : Nat} {dk : Array α} {os : Array Obj} (q : Nat) (hq : q ≠ g) (hl : q < w.heap.size) : (sortWorldK enc k w g 0 m dk os).heap[q]? = w.heap[q]? := by
  show ((putRowK enc k (Sort.ahead w m) g 0 dk).heap ++ os)[q]? = _
  rw [Array.getElem?_append_left (by rw [size_putRowK]; exact hl)]
  show (w.heap.modify g (onCells (putCells id 0 _)))[q]? = _
  rw [Array.getElem?_modify, if_neg (fun e => hq e.symm)]
theorem below_sortWorld {α : Type} {enc : α → List Value} [Inhabited α] {w : World} {base g m k : Nat} {dk : Array α} {os : Array Obj} (hg : base ≤ g) (hB : base ≤ w.heap.size) : Below base w (sortWorldK enc k w g 0 m dk os) := by
  refine ((below_ahead m).trans (below_putRow (flatK enc k dk) hg)).trans (below_grow os ?_)
  rw [show (putRow id (Sort.ahead w m) g 0 (flatK enc k dk)).heap.size = w.heap.size from by simp [putRow, mapBlock, Sort.ahead]]
  exact hB
theorem sort_any {T : Type} [Inhabited T] (enc : T → List Value) (hel : ∀ x, (enc x).length = 3) (heo : ∀ x, ∀ u ∈ enc x, u.oneCell' = true) (cf : T → T → Int) (hO : SWO (ltOf cf)) (g cap : Nat) (d : Array T) (w : World) (hcmp : Go.Proofs.CmpLays Try.prog 65 #[] enc 3 cf g 0 d.size w) (hH : HoldsK enc 3 w g 0 d) (hg : g < w.heap.size) (hsz : d.size < 4611686018427387904) (hT : ∀ x y, ltOf cf x y = false → ltOf cf y x = false → x = y) :
    Calls Try.prog 64 #[.slice (some ⟨g, 0, none⟩) d.size cap, .func (.func 65) #[] #[]] w fun e w' => e = .returned (.tuple #[]) ∧ ∃ n os, w' = sortWorldK enc 3 w g 0 n (d.toList.mergeSort fun x y => !(ltOf cf) y x).toArray os := by
  have h := AnyQ.slices_SortFunc_total Try.sortRg 3 (fun w => Try.isAgg54 w) (fun w => Try.sizeOf54 w) enc hel heo cf hO 65 #[] g 0 cap d w (enters_of Try.func65 (by kernel_rfl) rfl) hcmp hH hg hsz hT
  exact h
set_option maxHeartbeats 400000 in
theorem sort_region (base : Nat) (ok : Nat → Prop) (v : Value) (xs : List SR) (w : World) (h : Kd.S k54 54 w base ok v xs) (hB : base ≤ w.heap.size) (hx : xs ≠ []) (hxl : xs.length ≤ 1000000) (hl : ∀ x ∈ xs, x.f0.length ≤ 1000000) (hd : (xs.map (·.f0)).Nodup) :
    Calls Try.prog 64 #[v, .func (.func 65) #[] #[]] w fun e w' => e = .returned (.tuple #[]) ∧ Kd.S k54 54 w' base ok v (sortR xs) ∧ Below base w w' := by
  rcases S_open h with ⟨rfl, h0⟩ | ⟨f, g, cap, cur, cs, rfl, hok, hg, hb, hn, hm, hs, hz, hM, hc⟩
  · exact absurd h0 hx
  have hcl : cs.length = xs.length := by
    have e := congrArg List.length hz
    rwa [List.length_map, List.length_zipIdx] at e
  have hgs : g < w.heap.size := (Array.getElem?_eq_some_iff.1 hb).1
  have hsz : k54.sz = 3 := rfl
  have hz1 : cs.map (·.2.1) = xs := by
    have e := congrArg (List.map Prod.fst) hz
    rw [List.map_map, List.zipIdx_map_fst] at e
    exact e
  have hz2 : (cs.map (·.2.2)).Nodup := by
    have e := congrArg (List.map Prod.snd) hz
    rw [List.map_map, List.zipIdx_map_snd] at e
    have e2 : cs.map (·.2.2) = List.range' 0 xs.length := e
    rw [e2]
    exact List.nodup_range' ..
  have hz3 : (cs.map (·.2.1.f0)).Nodup := by
    rw [← hz1, List.map_map] at hd
    exact hd
  have hne : cs ≠ [] := fun e => hx (by rw [e] at hcl; exact List.eq_nil_of_length_eq_zero hcl.symm)
  obtain ⟨c0, hc0⟩ := List.exists_mem_of_ne_nil cs hne
  let T := {c : CE SR // c ∈ cs}
  letI : Inhabited T := ⟨⟨c0, hc0⟩⟩
  let enc : T → List Value := fun c => c.1.1
  let cf : T → T → Int := fun a b => M.cmpL a.1.2.1.f0 b.1.2.1.f0
  have hel : ∀ x, (enc x).length = 3 := fun x => k54.K_len (k54.K_of_M (hM x.1 x.2))
  have heo : ∀ x, ∀ u ∈ enc x, u.oneCell' = true := fun x => k54.K_one (k54.K_of_M (hM x.1 x.2))
  have hlt : ∀ a b : T, ltOf cf a b = M.lexB a.1.2.1.f0 b.1.2.1.f0 := fun a b => cmpL_lt _ _
  have hO : SWO (ltOf cf) := {
    irrefl := fun x => by rw [hlt]; exact M.lexB_irrefl _
    trans := fun x y z h1 h2 => by rw [hlt] at *; exact M.lexB_trans _ _ _ h1 h2
    ntrans := fun x y z h1 h2 => by rw [hlt] at *; exact M.lexB_ge_trans h2 h1 }
  have hT : ∀ x y : T, ltOf cf x y = false → ltOf cf y x = false → x = y := fun x y h1 h2 => by
    rw [hlt] at h1 h2
    have e := M.lexB_tri _ _ h1 h2
    apply Subtype.ext
    obtain ⟨i, hi, e1⟩ := List.getElem_of_mem x.2
    obtain ⟨j, hj, e2⟩ := List.getElem_of_mem y.2
    have hij : i = j := by
      have hp := List.pairwise_iff_getElem.1 hz3
      rcases Nat.lt_trichotomy i j with q | q | q
      · exact absurd (by rw [List.getElem_map, List.getElem_map, e1, e2]; exact e) (hp i j (by rw [List.length_map]; exact hi) (by rw [List.length_map]; exact hj) q)
      · exact q
      · exact absurd (by rw [List.getElem_map, List.getElem_map, e1, e2]; exact e.symm) (hp j i (by rw [List.length_map]; exact hj) (by rw [List.length_map]; exact hi) q)
    subst hij
    rw [← e1, ← e2]
  have hda : cs.attach.toArray.size = xs.length := by simp [hcl]
  have hH : HoldsK enc 3 w g 0 cs.attach.toArray := fun j hj => by
    have hj0 : j < cs.attach.toArray.size * 3 := by rw [size_flatK] at hj; exact hj
    have hj' : j < cs.length * 3 := by rw [hda] at hj0; rw [hcl]; exact hj0
    rw [Nat.zero_add]
    refine ⟨?_, blk_frozen hb j⟩
    rw [get_flatK _ _ _ _ hj0]
    have hd3 : j / 3 < cs.length := by omega
    have e : cs.attach.toArray[j / 3]! = ⟨cs[j / 3], List.getElem_mem hd3⟩ := by
      rw [getElem!_pos _ _ (by rw [hda, ← hcl]; exact hd3)]
      simp
    rw [e]
    have h1 := hc (j / 3) (by rw [List.length_map]; exact hd3) (j % 3) (Nat.mod_lt _ (by decide))
    rw [List.getElem_map, hsz, show j / 3 * 3 + j % 3 = j by omega] at h1
    rw [h1]
    have h2 := hel ⟨cs[j / 3], List.getElem_mem hd3⟩
    have h3 : j % 3 < (enc ⟨cs[j / 3], List.getElem_mem hd3⟩).length := by rw [h2]; exact Nat.mod_lt _ (by decide)
    show (enc ⟨cs[j / 3], List.getElem_mem hd3⟩)[j % 3]? = some (enc ⟨cs[j / 3], List.getElem_mem hd3⟩)[j % 3]!
    rw [getElem!_pos (enc ⟨cs[j / 3], List.getElem_mem hd3⟩) (j % 3) h3, List.getElem?_eq_getElem h3]
  have hcmp : Go.Proofs.CmpLays Try.prog 65 #[] enc 3 cf g 0 cs.attach.toArray.size w := fun m os dk hsd x y => by
    obtain ⟨v0, v1, v2, ex, r0, r1, r2⟩ := k54_openM (hM x.1 x.2)
    obtain ⟨u0, u1, u2, ey, s0, s1, s2⟩ := k54_openM (hM y.1 y.2)
    obtain ⟨A, c, rfl⟩ := Kd.R_slice r0
    obtain ⟨B, e, rfl⟩ := Kd.R_slice s0
    have t0 := Kd.R_step (w1 := sortWorldK enc 3 w g 0 m dk os) r0 (fun k hk hlt => kept_world k hk.1.2 hlt)
    have t1 := Kd.R_step (w1 := sortWorldK enc 3 w g 0 m dk os) s0 (fun k hk hlt => kept_world k hk.1.2 hlt)
    have hq := cmpR_calls A B c e x.1.2.1.f0 y.1.2.1.f0 v1 v2 u1 u2 (sortWorldK enc 3 w g 0 m dk os) (Kd.R_reads' t0).2.2 (Kd.R_reads' t0).2.1 (Kd.R_reads' t1).2.2 (Kd.R_reads' t1).2.1
      (hl _ (by rw [← hz1]; exact List.mem_map.2 ⟨x.1, x.2, rfl⟩)) (Kd.R_val r1).2 (Kd.R_val r2).2 (Kd.R_val s1).2 (Kd.R_val s2).2
    have ea : (#[.agg (enc x).toArray, .agg (enc y).toArray] ++ #[] : Array Value) = #[.agg #[.slice A x.1.2.1.f0.length c, v1, v2], .agg #[.slice B y.1.2.1.f0.length e, u1, u2]] := by
      rw [show enc x = _ from ex, show enc y = _ from ey]
      rfl
    rw [ea]
    exact hq.mono fun _ _ h => h
  have hsort := sort_any enc hel heo cf hO g cap cs.attach.toArray w hcmp hH hgs (by rw [hda]; omega) hT
  rw [hda] at hsort
  refine hsort.mono ?_
  rintro e w' ⟨rfl, n, os, hw⟩
  refine ⟨rfl, ?_, hw ▸ below_sortWorld hg hB⟩
  obtain ⟨ds, hds⟩ : ∃ ds, ds = cs.attach.mergeSort fun x y => !(ltOf cf) y x := ⟨_, rfl⟩
  have hw2 : w' = sortWorldK enc 3 w g 0 n ds.toArray os := by rw [hw, hds]
  have hpm : ds.Perm cs.attach := by rw [hds]; exact List.mergeSort_perm _ _
  have hdl : ds.length = xs.length := by rw [hpm.length_eq, List.length_attach, hcl]
  have hH1 : HoldsK enc 3 w' g 0 ds.toArray := by
    rw [hw2]
    exact Go.Proofs.holdsK_sortWorldK_c enc 3 w g 0 cs.attach.toArray ds.toArray n os hH hgs (by rw [hda]; simp [hdl])
  have hb1 : w'.heap[g]? = some (.cells (putCells id 0 (flatK enc 3 ds.toArray) cur) 54 (0, 0)) := by
    rw [hw2]
    show ((putRowK enc 3 (Sort.ahead w n) g 0 ds.toArray).heap ++ os)[g]? = _
    rw [Array.getElem?_append_left (by rw [size_putRowK]; exact hgs)]
    exact blk_putRow (w := Sort.ahead w n) (flatK enc 3 ds.toArray) hb
  have hS := S_shut (d := k54) (e := 54) (W := w') (base := base) (g := g) (cap := cap) (ok := ok) (cs := ds.map (·.1)) (f := f) hok hg hb1 (by rw [List.length_map, hdl]; exact hn) hm (by rw [size_putCells_id]; exact hs)
    (by
      have e : (cs.attach.map (·.1)).map (·.2.2) = cs.map (·.2.2) := by rw [List.attach_map_subtype_val]
      exact (((hpm.map (·.1)).map (·.2.2)).nodup_iff).2 (by rw [e]; exact hz2))
    (fun c hcm => by
      obtain ⟨t, ht, rfl⟩ := List.mem_map.1 hcm
      refine Kd.M_step (hM t.1 t.2) (fun k hk hlt => ?_)
      rw [hw2]
      exact kept_world k hk.1.2 hlt)
    (fun j hj i hi => by
      simp only [List.length_map] at hj
      have h1 := (HoldsK.cell hH1 (show j < ds.toArray.size by simpa using hj) (show i < 3 from hi)).1
      rw [Nat.zero_add, getElem!_pos ds.toArray j (by simpa using hj)] at h1
      have e1 : ds.toArray[j]'(by simpa using hj) = ds[j] := by simp
      rw [e1, getElem!_pos (enc ds[j]) i (by rw [hel]; exact hi)] at h1
      rw [show k54.sz = 3 from rfl, h1]
      simp only [List.getElem_map]
      exact (List.getElem?_eq_getElem (by rw [hel]; exact hi)).symm)
  have e1 : (ds.map (·.1)).map (·.2.1) = sortR xs := by
    rw [hds, List.map_map]
    have e2 := List.map_mergeSort (r := fun x y : T => !(ltOf cf) y x) (s := fun x y : SR => !(M.lexB y.f0 x.f0)) (f := fun t : T => t.1.2.1) (l := cs.attach) (fun a _ b _ => by simp only [hlt])
    have e3 : cs.attach.map (fun t : T => t.1.2.1) = xs := by
      rw [← hz1]
      conv => rhs; rw [← List.attach_map_subtype_val cs, List.map_map]
      rfl
    rw [e3] at e2
    exact e2
  rw [e1, List.length_map, hdl] at hS
  exact hS
end Go.Proofs.Ytdeenfpcmaadcaa.Pr

-- Written by a program for this claim.
namespace Go.Proofs.Ytdeenfpcmaadcaa.Pr
open Go.RowKit Go.Proofs.YtdeenfpcmaadcaaW.PrintWords Go.Proofs.YtdeenfpcmaadcaaW.PrintLast Go.Proofs.YtdeenfpcmaadcaaW.PrintMore
attribute [local go_sem] max2_int min2_int max_two min_two max_three min_three max_four min_four   -- for this text's walks alone
set_option linter.unusedVariables false
set_option linter.unusedSimpArgs false

/-! ### impl_isCircle: function 81 -/
def impl_isCircle.f (a0 : Int) : Option (Bool) := (impl_within.f a0 3 60).bind fun t217 => (some t217)
set_option maxHeartbeats 8000000 in
set_option maxRecDepth 100000 in
theorem impl_isCircle.calls (a0 : Int) (r : Bool) (w : World) (h : impl_isCircle.f a0 = some r) :
    Calls Try.prog 81 #[.int .i64 a0] w fun e w' => e = .returned (.bool r) ∧ Drawn0 w w' := by
  have H : ((impl_within.f a0 3 60).bind fun t217 => (some t217)) = some r := h
  clear h
  replace H := Option.bind_eq_some_iff.mp H
  obtain ⟨t217, A20, H⟩ := H
  replace H : (some t217) = some r := H
  have A2 := Aside0.mk A20
  clear A20
  obtain rfl := Option.some.inj H
  go_enter Try.func81, Try.ntmps81
  go_wp2_with (first | ((with_reducible refine gate_callee (f := 39) rfl ?_); refine goesL_ (some 4) rfl rfl Try.func39 (by kernel_rfl) rfl #[.int .i64 a0, .int .i64 3, .int .i64 60] rfl (by (try simp only [List.map_toArray, List.map_cons, List.map_nil]); first | done | rfl | (simp only [List.length_drop, List.length_take]; rfl)) ?_; (with_reducible refine (impl_within.calls a0 3 60 t217 _ A2.out).mono ?_); rintro e w' ⟨rfl, ⟨nd, rfl⟩⟩; refine ⟨_, rfl, ?_⟩))
  go_ret
  exact ⟨by first | rfl | (simp; done) | (simp [*]; done), by repeat (first | exact Drawn0.refl _ | apply Drawn0.step)⟩

end Go.Proofs.Ytdeenfpcmaadcaa.Pr

-- Written by a program for this claim.
namespace Go.Proofs.Ytdeenfpcmaadcaa.Pr
open Go.RowKit Go.Proofs.YtdeenfpcmaadcaaW.PrintWords Go.Proofs.YtdeenfpcmaadcaaW.PrintLast Go.Proofs.YtdeenfpcmaadcaaW.PrintMore
attribute [local go_sem] max2_int min2_int max_two min_two max_three min_three max_four min_four   -- for this text's walks alone
set_option linter.unusedVariables false
set_option linter.unusedSimpArgs false

/-! ### impl_isChord: function 93 -/
def impl_isChord.f (a0 : Int) (a1_0 : Int) (a1_1 : Int) : Option (Bool) := if a1_0 ≥ 0 then (if a1_0 < a1_1 then (some (decide (a1_1 < a0))) else (some false)) else (some false)
set_option maxHeartbeats 8000000 in
set_option maxRecDepth 100000 in
theorem impl_isChord.calls (a0 : Int) (a1_0 : Int) (a1_1 : Int) (r : Bool) (w : World) (h : impl_isChord.f a0 a1_0 a1_1 = some r) :
    Calls Try.prog 93 #[.int .i64 a0, .agg #[.int .i64 a1_0, .int .i64 a1_1]] w fun e w' => e = .returned (.bool r) ∧ Below w.heap.size w w' := by
  have hu47 := Try.underlying47
  have HB := Aside0.mk (Below.refl w.heap.size w)
  have H : (if a1_0 ≥ 0 then (if a1_0 < a1_1 then (some (decide (a1_1 < a0))) else (some false)) else (some false)) = some r := h
  clear h
  by_cases c3 : a1_0 ≥ 0
  · rw [if_pos c3] at H
    have c3b0 : decide (0 ≤ a1_0) = true := decide_eq_true c3
    clear c3
    by_cases c4 : a1_0 < a1_1
    · rw [if_pos c4] at H
      have c4b0 : decide (a1_0 < a1_1) = true := decide_eq_true c4
      clear c4
      obtain rfl := Option.some.inj H
      go_enter Try.func93, Try.ntmps93
      go_wp2_with (first | ((with_reducible refine gate_dst (N := 3) rfl ?_); refine box_event ?hg (N := 3) ?hd (cs := #[.int .i64 a1_0, .int .i64 a1_1]) (t := 47) ?hr ?_; (case hd => rfl); (case hg => rfl); (case hr => first | (go_simp; done) | (go_simp; rfl)); intro gb218 hg w5 hbox hb; have n0_ := Aside0.mk (below_step (by repeat (first | (with_reducible first | exact HB.out | apply below_alloc | apply pw_below_drewN | apply below_drew1) | exact HB.out)) hb); have n1_ := Aside0.mk (hbox); have n2_ := Aside0.mk ((by rw [hg]; exact (below_size (by repeat (first | (with_reducible first | exact HB.out | apply below_alloc | apply pw_below_drewN | apply below_drew1) | exact HB.out))) : w.heap.size ≤ gb218)); have n3_ := Aside0.mk ((by rw [hg]; exact (below_size (by repeat (first | (with_reducible first | exact HB.out | apply below_alloc | apply pw_below_drewN | apply below_drew1) | exact HB.out))) : w.heap.size ≤ gb218)); clear HB; have HB := n0_; have BK218 := n1_; have GW218 := n2_; have GE218 := n3_; clear n0_ n1_ n2_ n3_; clear hb hbox hg; have hcz6_0 : w5.cell? ⟨gb218, 0, none⟩ = some (.int .i64 a1_0) := (blk_cell BK218.out 0).trans rfl; have hcz6_1 : w5.cell? ⟨gb218, 1, none⟩ = some (.int .i64 a1_1) := (blk_cell BK218.out 1).trans rfl; have hfz6_0 := blk_frozen BK218.out 0; have hfz6_1 := blk_frozen BK218.out 1))
      go_ret
      exact ⟨by first | rfl | (simp [errW_none, errW_some] <;> rfl) | (simp [*, errW_none, errW_some] <;> rfl), by repeat (first | (with_reducible first | exact HB.out | apply below_alloc | apply pw_below_drewN | apply below_drew1 | refine below_set ?_ GE218.out) | exact HB.out)⟩
    · rw [if_neg c4] at H
      have c4b0 : decide (a1_0 < a1_1) = false := decide_eq_false c4
      clear c4
      obtain rfl := Option.some.inj H
      go_enter Try.func93, Try.ntmps93
      go_wp2_with (first | ((with_reducible refine gate_dst (N := 3) rfl ?_); refine box_event ?hg (N := 3) ?hd (cs := #[.int .i64 a1_0, .int .i64 a1_1]) (t := 47) ?hr ?_; (case hd => rfl); (case hg => rfl); (case hr => first | (go_simp; done) | (go_simp; rfl)); intro gb218 hg w7 hbox hb; have n0_ := Aside0.mk (below_step (by repeat (first | (with_reducible first | exact HB.out | apply below_alloc | apply pw_below_drewN | apply below_drew1) | exact HB.out)) hb); have n1_ := Aside0.mk (hbox); have n2_ := Aside0.mk ((by rw [hg]; exact (below_size (by repeat (first | (with_reducible first | exact HB.out | apply below_alloc | apply pw_below_drewN | apply below_drew1) | exact HB.out))) : w.heap.size ≤ gb218)); have n3_ := Aside0.mk ((by rw [hg]; exact (below_size (by repeat (first | (with_reducible first | exact HB.out | apply below_alloc | apply pw_below_drewN | apply below_drew1) | exact HB.out))) : w.heap.size ≤ gb218)); clear HB; have HB := n0_; have BK218 := n1_; have GW218 := n2_; have GE218 := n3_; clear n0_ n1_ n2_ n3_; clear hb hbox hg; have hcz8_0 : w7.cell? ⟨gb218, 0, none⟩ = some (.int .i64 a1_0) := (blk_cell BK218.out 0).trans rfl; have hcz8_1 : w7.cell? ⟨gb218, 1, none⟩ = some (.int .i64 a1_1) := (blk_cell BK218.out 1).trans rfl; have hfz8_0 := blk_frozen BK218.out 0; have hfz8_1 := blk_frozen BK218.out 1))
      go_ret
      exact ⟨by first | rfl | (simp [errW_none, errW_some] <;> rfl) | (simp [*, errW_none, errW_some] <;> rfl), by repeat (first | (with_reducible first | exact HB.out | apply below_alloc | apply pw_below_drewN | apply below_drew1 | refine below_set ?_ GE218.out) | exact HB.out)⟩
  · rw [if_neg c3] at H
    have c3b0 : decide (0 ≤ a1_0) = false := decide_eq_false c3
    clear c3
    obtain rfl := Option.some.inj H
    go_enter Try.func93, Try.ntmps93
    go_wp2_with (first | ((with_reducible refine gate_dst (N := 3) rfl ?_); refine box_event ?hg (N := 3) ?hd (cs := #[.int .i64 a1_0, .int .i64 a1_1]) (t := 47) ?hr ?_; (case hd => rfl); (case hg => rfl); (case hr => first | (go_simp; done) | (go_simp; rfl)); intro gb218 hg w9 hbox hb; have n0_ := Aside0.mk (below_step (by repeat (first | (with_reducible first | exact HB.out | apply below_alloc | apply pw_below_drewN | apply below_drew1) | exact HB.out)) hb); have n1_ := Aside0.mk (hbox); have n2_ := Aside0.mk ((by rw [hg]; exact (below_size (by repeat (first | (with_reducible first | exact HB.out | apply below_alloc | apply pw_below_drewN | apply below_drew1) | exact HB.out))) : w.heap.size ≤ gb218)); have n3_ := Aside0.mk ((by rw [hg]; exact (below_size (by repeat (first | (with_reducible first | exact HB.out | apply below_alloc | apply pw_below_drewN | apply below_drew1) | exact HB.out))) : w.heap.size ≤ gb218)); clear HB; have HB := n0_; have BK218 := n1_; have GW218 := n2_; have GE218 := n3_; clear n0_ n1_ n2_ n3_; clear hb hbox hg; have hcz10_0 : w9.cell? ⟨gb218, 0, none⟩ = some (.int .i64 a1_0) := (blk_cell BK218.out 0).trans rfl; have hcz10_1 : w9.cell? ⟨gb218, 1, none⟩ = some (.int .i64 a1_1) := (blk_cell BK218.out 1).trans rfl; have hfz10_0 := blk_frozen BK218.out 0; have hfz10_1 := blk_frozen BK218.out 1))
    go_ret
    exact ⟨by first | rfl | (simp [errW_none, errW_some] <;> rfl) | (simp [*, errW_none, errW_some] <;> rfl), by repeat (first | (with_reducible first | exact HB.out | apply below_alloc | apply pw_below_drewN | apply below_drew1 | refine below_set ?_ GE218.out) | exact HB.out)⟩

end Go.Proofs.Ytdeenfpcmaadcaa.Pr
