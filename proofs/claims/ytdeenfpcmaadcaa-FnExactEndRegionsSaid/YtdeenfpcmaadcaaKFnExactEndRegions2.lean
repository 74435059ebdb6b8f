/- The program's EndRegions returns what the reference's returns, for all arguments. (Part 3 of 6.) -/
import Derived.Sort.Grow
import Derived.Shelf.SlSortCmp.InsertionK
import Derived.Shelf.GgSortFunc.RowK
import Derived.Shelf.SlSortFuncK.RowK2
import Derived.Shelf.SlGeneric
import Derived.Shelf.SlSortCmp.WholeK
import Derived.Ground.SlsfProg
import Derived.Test.YtdeenfpcmaadcaaProg
import Derived.Shelf.SlSortCmp.NoneTotal
import Derived.Test.YtdeenfpcmaadcaaKFnExactEndRegions0
import Derived.Test.YtdeenfpcmaadcaaKFnExactEndRegions1
/- Regions of plane sets: what the reference splits and what the program walks, in plain words. -/
namespace Go.Proofs.Ytdeenfpcmaadcaa.M
open Go.RowKit Go.Proofs.YtdeenfpcmaadcaaW.PrintWords Go.Proofs.Ytdeenfpcmaadcaa.Pr
set_option linter.unusedVariables false
set_option linter.unusedSimpArgs false
set_option linter.unusedSectionVars false

/-- A point lies at the region on the inner side of a chord: no other chord inside it covers the point. -/
def InR (P : List Ch) (c : Ch) (x : Int) : Prop := c.f0 ≤ x ∧ x ≤ c.f1 ∧ ∀ d ∈ P, d ≠ c → c.f0 ≤ d.f0 → d.f1 ≤ c.f1 → ¬ (d.f0 < x ∧ x < d.f1)
/-- Chords that are good and of which no two cross. -/
structure Plane (P : List Ch) : Prop where
  ok : ∀ c ∈ P, c.f0 < c.f1
  no : ∀ c ∈ P, ∀ d ∈ P, crB c d = false
theorem nocr {c d : Ch} (h : crB c d = false) : ¬ (c.f0 < d.f0 ∧ d.f0 < c.f1 ∧ c.f1 < d.f1) ∧ ¬ (d.f0 < c.f0 ∧ c.f0 < d.f1 ∧ d.f1 < c.f1) := by
  unfold crB at h
  have := of_decide_eq_false h
  omega
theorem ch_ne {c d : Ch} (h : c ≠ d) : c.f0 ≠ d.f0 ∨ c.f1 ≠ d.f1 := by
  by_cases h0 : c.f0 = d.f0
  · right
    intro h1
    apply h
    cases c; cases d
    simp_all
  · exact .inl h0
theorem split_in {P : List Ch} {c e : Ch} (hPe : ∀ d ∈ P, crB d e = false) (hok : ∀ d ∈ P, d.f0 < d.f1) (he : e ∉ P) (hee : e.f0 < e.f1) (hec : e ≠ c)
    (hA : InR P c e.f0) (hB : InR P c e.f1) (x : Int) : InR (P ++ [e]) e x ↔ InR P c x ∧ e.f0 ≤ x ∧ x ≤ e.f1 := by
  obtain ⟨a1, a2, a3⟩ := hA
  obtain ⟨b1, b2, b3⟩ := hB
  constructor
  · rintro ⟨h1, h2, h3⟩
    refine ⟨⟨by omega, by omega, fun d hd hdc q1 q2 hx => ?_⟩, h1, h2⟩
    have hde : d ≠ e := fun e' => he (e' ▸ hd)
    have := h3 d (List.mem_append_left _ hd) hde
    have := nocr (hPe d hd)
    have := hok d hd
    have := a3 d hd hdc q1 q2
    have := b3 d hd hdc q1 q2
    have := ch_ne hde
    omega
  · rintro ⟨⟨h1, h2, h3⟩, h4, h5⟩
    refine ⟨h4, h5, fun d hd hde q1 q2 hx => ?_⟩
    rcases List.mem_append.1 hd with hd | hd
    · have hdc : d ≠ c := by
        rintro rfl
        have := ch_ne hde
        omega
      exact h3 d hd hdc (by omega) (by omega) hx
    · rw [List.mem_singleton] at hd
      exact hde hd
theorem split_out {P : List Ch} {c e : Ch} (hec : e ≠ c) (h1 : c.f0 ≤ e.f0) (h2 : e.f1 ≤ c.f1) (x : Int) : InR (P ++ [e]) c x ↔ InR P c x ∧ (x ≤ e.f0 ∨ e.f1 ≤ x) := by
  constructor
  · rintro ⟨q1, q2, q3⟩
    refine ⟨⟨q1, q2, fun d hd => q3 d (List.mem_append_left _ hd)⟩, ?_⟩
    have := q3 e (List.mem_append_right _ (List.mem_singleton.2 rfl)) hec h1 h2
    omega
  · rintro ⟨⟨q1, q2, q3⟩, q4⟩
    refine ⟨q1, q2, fun d hd hdc => ?_⟩
    rcases List.mem_append.1 hd with hd | hd
    · exact q3 d hd hdc
    · rw [List.mem_singleton] at hd
      subst hd
      omega
theorem split_rest {P : List Ch} {c c' e : Ch} (hcc : crB c c' = false) (hok : c.f0 < c.f1) (hok' : c'.f0 < c'.f1) (hc : c ∈ P ∨ (c.f0 < c'.f0 ∧ c'.f1 < c.f1)) (hc' : c' ∈ P ∨ (c'.f0 < c.f0 ∧ c.f1 < c'.f1)) (he : e ∉ P) (hee : e.f0 < e.f1) (hne : c ≠ c') (hec : e ≠ c) (hec' : e ≠ c')
    (hA : InR P c e.f0) (hB : InR P c e.f1) (x : Int) : InR (P ++ [e]) c' x ↔ InR P c' x := by
  obtain ⟨a1, a2, a3⟩ := hA
  obtain ⟨b1, b2, b3⟩ := hB
  constructor
  · rintro ⟨q1, q2, q3⟩
    exact ⟨q1, q2, fun d hd => q3 d (List.mem_append_left _ hd)⟩
  · rintro ⟨q1, q2, q3⟩
    refine ⟨q1, q2, fun d hd hdc w1 w2 hx => ?_⟩
    rcases List.mem_append.1 hd with hd | hd
    · exact q3 d hd hdc w1 w2 hx
    · rw [List.mem_singleton] at hd
      subst hd
      have := nocr hcc
      have n1 := ch_ne hne
      have n2 := ch_ne hec'
      by_cases hin : c'.f0 ≤ c.f0 ∧ c.f1 ≤ c'.f1
      · rcases hc with hc | hc
        · exact q3 c hc hne hin.1 hin.2 (by omega)
        · omega
      · rcases hc' with hc' | hc'
        · have h1 := a3 c' hc' (Ne.symm hne) (by omega) (by omega)
          have h2 := b3 c' hc' (Ne.symm hne) (by omega) (by omega)
          omega
        · omega
/-- There is a least chord around one that crosses none. -/
theorem least_around {P : List Ch} {O e : Ch} (hPe : ∀ d ∈ P, crB d e = false) (hok : ∀ d ∈ P, d.f0 < d.f1) (he : e ∉ P) (hee : e.f0 < e.f1) (hO : O.f0 < e.f0 ∧ e.f1 < O.f1) :
    ∃ c, (c = O ∨ c ∈ P) ∧ InR P c e.f0 ∧ InR P c e.f1 := by
  have key : ∀ n : Nat, ∀ c : Ch, (c.f1 - c.f0).toNat ≤ n → (c = O ∨ c ∈ P) → c.f0 ≤ e.f0 → e.f1 ≤ c.f1 → ∃ c, (c = O ∨ c ∈ P) ∧ InR P c e.f0 ∧ InR P c e.f1 := by
    intro n
    induction n with
    | zero => intro c h _ h0 h1; omega
    | succ n ih =>
      intro c h hc h0 h1
      by_cases hx : ∃ d ∈ P, d ≠ c ∧ c.f0 ≤ d.f0 ∧ d.f1 ≤ c.f1 ∧ d.f0 ≤ e.f0 ∧ e.f1 ≤ d.f1
      · obtain ⟨d, hd, hdc, g1, g2, g3, g4⟩ := hx
        have := ch_ne hdc
        exact ih d (by omega) (.inr hd) g3 g4
      · refine ⟨c, hc, ⟨h0, by omega, fun d hd hdc q1 q2 hx2 => hx ⟨d, hd, hdc, q1, q2, ?_⟩⟩, ⟨by omega, h1, fun d hd hdc q1 q2 hx2 => hx ⟨d, hd, hdc, q1, q2, ?_⟩⟩⟩
        · have := nocr (hPe d hd); have := hok d hd; omega
        · have := nocr (hPe d hd); have := hok d hd; omega
  exact key _ O (Nat.le_refl _) (.inl rfl) (by omega) (by omega)

def inR (P : List Ch) (c : Ch) (x : Int) : Bool := decide (c.f0 ≤ x ∧ x ≤ c.f1) && P.all fun d => !(decide (d ≠ c ∧ c.f0 ≤ d.f0 ∧ d.f1 ≤ c.f1 ∧ d.f0 < x ∧ x < d.f1))
theorem inR_iff {P : List Ch} {c : Ch} {x : Int} : inR P c x = true ↔ InR P c x := by
  unfold inR InR
  rw [Bool.and_eq_true, decide_eq_true_eq, List.all_eq_true]
  constructor
  · rintro ⟨⟨h1, h2⟩, h3⟩
    refine ⟨h1, h2, fun d hd q1 q2 q3 q4 => ?_⟩
    have := h3 d hd
    rw [Bool.not_eq_true', decide_eq_false_iff_not] at this
    exact this ⟨q1, q2, q3, q4⟩
  · rintro ⟨h1, h2, h3⟩
    refine ⟨⟨h1, h2⟩, fun d hd => ?_⟩
    rw [Bool.not_eq_true', decide_eq_false_iff_not]
    rintro ⟨q1, q2, q3, q4⟩
    exact h3 d hd q1 q2 q3 q4
def ptsTo (p : Int) : List Int := (List.range p.toNat).map fun (i : Nat) => (i : Int)
theorem mem_ptsTo {p x : Int} : x ∈ ptsTo p ↔ 0 ≤ x ∧ x < p := by
  unfold ptsTo
  rw [List.mem_map]
  constructor
  · rintro ⟨i, hi, rfl⟩
    have := List.mem_range.1 hi
    omega
  · rintro ⟨h0, h1⟩
    exact ⟨x.toNat, List.mem_range.2 (by omega), by omega⟩
/-- The points of the region inside a chord. -/
def regN (p : Int) (P : List Ch) (c : Ch) : List Int := (ptsTo p).filter (inR P c)
theorem mem_regN {p : Int} {P : List Ch} {c : Ch} {x : Int} : x ∈ regN p P c ↔ (0 ≤ x ∧ x < p) ∧ InR P c x := by
  unfold regN
  rw [List.mem_filter, mem_ptsTo, inR_iff]
def hasB (e : Ch) (r : List Int) : Bool := decide (e.f0 ∈ r ∧ e.f1 ∈ r)
def cutIn (e : Ch) (r : List Int) : List Int := r.filter fun x => decide (e.f0 ≤ x ∧ x ≤ e.f1)
def cutOut (e : Ch) (r : List Int) : List Int := r.filter fun x => decide (x ≤ e.f0 ∨ e.f1 ≤ x)
def stepR (e : Ch) : List (List Int) → List (List Int)
  | [] => []
  | r :: rs => if hasB e r = true then cutIn e r :: cutOut e r :: rs else r :: stepR e rs
def insR (p : Int) (P : List Ch) (e : Ch) : List Ch → List Ch
  | [] => []
  | c :: cs => if hasB e (regN p P c) = true then e :: c :: cs else c :: insR p P e cs
theorem regN_congr {p : Int} {P P' : List Ch} {c c' : Ch} (h : ∀ x, InR P' c' x ↔ InR P c x) : regN p P' c' = regN p P c := by
  unfold regN
  apply List.filter_congr
  intro x _
  rw [Bool.eq_iff_iff, inR_iff, inR_iff]
  exact h x
/-- What the reference's step makes of the regions of chords. -/
theorem step_regs {p : Int} {P : List Ch} {O e : Ch} (hP : Plane P) (hO : ∀ d ∈ e :: P, O.f0 < d.f0 ∧ d.f1 < O.f1) (hPe : ∀ d ∈ P, crB d e = false) (he : e ∉ P) (hee : e.f0 < e.f1) (h0 : 0 ≤ e.f0) (h1 : e.f1 < p)
    {c0 : Ch} (hA : InR P c0 e.f0) (hB : InR P c0 e.f1) (hc0 : c0 = O ∨ c0 ∈ P) :
    ∀ cs : List Ch, cs.Nodup → (∀ c ∈ cs, c = O ∨ c ∈ P) → stepR e (cs.map (regN p P)) = (insR p P e cs).map (regN p (P ++ [e])) := by
  have hOe : O.f0 < e.f0 ∧ e.f1 < O.f1 := hO e (List.mem_cons_self ..)
  have hne : ∀ c, c = O ∨ c ∈ P → e ≠ c := by
    rintro c (rfl | hc) rfl
    · omega
    · exact he hc
  have hOP : ∀ d ∈ P, O.f0 < d.f0 ∧ d.f1 < O.f1 := fun d hd => hO d (List.mem_cons_of_mem _ hd)
  have hlt : ∀ c, c = O ∨ c ∈ P → c.f0 < c.f1 := by
    rintro c (rfl | hc)
    · omega
    · exact hP.ok c hc
  have hcr : ∀ c c', c = O ∨ c ∈ P → c' = O ∨ c' ∈ P → crB c c' = false := by
    rintro c c' (rfl | hc) (rfl | hc')
    · unfold crB; exact decide_eq_false (by omega)
    · have := hOP c' hc'; unfold crB; exact decide_eq_false (by omega)
    · have := hOP c hc; unfold crB; exact decide_eq_false (by omega)
    · exact hP.no c hc c' hc'
  have same : ∀ c c', c = O ∨ c ∈ P → c' = O ∨ c' ∈ P → c ≠ c' → InR P c e.f0 → InR P c e.f1 → regN p (P ++ [e]) c' = regN p P c' := by
    intro c c' hc hc' hn hA hB
    refine regN_congr (split_rest (hcr c c' hc hc') (hlt c hc) (hlt c' hc') ?_ ?_ he hee hn (hne c hc) (hne c' hc') hA hB)
    · rcases hc with rfl | hc
      · rcases hc' with rfl | hc'
        · exact absurd rfl hn
        · exact .inr (hOP c' hc')
      · exact .inl hc
    · rcases hc' with rfl | hc'
      · rcases hc with rfl | hc
        · exact absurd rfl hn
        · exact .inr (hOP c hc)
      · exact .inl hc'
  intro cs
  induction cs with
  | nil => intro _ _; rfl
  | cons c cs ih =>
    intro hnd hmem
    rw [List.nodup_cons] at hnd
    have hc := hmem c (List.mem_cons_self ..)
    rw [List.map_cons, stepR, insR]
    by_cases hb : hasB e (regN p P c) = true
    · rw [if_pos hb, if_pos hb, List.map_cons, List.map_cons]
      have hb' := of_decide_eq_true hb
      rw [mem_regN, mem_regN] at hb'
      obtain ⟨⟨_, i1⟩, ⟨_, i2⟩⟩ := hb'
      have g1 : cutIn e (regN p P c) = regN p (P ++ [e]) e := by
        unfold cutIn regN
        rw [List.filter_filter]
        apply List.filter_congr
        intro x _
        rw [Bool.eq_iff_iff, inR_iff, split_in hPe hP.ok he hee (hne c hc) i1 i2, Bool.and_eq_true, inR_iff, decide_eq_true_eq]
        exact and_comm
      have g2 : cutOut e (regN p P c) = regN p (P ++ [e]) c := by
        unfold cutOut regN
        rw [List.filter_filter]
        apply List.filter_congr
        intro x _
        rw [Bool.eq_iff_iff, inR_iff, split_out (hne c hc) i1.1 i2.2.1, Bool.and_eq_true, inR_iff, decide_eq_true_eq]
        exact and_comm
      have g3 : cs.map (regN p P) = cs.map (regN p (P ++ [e])) := by
        apply List.map_congr_left
        intro c' hc'
        exact (same c c' hc (hmem c' (List.mem_cons_of_mem _ hc')) (fun q => hnd.1 (q ▸ hc')) i1 i2).symm
      rw [g1, g2, g3]
    · rw [if_neg hb, if_neg hb, List.map_cons, ih hnd.2 (fun c' hc' => hmem c' (List.mem_cons_of_mem _ hc'))]
      congr 1
      refine (same c0 c hc0 hc ?_ hA hB).symm
      rintro rfl
      apply hb
      unfold hasB
      rw [decide_eq_true_eq, mem_regN, mem_regN]
      exact ⟨⟨by omega, hA⟩, ⟨by omega, hB⟩⟩
theorem insR_perm {p : Int} {P : List Ch} {e : Ch} : ∀ cs : List Ch, (∃ c ∈ cs, hasB e (regN p P c) = true) → (insR p P e cs).Perm (e :: cs)
  | [], h => by obtain ⟨c, hc, _⟩ := h; cases hc
  | c :: cs, h => by
    rw [insR]
    by_cases hb : hasB e (regN p P c) = true
    · rw [if_pos hb]
    · rw [if_neg hb]
      obtain ⟨c', hc', h'⟩ := h
      rcases List.mem_cons.1 hc' with rfl | hc'
      · exact absurd h' hb
      · exact ((insR_perm cs ⟨c', hc', h'⟩).cons c).trans (List.Perm.swap _ _ _)
def foldR : List Ch → List (List Int) → List (List Int)
  | [], rs => rs
  | c :: l, rs => foldR l (stepR c rs)
def outC (p : Int) : Ch := ⟨-1, p⟩
/-- The reference's regions are those of the chords and of the outer one, in some order. -/
theorem foldR_regs {p : Int} : ∀ (l P : List Ch), Plane (P ++ l) → (∀ d ∈ P ++ l, 0 ≤ d.f0 ∧ d.f1 < p) → (P ++ l).Nodup → ∀ cs : List Ch, cs.Perm (outC p :: P) →
    ∃ ds : List Ch, ds.Perm (outC p :: (P ++ l)) ∧ foldR l (cs.map (regN p P)) = ds.map (regN p (P ++ l))
  | [], P, hP, hb, hn, cs, hc => by
    rw [List.append_nil] at *
    exact ⟨cs, hc, rfl⟩
  | e :: l, P, hP, hb, hn, cs, hc => by
    have hPP : Plane P := ⟨fun c h => hP.ok c (List.mem_append_left _ h), fun c h d h' => hP.no c (List.mem_append_left _ h) d (List.mem_append_left _ h')⟩
    have hemem : e ∈ P ++ e :: l := List.mem_append_right _ (List.mem_cons_self ..)
    have hPe : ∀ d ∈ P, crB d e = false := fun d hd => hP.no d (List.mem_append_left _ hd) e hemem
    have hee := hP.ok e hemem
    have hb0 := hb e hemem
    have hn2 := List.nodup_append.1 hn
    have he : e ∉ P := fun h => hn2.2.2 e h e (List.mem_cons_self ..) rfl
    have hOO : ∀ d ∈ e :: P, (outC p).f0 < d.f0 ∧ d.f1 < (outC p).f1 := by
      intro d hd
      have : 0 ≤ d.f0 ∧ d.f1 < p := by
        rcases List.mem_cons.1 hd with rfl | hd
        · exact hb0
        · exact hb d (List.mem_append_left _ hd)
      show -1 < d.f0 ∧ d.f1 < p
      omega
    obtain ⟨c0, hc0, hA, hB⟩ := least_around hPe hPP.ok he hee (hOO e (List.mem_cons_self ..))
    have hmem : ∀ c ∈ cs, c = outC p ∨ c ∈ P := fun c h => List.mem_cons.1 (hc.mem_iff.1 h)
    have hOn : outC p ∉ P := fun h => by have := hb _ (List.mem_append_left _ h); have h2 : (0 : Int) ≤ -1 := this.1; omega
    have hnd : cs.Nodup := hc.nodup_iff.2 (List.nodup_cons.2 ⟨hOn, hn2.1⟩)
    have hs := step_regs hPP hOO hPe he hee hb0.1 hb0.2 hA hB hc0 cs hnd hmem
    have hp2 : (insR p P e cs).Perm (outC p :: (P ++ [e])) := by
      refine (insR_perm cs ⟨c0, hc.mem_iff.2 (List.mem_cons.2 hc0), ?_⟩).trans ?_
      · unfold hasB
        rw [decide_eq_true_eq, mem_regN, mem_regN]
        exact ⟨⟨by omega, hA⟩, ⟨by omega, hB⟩⟩
      · refine (hc.cons e).trans ((List.Perm.swap _ _ _).trans (List.Perm.cons _ ?_))
        exact (List.perm_append_singleton e P).symm
    have h := foldR_regs l (P ++ [e]) (by rw [List.append_assoc]; exact hP) (by rw [List.append_assoc]; exact hb) (by rw [List.append_assoc]; exact hn) _ hp2
    rw [List.append_assoc, ← hs] at h
    exact h
/-- One list of numbers before another. -/
def lexB : List Int → List Int → Bool
  | _, [] => false
  | [], _ :: _ => true
  | x :: a, y :: b => if x = y then lexB a b else decide (x < y)
theorem lexB_irrefl : ∀ a, lexB a a = false
  | [] => rfl
  | x :: a => by rw [lexB, if_pos rfl]; exact lexB_irrefl a
theorem lexB_tri : ∀ a b, lexB a b = false → lexB b a = false → a = b
  | [], [], _, _ => rfl
  | [], _ :: _, h, _ => by simp [lexB] at h
  | _ :: _, [], _, h => by simp [lexB] at h
  | x :: a, y :: b, h1, h2 => by
    rw [lexB] at h1 h2
    by_cases e : x = y
    · subst e
      rw [if_pos rfl] at h1 h2
      rw [lexB_tri a b h1 h2]
    · rw [if_neg e] at h1
      rw [if_neg (Ne.symm e)] at h2
      have := of_decide_eq_false h1
      have := of_decide_eq_false h2
      omega
theorem lexB_trans : ∀ a b c, lexB a b = true → lexB b c = true → lexB a c = true
  | [], [], _, h, _ => by simp [lexB] at h
  | [], _ :: _, [], _, h => by simp [lexB] at h
  | [], _ :: _, _ :: _, _, _ => rfl
  | _ :: _, [], _, h, _ => by simp [lexB] at h
  | _ :: _, _ :: _, [], _, h => by simp [lexB] at h
  | x :: a, y :: b, z :: c, h1, h2 => by
    rw [lexB] at h1 h2 ⊢
    by_cases e1 : x = y
    · rw [if_pos e1] at h1
      by_cases e2 : y = z
      · rw [if_pos e2] at h2
        rw [if_pos (e1.trans e2)]
        exact lexB_trans a b c h1 h2
      · rw [if_neg e2] at h2
        rw [if_neg (by omega)]
        have := of_decide_eq_true h2
        exact decide_eq_true (by omega)
    · rw [if_neg e1] at h1
      have := of_decide_eq_true h1
      by_cases e2 : y = z
      · rw [if_neg (by omega)]
        exact decide_eq_true (by omega)
      · rw [if_neg e2] at h2
        have := of_decide_eq_true h2
        rw [if_neg (by omega)]
        exact decide_eq_true (by omega)
theorem lexB_ge_trans {a b c : List Int} (h1 : lexB b a = false) (h2 : lexB c b = false) : lexB c a = false := by
  rw [Bool.eq_false_iff]
  intro h
  cases e : lexB b c with
  | true => rw [lexB_trans _ _ _ e h] at h1; cases h1
  | false =>
    have := lexB_tri b c e h2
    subst this
    rw [h1] at h
    cases h
/-- A row into rows that are in order, behind all that are not greater. -/
def insL : List (List Int) → List Int → List (List Int)
  | [], r => [r]
  | a :: l, r => if lexB r a = true then r :: a :: l else a :: insL l r
def sortL (l : List (List Int)) : List (List Int) := l.foldl insL []
def LS (l : List (List Int)) : Prop := l.Pairwise fun x y => lexB y x = false
theorem insL_perm : ∀ (l : List (List Int)) (r : List Int), (insL l r).Perm (r :: l)
  | [], _ => List.Perm.refl _
  | a :: l, r => by
    rw [insL]
    by_cases h : lexB r a = true
    · rw [if_pos h]
    · rw [if_neg h]
      exact ((insL_perm l r).cons a).trans (List.Perm.swap _ _ _)
theorem insL_sorted : ∀ (l : List (List Int)) (r : List Int), LS l → LS (insL l r)
  | [], _, _ => List.pairwise_singleton _ _
  | a :: l, r, h => by
    obtain ⟨h1, h2⟩ := List.pairwise_cons.1 h
    rw [insL]
    by_cases e : lexB r a = true
    · rw [if_pos e]
      have ea : lexB a r = false := by
        rw [Bool.eq_false_iff]
        intro e2
        have := lexB_trans _ _ _ e e2
        rw [lexB_irrefl] at this
        cases this
      refine List.pairwise_cons.2 ⟨fun z hz => ?_, h⟩
      rcases List.mem_cons.1 hz with rfl | hz
      · exact ea
      · exact lexB_ge_trans ea (h1 z hz)
    · rw [if_neg e]
      have e := Bool.eq_false_iff.2 e
      refine List.pairwise_cons.2 ⟨fun z hz => ?_, insL_sorted l r h2⟩
      rcases List.mem_cons.1 ((insL_perm l r).mem_iff.1 hz) with rfl | hz
      · exact e
      · exact h1 z hz
theorem sortL_gen : ∀ (l acc : List (List Int)), LS acc → (l.foldl insL acc).Perm (acc ++ l) ∧ LS (l.foldl insL acc)
  | [], acc, h => ⟨by rw [List.append_nil]; exact List.Perm.refl _, h⟩
  | r :: l, acc, h => by
    obtain ⟨h1, h2⟩ := sortL_gen l (insL acc r) (insL_sorted acc r h)
    refine ⟨h1.trans (((insL_perm acc r).append_right l).trans ?_), h2⟩
    exact List.perm_middle.symm
theorem sortL_perm (l : List (List Int)) : (sortL l).Perm l := (sortL_gen l [] List.Pairwise.nil).1
theorem sortL_sorted (l : List (List Int)) : LS (sortL l) := (sortL_gen l [] List.Pairwise.nil).2
theorem ls_uniq : ∀ l1 l2 : List (List Int), l1.Perm l2 → LS l1 → LS l2 → l1 = l2
  | [], l2, h, _, _ => (List.nil_perm.1 h).symm
  | a :: r, l2, h, h1, h2 => by
    cases l2 with
    | nil => exact absurd h.symm (by intro q; cases List.nil_perm.1 q)
    | cons b s =>
      obtain ⟨p1, q1⟩ := List.pairwise_cons.1 h1
      obtain ⟨p2, q2⟩ := List.pairwise_cons.1 h2
      have hab : a = b := by
        apply lexB_tri
        · rcases List.mem_cons.1 (h.mem_iff.1 (List.mem_cons_self ..)) with e | hm
          · rw [e]; exact lexB_irrefl _
          · exact p2 _ hm
        · rcases List.mem_cons.1 (h.mem_iff.2 (List.mem_cons_self ..)) with e | hm
          · rw [e]; exact lexB_irrefl _
          · exact p1 _ hm
      subst hab
      rw [ls_uniq r s ((List.perm_cons a).1 h) q1 q2]
/-- Where the walk goes on from a point: the farthest chord from it. -/
def nxF (at_ : Int) : List Ch → Int → Int
  | [], m => m
  | d :: Q, m => nxF at_ Q (if d.f0 = at_ ∧ m < d.f1 then d.f1 else m)
theorem nxF_ge (a : Int) : ∀ (Q : List Ch) (m : Int), m ≤ nxF a Q m
  | [], m => Int.le_refl _
  | d :: Q, m => by
    rw [nxF]
    by_cases h : d.f0 = a ∧ m < d.f1
    · rw [if_pos h]
      have := nxF_ge a Q d.f1
      omega
    · rw [if_neg h]
      exact nxF_ge a Q m
theorem nxF_max (a : Int) : ∀ (Q : List Ch) (m : Int), ∀ d ∈ Q, d.f0 = a → d.f1 ≤ nxF a Q m
  | e :: Q, m, d, hd, ha => by
    rw [nxF]
    rcases List.mem_cons.1 hd with rfl | hd
    · by_cases h : d.f0 = a ∧ m < d.f1
      · rw [if_pos h]
        exact nxF_ge a Q d.f1
      · rw [if_neg h]
        have := nxF_ge a Q m
        omega
    · exact nxF_max a Q _ d hd ha
theorem nxF_mem (a : Int) : ∀ (Q : List Ch) (m : Int), nxF a Q m = m ∨ ∃ d ∈ Q, d.f0 = a ∧ d.f1 = nxF a Q m
  | [], m => .inl rfl
  | e :: Q, m => by
    rw [nxF]
    by_cases h : e.f0 = a ∧ m < e.f1
    · rw [if_pos h]
      rcases nxF_mem a Q e.f1 with h2 | ⟨d, hd, h2⟩
      · exact .inr ⟨e, List.mem_cons_self .., h.1, h2.symm⟩
      · exact .inr ⟨d, List.mem_cons_of_mem _ hd, h2⟩
    · rw [if_neg h]
      rcases nxF_mem a Q m with h2 | ⟨d, hd, h2⟩
      · exact .inl h2
      · exact .inr ⟨d, List.mem_cons_of_mem _ hd, h2⟩
/-- A point that no chord of Q covers. -/
def Free (Q : List Ch) (x : Int) : Prop := ∀ d ∈ Q, ¬ (d.f0 < x ∧ x < d.f1)
def nxt (Q : List Ch) (a : Int) : Int := if nxF a Q a > a then nxF a Q a else a + 1
/-- The walk: points, chords, arcs. -/
def walkP (Q : List Ch) (b : Int) : Nat → Int → List Int
  | 0, _ => []
  | n + 1, a => if a < b then nxt Q a :: walkP Q b n (nxt Q a) else []
def walkC (Q : List Ch) (b : Int) : Nat → Int → List Ch
  | 0, _ => []
  | n + 1, a => if a < b then (if nxF a Q a > a then [(⟨a, nxF a Q a⟩ : Ch)] else []) ++ walkC Q b n (nxt Q a) else []
def walkA (Q : List Ch) (b : Int) : Nat → Int → List Int
  | 0, _ => []
  | n + 1, a => if a < b then (if nxF a Q a > a then [] else [a]) ++ walkA Q b n (nxt Q a) else []
section
variable {Q : List Ch} {lo b : Int} (hlo : ∀ d ∈ Q, lo ≤ d.f0 ∧ d.f0 < d.f1 ∧ d.f1 ≤ b) (hno : ∀ c ∈ Q, ∀ d ∈ Q, crB c d = false)
include hlo
theorem nxt_gt (a : Int) : a < nxt Q a := by
  unfold nxt
  split <;> omega
theorem nxt_le {a : Int} (h : a < b) : nxt Q a ≤ b := by
  unfold nxt
  split
  · rename_i g
    rcases nxF_mem a Q a with e | ⟨d, hd, e1, e2⟩
    · omega
    · have := hlo d hd; omega
  · omega
/-- What lies between a point of the walk and the next one is covered. -/
theorem nxt_gap {a x : Int} (h1 : a < x) (h2 : x < nxt Q a) : ¬ Free Q x := by
  intro hf
  unfold nxt at h2
  split at h2
  · rcases nxF_mem a Q a with e | ⟨d, hd, e1, e2⟩
    · omega
    · exact hf d hd (by omega)
  · omega
include hno
theorem nxt_free {a : Int} (hf : Free Q a) : Free Q (nxt Q a) := by
  intro d hd hx
  have h0 := hf d hd
  have h3 := nxF_max a Q a d hd
  have hd2 := hlo d hd
  unfold nxt at hx
  split at hx
  · rcases nxF_mem a Q a with e | ⟨c, hc, e1, e2⟩
    · omega
    · have := nocr (hno c hc d hd)
      omega
  · omega
theorem mem_walkP : ∀ (n : Nat) (a : Int), b ≤ a + n → Free Q a → ∀ x, x ∈ walkP Q b n a ↔ a < x ∧ x ≤ b ∧ Free Q x
  | 0, a, hn, hf, x => by
    rw [walkP]
    constructor
    · intro h; cases h
    · rintro ⟨h1, h2, _⟩; omega
  | n + 1, a, hn, hf, x => by
    rw [walkP]
    by_cases h : a < b
    · rw [if_pos h, List.mem_cons]
      have hg := nxt_gt hlo a
      have hle := nxt_le hlo h
      have ih := mem_walkP n (nxt Q a) (by omega) (nxt_free hlo hno hf) x
      rw [ih]
      constructor
      · rintro (rfl | ⟨h1, h2, h3⟩)
        · exact ⟨hg, hle, nxt_free hlo hno hf⟩
        · exact ⟨by omega, h2, h3⟩
      · rintro ⟨h1, h2, h3⟩
        by_cases e : x = nxt Q a
        · exact .inl e
        · refine .inr ⟨?_, h2, h3⟩
          have : ¬ x < nxt Q a := fun q => nxt_gap hlo h1 q h3
          omega
    · rw [if_neg h]
      constructor
      · intro h; cases h
      · rintro ⟨h1, h2, _⟩; omega
theorem walkP_rises : ∀ (n : Nat) (a : Int), (a :: walkP Q b n a).Pairwise (· < ·) ∧ ∀ x ∈ walkP Q b n a, a < x
  | 0, a => ⟨List.pairwise_singleton _ _, fun x h => by cases h⟩
  | n + 1, a => by
    rw [walkP]
    by_cases h : a < b
    · rw [if_pos h]
      obtain ⟨h1, h2⟩ := walkP_rises n (nxt Q a)
      have hg := nxt_gt hlo a
      have h3 : ∀ x ∈ nxt Q a :: walkP Q b n (nxt Q a), a < x := by
        intro x hx
        rcases List.mem_cons.1 hx with rfl | hx
        · exact hg
        · have := h2 x hx; omega
      exact ⟨List.pairwise_cons.2 ⟨h3, h1⟩, h3⟩
    · rw [if_neg h]
      exact ⟨List.pairwise_singleton _ _, fun x h => by cases h⟩
theorem mem_walkC : ∀ (n : Nat) (a : Int), b ≤ a + n → Free Q a → ∀ d : Ch, d ∈ walkC Q b n a ↔ d ∈ Q ∧ a ≤ d.f0 ∧ Free Q d.f0 ∧ Free Q d.f1
  | 0, a, hn, hf, d => by
    rw [walkC]
    constructor
    · intro h; cases h
    · rintro ⟨h1, h2, _⟩; have := hlo d h1; omega
  | n + 1, a, hn, hf, d => by
    rw [walkC]
    by_cases h : a < b
    · rw [if_pos h, List.mem_append]
      have hg := nxt_gt hlo a
      have hle := nxt_le hlo h
      have ih := mem_walkC n (nxt Q a) (by omega) (nxt_free hlo hno hf) d
      rw [ih]
      have hnf := nxt_free hlo hno hf
      constructor
      · rintro (h1 | ⟨h1, h2, h3⟩)
        · by_cases g : nxF a Q a > a
          · rw [if_pos g, List.mem_singleton] at h1
            subst h1
            rw [nxt, if_pos g] at hnf
            refine ⟨?_, Int.le_refl _, hf, hnf⟩
            rcases nxF_mem a Q a with e | ⟨c, hc, e1, e2⟩
            · omega
            · have : c = ⟨a, nxF a Q a⟩ := by cases c; simp_all
              rwa [← this]
          · rw [if_neg g] at h1; cases h1
        · exact ⟨h1, by omega, h3⟩
      · rintro ⟨h1, h2, h3, h4⟩
        have hd := hlo d h1
        by_cases e : d.f0 = a
        · have hm := nxF_max a Q a d h1 e
          have g : nxF a Q a > a := by omega
          refine .inl ?_
          rw [if_pos g, List.mem_singleton]
          have : d.f1 = nxF a Q a := by
            rcases nxF_mem a Q a with e' | ⟨c, hc, e1, e2⟩
            · omega
            · have := h4 c hc; omega
          cases d
          simp_all
        · refine .inr ⟨h1, ?_, h3, h4⟩
          have : ¬ d.f0 < nxt Q a := fun q => nxt_gap hlo (by omega) q h3
          omega
    · rw [if_neg h]
      constructor
      · intro h; cases h
      · rintro ⟨h1, h2, _⟩; have := hlo d h1; omega
theorem mem_walkA : ∀ (n : Nat) (a : Int), b ≤ a + n → Free Q a → ∀ i : Int, i ∈ walkA Q b n a ↔ a ≤ i ∧ i < b ∧ Free Q i ∧ Free Q (i + 1) ∧ (⟨i, i + 1⟩ : Ch) ∉ Q
  | 0, a, hn, hf, i => by
    rw [walkA]
    constructor
    · intro h; cases h
    · rintro ⟨h1, h2, _⟩; omega
  | n + 1, a, hn, hf, i => by
    rw [walkA]
    by_cases h : a < b
    · rw [if_pos h, List.mem_append]
      have hg := nxt_gt hlo a
      have hle := nxt_le hlo h
      have ih := mem_walkA n (nxt Q a) (by omega) (nxt_free hlo hno hf) i
      rw [ih]
      have hnf := nxt_free hlo hno hf
      constructor
      · rintro (h1 | ⟨h1, h2, h3⟩)
        · by_cases g : nxF a Q a > a
          · rw [if_pos g] at h1; cases h1
          · rw [if_neg g, List.mem_singleton] at h1
            subst h1
            rw [nxt, if_neg g] at hnf
            refine ⟨Int.le_refl _, h, hf, hnf, fun hm => ?_⟩
            have := nxF_max i Q i _ hm rfl
            have : i + 1 ≤ nxF i Q i := this
            omega
        · exact ⟨by omega, h2, h3⟩
      · rintro ⟨h1, h2, h3, h4, h5⟩
        by_cases e : i = a
        · subst e
          have g : ¬ nxF i Q i > i := by
            intro g
            rcases nxF_mem i Q i with e' | ⟨c, hc, e1, e2⟩
            · omega
            · have := h4 c hc
              apply h5
              have : c = ⟨i, i + 1⟩ := by cases c; simp only [S47.mk.injEq] at *; omega
              rwa [← this]
          rw [if_neg g]
          exact .inl (List.mem_singleton.2 rfl)
        · refine .inr ⟨?_, h2, h3, h4, h5⟩
          have : ¬ i < nxt Q a := fun q => nxt_gap hlo (by omega) q h3
          omega
    · rw [if_neg h]
      constructor
      · intro h; cases h
      · rintro ⟨h1, h2, _⟩; omega
end

/-! The walk of a chord's region. -/
def selB (c d : Ch) : Bool := decide (d ≠ c ∧ c.f0 ≤ d.f0 ∧ d.f1 ≤ c.f1)
def lowE (c : Ch) : Int := if c.f0 < 0 then 0 else c.f0
def topE (p : Int) (c : Ch) : Int := if c.f1 < p then c.f1 else p - 1
def qOf (P : List Ch) (c : Ch) : List Ch := P.filter (selB c)
def ptsW (p : Int) (P : List Ch) (c : Ch) : List Int := lowE c :: walkP (qOf P c) (topE p c) (topE p c - lowE c).toNat (lowE c)
def chsW (p : Int) (P : List Ch) (c : Ch) : List Ch := (if c = outC p then [] else [c]) ++ walkC (qOf P c) (topE p c) (topE p c - lowE c).toNat (lowE c)
def arcsW (p : Int) (P : List Ch) (c : Ch) : List Int := (if c = outC p then [p - 1] else []) ++ walkA (qOf P c) (topE p c) (topE p c - lowE c).toNat (lowE c)
/-- A plane set of chords of so many points. -/
structure PlaneP (p : Int) (P : List Ch) : Prop where
  pl : Plane P
  nd : P.Nodup
  hp : 3 ≤ p
  ends : ∀ d ∈ P, 0 ≤ d.f0 ∧ d.f1 < p
section
variable {p : Int} {P : List Ch} (H : PlaneP p P)
include H
theorem edge_cases {c : Ch} (hc : c = outC p ∨ c ∈ P) : (c = outC p ∧ lowE c = 0 ∧ topE p c = p - 1) ∨ (c ∈ P ∧ c ≠ outC p ∧ lowE c = c.f0 ∧ topE p c = c.f1 ∧ c.f0 < c.f1 ∧ 0 ≤ c.f0 ∧ c.f1 < p) := by
  rcases hc with rfl | hc
  · refine .inl ⟨rfl, ?_, ?_⟩
    · unfold lowE outC; exact if_pos (by show (-1 : Int) < 0; omega)
    · unfold topE outC; exact if_neg (by show ¬ p < p; omega)
  · have := H.ends c hc
    have := H.pl.ok c hc
    refine .inr ⟨hc, ?_, ?_, ?_, by omega, by omega, by omega⟩
    · rintro rfl
      have h : (0 : Int) ≤ -1 := (H.ends _ hc).1
      omega
    · unfold lowE; exact if_neg (by omega)
    · unfold topE; exact if_pos (by omega)
theorem q_in {c d : Ch} (hd : d ∈ qOf P c) : d ∈ P ∧ d ≠ c ∧ c.f0 ≤ d.f0 ∧ d.f1 ≤ c.f1 := by
  unfold qOf at hd
  rw [List.mem_filter] at hd
  exact ⟨hd.1, of_decide_eq_true hd.2⟩
theorem q_low {c : Ch} (hc : c = outC p ∨ c ∈ P) : ∀ d ∈ qOf P c, lowE c ≤ d.f0 ∧ d.f0 < d.f1 ∧ d.f1 ≤ topE p c := by
  intro d hd
  obtain ⟨h1, h2, h3, h4⟩ := q_in H hd
  have := H.ends d h1
  have := H.pl.ok d h1
  rcases edge_cases H hc with ⟨rfl, e1, e2⟩ | ⟨_, _, e1, e2, _⟩ <;> omega
theorem q_no {c : Ch} : ∀ a ∈ qOf P c, ∀ d ∈ qOf P c, crB a d = false := fun a ha d hd => H.pl.no a (q_in H ha).1 d (q_in H hd).1
theorem free_iff {c : Ch} (hc : c = outC p ∨ c ∈ P) (x : Int) : ((0 ≤ x ∧ x < p) ∧ InR P c x) ↔ lowE c ≤ x ∧ x ≤ topE p c ∧ Free (qOf P c) x := by
  have hf : (∀ d ∈ P, d ≠ c → c.f0 ≤ d.f0 → d.f1 ≤ c.f1 → ¬ (d.f0 < x ∧ x < d.f1)) ↔ Free (qOf P c) x := by
    unfold Free qOf
    constructor
    · intro h d hd
      rw [List.mem_filter] at hd
      obtain ⟨q1, q2, q3⟩ := of_decide_eq_true hd.2
      exact h d hd.1 q1 q2 q3
    · intro h d hd q1 q2 q3
      exact h d (List.mem_filter.2 ⟨hd, decide_eq_true ⟨q1, q2, q3⟩⟩)
  unfold InR
  rw [hf]
  rcases edge_cases H hc with ⟨rfl, e1, e2⟩ | ⟨_, _, e1, e2, _⟩
  · rw [e1, e2]
    unfold outC
    constructor
    · rintro ⟨⟨h1, h2⟩, _, _, h5⟩; exact ⟨by omega, by omega, h5⟩
    · rintro ⟨h1, h2, h3⟩; exact ⟨⟨by omega, by omega⟩, by show (-1 : Int) ≤ x; omega, by show x ≤ p; omega, h3⟩
  · rw [e1, e2]
    constructor
    · rintro ⟨⟨h1, h2⟩, h3, h4, h5⟩; exact ⟨h3, h4, h5⟩
    · rintro ⟨h1, h2, h3⟩; exact ⟨⟨by omega, by omega⟩, h1, h2, h3⟩
theorem low_free {c : Ch} (hc : c = outC p ∨ c ∈ P) : Free (qOf P c) (lowE c) := by
  intro d hd hx
  have := q_low H hc d hd
  omega
theorem top_free {c : Ch} (hc : c = outC p ∨ c ∈ P) : Free (qOf P c) (topE p c) := by
  intro d hd hx
  have := q_low H hc d hd
  omega
theorem low_le {c : Ch} (hc : c = outC p ∨ c ∈ P) : lowE c < topE p c := by
  have := H.hp
  rcases edge_cases H hc with ⟨rfl, e1, e2⟩ | ⟨_, _, e1, e2, _⟩ <;> omega
theorem mem_ptsW {c : Ch} (hc : c = outC p ∨ c ∈ P) (x : Int) : x ∈ ptsW p P c ↔ (0 ≤ x ∧ x < p) ∧ InR P c x := by
  rw [free_iff H hc]
  unfold ptsW
  have hl := low_le H hc
  rw [List.mem_cons, mem_walkP (q_low H hc) (q_no H) _ _ (by omega) (low_free H hc)]
  constructor
  · rintro (rfl | ⟨h1, h2, h3⟩)
    · exact ⟨Int.le_refl _, by omega, low_free H hc⟩
    · exact ⟨by omega, h2, h3⟩
  · rintro ⟨h1, h2, h3⟩
    by_cases e : x = lowE c
    · exact .inl e
    · exact .inr ⟨by omega, h2, h3⟩
theorem ptsTo_rises (q : Int) : (ptsTo q).Pairwise (· < ·) := by
  unfold ptsTo
  rw [List.pairwise_map]
  exact (List.pairwise_lt_range (n := q.toNat)).imp (by intro a b h; omega)
theorem regN_rises (c : Ch) : (regN p P c).Pairwise (· < ·) := (ptsTo_rises H p).sublist List.filter_sublist
theorem rises_uniq : ∀ l1 l2 : List Int, l1.Pairwise (· < ·) → l2.Pairwise (· < ·) → (∀ x, x ∈ l1 ↔ x ∈ l2) → l1 = l2
  | [], [], _, _, _ => rfl
  | [], b :: s, _, _, hm => absurd ((hm b).2 (List.mem_cons_self ..)) (by simp)
  | a :: r, [], _, _, hm => absurd ((hm a).1 (List.mem_cons_self ..)) (by simp)
  | a :: r, b :: s, h1, h2, hm => by
    obtain ⟨p1, q1⟩ := List.pairwise_cons.1 h1
    obtain ⟨p2, q2⟩ := List.pairwise_cons.1 h2
    have hab : a = b := by
      rcases List.mem_cons.1 ((hm a).1 (List.mem_cons_self ..)) with e | ha
      · exact e
      · rcases List.mem_cons.1 ((hm b).2 (List.mem_cons_self ..)) with e | hb
        · exact e.symm
        · have x1 := p2 a ha
          have x2 := p1 b hb
          omega
    subst hab
    rw [rises_uniq r s q1 q2 (fun x => ?_)]
    have hx := hm x
    constructor
    · intro hr
      rcases List.mem_cons.1 (hx.1 (List.mem_cons_of_mem _ hr)) with rfl | hs
      · have := p1 x hr; omega
      · exact hs
    · intro hs
      rcases List.mem_cons.1 (hx.2 (List.mem_cons_of_mem _ hs)) with rfl | hr
      · have := p2 x hs; omega
      · exact hr
/-- The walk's points are the region's. -/
theorem ptsW_eq {c : Ch} (hc : c = outC p ∨ c ∈ P) : ptsW p P c = regN p P c := by
  refine rises_uniq H _ _ ?_ (regN_rises H c) (fun x => ?_)
  · unfold ptsW
    exact (walkP_rises (q_low H hc) (q_no H) _ _).1
  · rw [mem_ptsW H hc, mem_regN]
/-- A chord lies next to another one's region, on its outer side. -/
def Child (P : List Ch) (c d : Ch) : Prop := d ∈ P ∧ d ≠ c ∧ InR P c d.f0 ∧ InR P c d.f1
theorem mem_chsW {c : Ch} (hc : c = outC p ∨ c ∈ P) (d : Ch) : d ∈ chsW p P c ↔ (c ∈ P ∧ d = c) ∨ Child P c d := by
  unfold chsW Child
  have hl := low_le H hc
  rw [List.mem_append, mem_walkC (q_low H hc) (q_no H) _ _ (by omega) (low_free H hc)]
  have h1 : d ∈ (if c = outC p then [] else [c]) ↔ (c ∈ P ∧ d = c) := by
    rcases edge_cases H hc with ⟨rfl, e1, e2⟩ | ⟨h, hn, e1, e2, _⟩
    · rw [if_pos rfl]
      constructor
      · intro h; cases h
      · rintro ⟨h, _⟩
        have h : (0 : Int) ≤ -1 := (H.ends _ h).1
        omega
    · rw [if_neg hn, List.mem_singleton]
      exact ⟨fun e => ⟨h, e⟩, fun e => e.2⟩
  rw [h1]
  refine or_congr Iff.rfl ?_
  constructor
  · rintro ⟨h2, h3, h4, h5⟩
    obtain ⟨g1, g2, g3, g4⟩ := q_in H h2
    have g5 := q_low H hc d h2
    have i0 := (free_iff H hc d.f0).2 ⟨g5.1, by omega, h4⟩
    have i1 := (free_iff H hc d.f1).2 ⟨by omega, g5.2.2, h5⟩
    exact ⟨g1, g2, i0.2, i1.2⟩
  · rintro ⟨h2, h3, h4, h5⟩
    have g0 := H.ends d h2
    have g1 := H.pl.ok d h2
    have hq : d ∈ qOf P c := List.mem_filter.2 ⟨h2, decide_eq_true ⟨h3, h4.1, h5.2.1⟩⟩
    have i0 := (free_iff H hc d.f0).1 ⟨by omega, h4⟩
    have i1 := (free_iff H hc d.f1).1 ⟨by omega, h5⟩
    exact ⟨hq, i0.1, i0.2.2, i1.2.2⟩
theorem child_common {c d : Ch} (h : Child P c d) (x : Int) : (InR P c x ∧ InR P d x) ↔ (x = d.f0 ∨ x = d.f1) := by
  obtain ⟨h1, h2, h3, h4⟩ := h
  have hd := H.pl.ok d h1
  constructor
  · rintro ⟨⟨_, _, q⟩, ⟨a, b, _⟩⟩
    have := q d h1 h2 h3.1 h4.2.1
    omega
  · rintro (rfl | rfl)
    · exact ⟨h3, Int.le_refl _, by omega, fun e _ _ _ _ => by omega⟩
    · exact ⟨h4, by omega, Int.le_refl _, fun e _ _ _ _ => by omega⟩
theorem two_child {c d : Ch} (hc : c = outC p ∨ c ∈ P) (hd : d = outC p ∨ d ∈ P) (hne : c ≠ d) {x y : Int} (hxy : x < y) (hcx : InR P c x) (hcy : InR P c y) (hdx : InR P d x) (hdy : InR P d y) : Child P c d ∨ Child P d c := by
  have key : ∀ c d : Ch, c = outC p ∨ c ∈ P → d ∈ P → c ≠ d → c.f0 ≤ d.f0 → d.f1 ≤ c.f1 → InR P c x → InR P c y → InR P d x → InR P d y → Child P c d := by
    intro c d hc hd hne q1 q2 hcx hcy hdx hdy
    have hdo := H.pl.ok d hd
    have a1 := hdx.1
    have a2 := hdy.2.1
    refine ⟨hd, Ne.symm hne, ⟨q1, by omega, fun e he hec w1 w2 hx => ?_⟩, ⟨by omega, q2, fun e he hec w1 w2 hx => ?_⟩⟩
    · have := nocr (H.pl.no e he d hd)
      have := hcx.2.2 e he hec w1 w2
      have := hcy.2.2 e he hec w1 w2
      omega
    · have := nocr (H.pl.no e he d hd)
      have := hcx.2.2 e he hec w1 w2
      have := hcy.2.2 e he hec w1 w2
      omega
  have b1 := hcx.1; have b2 := hcy.2.1; have b3 := hdx.1; have b4 := hdy.2.1
  have a1 := hcx.2.1; have a2 := hcy.1; have a3 := hdx.2.1; have a4 := hdy.1
  rcases hc with rfl | hc
  · rcases hd with rfl | hd
    · exact absurd rfl hne
    · have := H.ends d hd
      exact .inl (key _ d (.inl rfl) hd hne (by show (-1 : Int) ≤ d.f0; omega) (by show d.f1 ≤ p; omega) hcx hcy hdx hdy)
  · rcases hd with rfl | hd
    · have := H.ends c hc
      exact .inr (key _ c (.inl rfl) hc (Ne.symm hne) (by show (-1 : Int) ≤ c.f0; omega) (by show c.f1 ≤ p; omega) hdx hdy hcx hcy)
    · have := nocr (H.pl.no c hc d hd)
      by_cases hin : c.f0 ≤ d.f0 ∧ d.f1 ≤ c.f1
      · exact .inl (key c d (.inr hc) hd hne hin.1 hin.2 hcx hcy hdx hdy)
      · exact .inr (key d c (.inr hd) hc (Ne.symm hne) (by omega) (by omega) hdx hdy hcx hcy)
/-- Two regions share a chord just if one's chord is the other's child. -/
theorem share_iff {c d : Ch} (hc : c = outC p ∨ c ∈ P) (hd : d = outC p ∨ d ∈ P) (hne : c ≠ d) : (∃ e ∈ chsW p P c, e ∈ chsW p P d) ↔ Child P c d ∨ Child P d c := by
  constructor
  · rintro ⟨e, h1, h2⟩
    rw [mem_chsW H hc] at h1
    rw [mem_chsW H hd] at h2
    rcases h1 with ⟨h1, rfl⟩ | h1
    · rcases h2 with ⟨h2, rfl⟩ | h2
      · exact absurd rfl hne
      · exact .inr h2
    · rcases h2 with ⟨h2, rfl⟩ | h2
      · exact .inl h1
      · exact two_child H hc hd hne (H.pl.ok e h1.1) h1.2.2.1 h1.2.2.2 h2.2.2.1 h2.2.2.2
  · rintro (h | h)
    · exact ⟨d, (mem_chsW H hc d).2 (.inr h), (mem_chsW H hd d).2 (.inl ⟨h.1, rfl⟩)⟩
    · exact ⟨c, (mem_chsW H hc c).2 (.inl ⟨h.1, rfl⟩), (mem_chsW H hd c).2 (.inr h)⟩
/-- How many points two regions have in common. -/
def comN (a b : List Int) : Nat := b.countP fun x => a.contains x
theorem rises_two {l : List Int} (hl : l.Pairwise (· < ·)) {a b : Int} (hab : a < b) (h : ∀ x, x ∈ l ↔ (x = a ∨ x = b)) : l = [a, b] :=
  rises_uniq H l [a, b] hl (by simp [hab]) (fun x => by rw [h x]; simp)
theorem com_two {c d : Ch} (hc : c = outC p ∨ c ∈ P) (hd : d = outC p ∨ d ∈ P) (hne : c ≠ d) : (comN (regN p P c) (regN p P d) = 2) ↔ Child P c d ∨ Child P d c := by
  unfold comN
  rw [List.countP_eq_length_filter]
  have hs : ((regN p P d).filter fun x => (regN p P c).contains x).Pairwise (· < ·) := (regN_rises H d).sublist List.filter_sublist
  have hm : ∀ x, x ∈ ((regN p P d).filter fun x => (regN p P c).contains x) ↔ (0 ≤ x ∧ x < p) ∧ InR P c x ∧ InR P d x := by
    intro x
    rw [List.mem_filter, List.contains_iff_mem, mem_regN, mem_regN]
    constructor
    · rintro ⟨⟨h1, h2⟩, h3, h4⟩; exact ⟨h1, h4, h2⟩
    · rintro ⟨h1, h2, h3⟩; exact ⟨⟨h1, h3⟩, h1, h2⟩
  constructor
  · intro h
    obtain ⟨l, hl⟩ : ∃ l, l = ((regN p P d).filter fun x => (regN p P c).contains x) := ⟨_, rfl⟩
    rw [← hl] at h hs hm
    match l, h, hs, hm with
    | [x, y], _, hs, hm =>
      have hxy : x < y := by simpa using hs
      have h1 := (hm x).1 (by simp)
      have h2 := (hm y).1 (by simp)
      exact two_child H hc hd hne hxy h1.2.1 h2.2.1 h1.2.2 h2.2.2
  · rintro (h | h)
    · have e := rises_two H hs (H.pl.ok d h.1) (fun x => by
        rw [hm x, child_common H h]
        have := H.ends d h.1; have := H.pl.ok d h.1
        constructor
        · exact fun q => q.2
        · exact fun q => ⟨by omega, q⟩)
      rw [e]; rfl
    · have e := rises_two H hs (H.pl.ok c h.1) (fun x => by
        rw [hm x, and_comm (a := InR P c x), child_common H h]
        have := H.ends c h.1; have := H.pl.ok c h.1
        constructor
        · exact fun q => q.2
        · exact fun q => ⟨by omega, q⟩)
      rw [e]; rfl
/-- The arc of a region, as the reference tells it. -/
def arcB (p : Int) (P : List Ch) (r : List Int) (i : Int) : Bool :=
  decide (i ∈ r ∧ Int.emod (i + 1) p ∈ r ∧ ((⟨min i (Int.emod (i + 1) p), max i (Int.emod (i + 1) p)⟩ : Ch) ∉ P ∨ r.length = 2))
theorem three_len {l : List Int} {a b c : Int} (hab : a < b) (hbc : b < c) (h1 : a ∈ l) (h2 : b ∈ l) (h3 : c ∈ l) (hl : l.Pairwise (· < ·)) : l.length ≠ 2 := by
  intro h
  match l, h, h1, h2, h3, hl with
  | [x, y], _, h1, h2, h3, hl =>
    simp only [List.mem_cons, List.not_mem_nil, or_false] at h1 h2 h3
    omega
theorem arc_iff {c : Ch} (hc : c = outC p ∨ c ∈ P) (i : Int) (h0 : 0 ≤ i) (h1 : i < p) : i ∈ arcsW p P c ↔ arcB p P (regN p P c) i = true := by
  unfold arcsW arcB
  have hp := H.hp
  have hl := low_le H hc
  rw [decide_eq_true_eq, List.mem_append, mem_walkA (q_low H hc) (q_no H) _ _ (by omega) (low_free H hc)]
  have hm : ∀ x, x ∈ regN p P c ↔ lowE c ≤ x ∧ x ≤ topE p c ∧ Free (qOf P c) x := fun x => by rw [mem_regN, free_iff H hc]
  by_cases hi : i = p - 1
  · subst hi
    have e0 : Int.emod (p - 1 + 1) p = 0 := by
      rw [show p - 1 + 1 = p by omega]
      exact Int.emod_self
    rw [e0, show min (p - 1) 0 = (0 : Int) by omega, show max (p - 1) 0 = p - 1 by omega, hm, hm]
    rcases edge_cases H hc with ⟨rfl, e1, e2⟩ | ⟨hcP, hn, e1, e2, e3, e4, e5⟩
    · rw [if_pos rfl]
      constructor
      · intro _
        refine ⟨⟨by omega, by omega, by rw [← e2]; exact top_free H hc⟩, ⟨by omega, by omega, by rw [← e1]; exact low_free H hc⟩, ?_⟩
        by_cases hin : (⟨0, p - 1⟩ : Ch) ∈ P
        · right
          have hq : (⟨0, p - 1⟩ : Ch) ∈ qOf P (outC p) := List.mem_filter.2 ⟨hin, decide_eq_true ⟨by unfold outC; simp, by show (-1 : Int) ≤ 0; omega, by show p - 1 ≤ p; omega⟩⟩
          have := rises_two H (regN_rises H (outC p)) (a := 0) (b := p - 1) (by omega) (fun x => by
            rw [hm]
            constructor
            · rintro ⟨q1, q2, q3⟩
              have : ¬ ((0 : Int) < x ∧ x < p - 1) := q3 _ hq
              omega
            · rintro (rfl | rfl)
              · exact ⟨by omega, by omega, by have := low_free H hc; rwa [e1] at this⟩
              · exact ⟨by omega, by omega, by have := top_free H hc; rwa [e2] at this⟩)
          rw [this]; rfl
        · exact .inl hin
      · intro _
        exact .inl (by simp)
    · rw [if_neg hn]
      constructor
      · rintro (h | ⟨h2, h3, _⟩)
        · cases h
        · omega
      · rintro ⟨⟨q1, q2, _⟩, ⟨q3, q4, _⟩, hor⟩
        exfalso
        have hce : c = ⟨0, p - 1⟩ := by cases c; simp only [S47.mk.injEq] at *; omega
        rcases hor with hor | hor
        · exact hor (hce ▸ hcP)
        · have hg := nxt_gt (q_low H hc) (lowE c)
          have hle := nxt_le (q_low H hc) hl
          have hf := nxt_free (q_low H hc) (q_no H) (low_free H hc)
          by_cases e : nxt (qOf P c) (lowE c) = topE p c
          · unfold nxt at e
            split at e
            · rename_i g
              rcases nxF_mem (lowE c) (qOf P c) (lowE c) with e' | ⟨d, hd, g1, g2⟩
              · omega
              · have hd2 := q_in H hd
                exact hd2.2.1 (by cases d; cases c; simp only [S47.mk.injEq] at *; omega)
            · have c0 : c.f0 = 0 := by rw [hce]
              have c1 : c.f1 = p - 1 := by rw [hce]
              omega
          · exact three_len H (a := lowE c) (b := nxt (qOf P c) (lowE c)) (c := topE p c) hg (by omega) ((hm _).2 ⟨by omega, by omega, low_free H hc⟩) ((hm _).2 ⟨by omega, by omega, hf⟩) ((hm _).2 ⟨by omega, by omega, top_free H hc⟩) (regN_rises H c) hor
  · have e0 : Int.emod (i + 1) p = i + 1 := Int.emod_eq_of_lt (by omega) (by omega)
    rw [e0, show min i (i + 1) = i by omega, show max i (i + 1) = i + 1 by omega, hm, hm]
    constructor
    · rintro (h | ⟨h2, h3, h4, h5, h6⟩)
      · split at h
        · rw [List.mem_singleton] at h; omega
        · cases h
      · refine ⟨⟨h2, by omega, h4⟩, ⟨by omega, by omega, h5⟩, ?_⟩
        by_cases hin : (⟨i, i + 1⟩ : Ch) ∈ P
        · right
          have hce : c = ⟨i, i + 1⟩ := by
            by_cases e : (⟨i, i + 1⟩ : Ch) = c
            · exact e.symm
            · exfalso
              apply h6
              refine List.mem_filter.2 ⟨hin, decide_eq_true ⟨e, ?_, ?_⟩⟩
              · rcases edge_cases H hc with ⟨rfl, e1, e2⟩ | ⟨hcP, hn, e1, e2, e3, e4, e5⟩
                · show (-1 : Int) ≤ i; omega
                · show c.f0 ≤ i; omega
              · rcases edge_cases H hc with ⟨rfl, e1, e2⟩ | ⟨hcP, hn, e1, e2, e3, e4, e5⟩
                · show i + 1 ≤ p; omega
                · show i + 1 ≤ c.f1; omega
          have e1 : c.f0 = i := by rw [hce]
          have e2 : c.f1 = i + 1 := by rw [hce]
          rcases edge_cases H hc with ⟨rfl, g1, g2⟩ | ⟨hcP, hn, g1, g2, _⟩
          · have : (-1 : Int) = i := e1
            omega
          · have := rises_two H (regN_rises H c) (a := i) (b := i + 1) (by omega) (fun x => by
              rw [hm]
              constructor
              · rintro ⟨q1, q2, q3⟩; omega
              · rintro (rfl | rfl)
                · exact ⟨by omega, by omega, h4⟩
                · exact ⟨by omega, by omega, h5⟩)
            rw [this]; rfl
        · exact .inl hin
    · rintro ⟨⟨q1, q2, q3⟩, ⟨q4, q5, q6⟩, hor⟩
      refine .inr ⟨q1, by omega, q3, q6, fun hq => ?_⟩
      have hq2 := q_in H hq
      rcases hor with hor | hor
      · exact hor hq2.1
      · have hne := hq2.2.1
        rcases edge_cases H hc with ⟨rfl, g1, g2⟩ | ⟨hcP, hn, g1, g2, _⟩
        · by_cases e : i = 0
          · exact three_len H (a := i) (b := i + 1) (c := p - 1) (by omega) (by omega) ((hm _).2 ⟨q1, q2, q3⟩) ((hm _).2 ⟨q4, q5, q6⟩) ((hm _).2 ⟨by omega, by omega, by have := top_free H hc; rwa [g2] at this⟩) (regN_rises H _) hor
          · exact three_len H (a := 0) (b := i) (c := i + 1) (by omega) (by omega) ((hm _).2 ⟨by omega, by omega, by have := low_free H hc; rwa [g1] at this⟩) ((hm _).2 ⟨q1, q2, q3⟩) ((hm _).2 ⟨q4, q5, q6⟩) (regN_rises H _) hor
        · have hcc := ch_ne hne
          have hcc : i ≠ c.f0 ∨ i + 1 ≠ c.f1 := hcc
          by_cases e : i = lowE c
          · exact three_len H (a := i) (b := i + 1) (c := topE p c) (by omega) (by omega) ((hm _).2 ⟨q1, q2, q3⟩) ((hm _).2 ⟨q4, q5, q6⟩) ((hm _).2 ⟨by omega, by omega, top_free H hc⟩) (regN_rises H _) hor
          · exact three_len H (a := lowE c) (b := i) (c := i + 1) (by omega) (by omega) ((hm _).2 ⟨by omega, by omega, low_free H hc⟩) ((hm _).2 ⟨q1, q2, q3⟩) ((hm _).2 ⟨q4, q5, q6⟩) (regN_rises H _) hor
end

/-! Triangles. -/
theorem regN_same {p : Int} {P P' : List Ch} (h : ∀ x, x ∈ P ↔ x ∈ P') (c : Ch) : regN p P c = regN p P' c := by
  refine regN_congr (fun x => ?_)
  unfold InR
  constructor
  · rintro ⟨h1, h2, h3⟩; exact ⟨h1, h2, fun d hd => h3 d ((h d).2 hd)⟩
  · rintro ⟨h1, h2, h3⟩; exact ⟨h1, h2, fun d hd => h3 d ((h d).1 hd)⟩
def sumL (rs : List (List Int)) : Nat := (rs.map List.length).sum
theorem cut_len {e : Ch} (he : e.f0 < e.f1) : ∀ r : List Int, r.Pairwise (· < ·) → (cutIn e r).length + (cutOut e r).length = r.length + (if e.f0 ∈ r then 1 else 0) + (if e.f1 ∈ r then 1 else 0)
  | [], _ => rfl
  | x :: r, h => by
    obtain ⟨h1, h2⟩ := List.pairwise_cons.1 h
    have ih := cut_len he r h2
    have n0 : x = e.f0 → e.f0 ∉ r := fun q hr => by have := h1 _ hr; omega
    have n1 : x = e.f1 → e.f1 ∉ r := fun q hr => by have := h1 _ hr; omega
    unfold cutIn cutOut at *
    rw [List.filter_cons, List.filter_cons]
    simp only [decide_eq_true_eq, List.mem_cons]
    by_cases a : x = e.f0
    · have := n0 a
      rw [if_pos (by omega), if_pos (by omega), if_pos (.inl a.symm)]
      rw [if_neg this] at ih
      have e1 : (e.f1 = x ∨ e.f1 ∈ r) ↔ e.f1 ∈ r := ⟨fun q => q.elim (fun q => by omega) id, .inr⟩
      simp only [e1, List.length_cons]
      omega
    · by_cases b : x = e.f1
      · have := n1 b
        rw [if_pos (by omega), if_pos (by omega)]
        rw [if_neg this] at ih
        have e0 : (e.f0 = x ∨ e.f0 ∈ r) ↔ e.f0 ∈ r := ⟨fun q => q.elim (fun q => by omega) id, .inr⟩
        have e1 : (e.f1 = x ∨ e.f1 ∈ r) ↔ True := ⟨fun _ => trivial, fun _ => .inl b.symm⟩
        simp only [e0, e1, List.length_cons, if_true]
        omega
      · have e0 : (e.f0 = x ∨ e.f0 ∈ r) ↔ e.f0 ∈ r := ⟨fun q => q.elim (fun q => absurd q.symm a) id, .inr⟩
        have e1 : (e.f1 = x ∨ e.f1 ∈ r) ↔ e.f1 ∈ r := ⟨fun q => q.elim (fun q => absurd q.symm b) id, .inr⟩
        simp only [e0, e1]
        by_cases c : e.f0 ≤ x ∧ x ≤ e.f1
        · rw [if_pos c, if_neg (by omega), List.length_cons, List.length_cons]; omega
        · rw [if_neg c, if_pos (by omega), List.length_cons, List.length_cons]; omega
theorem step_sum {e : Ch} (he : e.f0 < e.f1) : ∀ rs : List (List Int), (∀ r ∈ rs, r.Pairwise (· < ·)) → (∃ r ∈ rs, hasB e r = true) → sumL (stepR e rs) = sumL rs + 2
  | [], _, h => by obtain ⟨r, hr, _⟩ := h; cases hr
  | r :: rs, hs, h => by
    rw [stepR]
    by_cases hb : hasB e r = true
    · rw [if_pos hb]
      have hb' := of_decide_eq_true hb
      have := cut_len he r (hs r (List.mem_cons_self ..))
      rw [if_pos hb'.1, if_pos hb'.2] at this
      simp only [sumL, List.map_cons, List.sum_cons]
      omega
    · rw [if_neg hb]
      obtain ⟨r', hr', h'⟩ := h
      rcases List.mem_cons.1 hr' with rfl | hr'
      · exact absurd h' hb
      · have ih := step_sum he rs (fun q hq => hs q (List.mem_cons_of_mem _ hq)) ⟨r', hr', h'⟩
        simp only [sumL, List.map_cons, List.sum_cons] at ih ⊢
        omega
theorem perm_sumL {a b : List (List Int)} (h : a.Perm b) : sumL a = sumL b := by
  unfold sumL
  exact (h.map List.length).sum_nat
theorem foldR_sum {p : Int} : ∀ (l P : List Ch), Plane (P ++ l) → (∀ d ∈ P ++ l, 0 ≤ d.f0 ∧ d.f1 < p) → (P ++ l).Nodup → ∀ cs : List Ch, cs.Perm (outC p :: P) →
    sumL (foldR l (cs.map (regN p P))) = sumL (cs.map (regN p P)) + 2 * l.length
  | [], P, hP, hb, hn, cs, hc => by simp [foldR]
  | e :: l, P, hP, hb, hn, cs, hc => by
    have hPP : Plane P := ⟨fun c h => hP.ok c (List.mem_append_left _ h), fun c h d h' => hP.no c (List.mem_append_left _ h) d (List.mem_append_left _ h')⟩
    have hemem : e ∈ P ++ e :: l := List.mem_append_right _ (List.mem_cons_self ..)
    have hPe : ∀ d ∈ P, crB d e = false := fun d hd => hP.no d (List.mem_append_left _ hd) e hemem
    have hee := hP.ok e hemem
    have hb0 := hb e hemem
    have hn2 := List.nodup_append.1 hn
    have he : e ∉ P := fun h => hn2.2.2 e h e (List.mem_cons_self ..) rfl
    have hOO : ∀ d ∈ e :: P, (outC p).f0 < d.f0 ∧ d.f1 < (outC p).f1 := by
      intro d hd
      have : 0 ≤ d.f0 ∧ d.f1 < p := by
        rcases List.mem_cons.1 hd with rfl | hd
        · exact hb0
        · exact hb d (List.mem_append_left _ hd)
      show -1 < d.f0 ∧ d.f1 < p
      omega
    obtain ⟨c0, hc0, hA, hB⟩ := least_around hPe hPP.ok he hee (hOO e (List.mem_cons_self ..))
    have hmem : ∀ c ∈ cs, c = outC p ∨ c ∈ P := fun c h => List.mem_cons.1 (hc.mem_iff.1 h)
    have hOn : outC p ∉ P := fun h => by have := hb _ (List.mem_append_left _ h); have h2 : (0 : Int) ≤ -1 := this.1; omega
    have hnd : cs.Nodup := hc.nodup_iff.2 (List.nodup_cons.2 ⟨hOn, hn2.1⟩)
    have hs := step_regs hPP hOO hPe he hee hb0.1 hb0.2 hA hB hc0 cs hnd hmem
    have hex : ∃ c ∈ cs, hasB e (regN p P c) = true := by
      refine ⟨c0, hc.mem_iff.2 (List.mem_cons.2 hc0), ?_⟩
      unfold hasB
      rw [decide_eq_true_eq, mem_regN, mem_regN]
      exact ⟨⟨by omega, hA⟩, ⟨by omega, hB⟩⟩
    have hp2 : (insR p P e cs).Perm (outC p :: (P ++ [e])) := by
      refine (insR_perm cs hex).trans ?_
      refine (hc.cons e).trans ((List.Perm.swap _ _ _).trans (List.Perm.cons _ ?_))
      exact (List.perm_append_singleton e P).symm
    have h := foldR_sum l (P ++ [e]) (by rw [List.append_assoc]; exact hP) (by rw [List.append_assoc]; exact hb) (by rw [List.append_assoc]; exact hn) _ hp2
    rw [← hs] at h
    have hr1 : ∀ r ∈ cs.map (regN p P), r.Pairwise (· < ·) := by
      intro r hr
      obtain ⟨c, _, rfl⟩ := List.mem_map.1 hr
      unfold regN ptsTo
      refine List.Pairwise.sublist List.filter_sublist ?_
      rw [List.pairwise_map]
      exact (List.pairwise_lt_range (n := p.toNat)).imp (by intro a b h; omega)
    have hr2 : ∃ r ∈ cs.map (regN p P), hasB e r = true := by
      obtain ⟨c, h1, h2⟩ := hex
      exact ⟨_, List.mem_map.2 ⟨c, h1, rfl⟩, h2⟩
    rw [foldR, h, step_sum hee _ hr1 hr2, List.length_cons]
    omega
theorem regN_nil (p : Int) (hp : 3 ≤ p) : (regN p [] (outC p)).length = p.toNat := by
  unfold regN
  rw [List.filter_eq_self.2 (fun x hx => by
    rw [inR_iff]
    have := mem_ptsTo.1 hx
    exact ⟨by show (-1 : Int) ≤ x; omega, by show x ≤ p; omega, fun d hd => by cases hd⟩)]
  simp [ptsTo]
/-- Points of all regions, together. -/
theorem sum_regs {p : Int} {P : List Ch} (H : PlaneP p P) : sumL ((outC p :: P).map (regN p P)) = p.toNat + 2 * P.length := by
  have hn := H.nd
  obtain ⟨ds, hd, e⟩ := foldR_regs P [] (by simpa using H.pl) (by simpa using H.ends) (by simpa using hn) [outC p] (List.Perm.refl _)
  have h := foldR_sum P [] (by simpa using H.pl) (by simpa using H.ends) (by simpa using hn) [outC p] (List.Perm.refl _)
  rw [List.nil_append] at hd e
  rw [e] at h
  rw [perm_sumL (hd.symm.map (regN p P)), h]
  simp only [List.map_cons, List.map_nil, sumL, List.sum_cons, List.sum_nil]
  rw [regN_nil p H.hp]
  omega
theorem all_three : ∀ (l : List Nat), (∀ x ∈ l, 3 ≤ x) → l.sum ≤ 3 * l.length → ∀ x ∈ l, x = 3
  | [], _, _, x, h => by cases h
  | a :: l, h, hs, x, hx => by
    have h1 := h a (List.mem_cons_self ..)
    have hge : 3 * l.length ≤ l.sum := by
      have : ∀ q : List Nat, (∀ x ∈ q, 3 ≤ x) → 3 * q.length ≤ q.sum := by
        intro q
        induction q with
        | nil => intro _; simp
        | cons b q ih =>
          intro hq
          have := hq b (List.mem_cons_self ..)
          have := ih (fun x hx => hq x (List.mem_cons_of_mem _ hx))
          simp only [List.length_cons, List.sum_cons]
          omega
      exact this l (fun x hx => h x (List.mem_cons_of_mem _ hx))
    simp only [List.length_cons, List.sum_cons] at hs
    rcases List.mem_cons.1 hx with rfl | hx
    · omega
    · exact all_three l (fun x hx => h x (List.mem_cons_of_mem _ hx)) (by omega) x hx
/-- Sets that leave triangles. -/
structure Tri (p : Int) (P : List Ch) : Prop where
  H : PlaneP p P
  diag : ∀ d ∈ P, 1 < d.f1 - d.f0 ∧ d.f1 - d.f0 < p - 1
  len : (P.length : Int) = p - 3
section
variable {p : Int} {P : List Ch} (T : Tri p P)
include T
theorem tri_ge {c : Ch} (hc : c = outC p ∨ c ∈ P) (hp : 4 ≤ p) : 3 ≤ (regN p P c).length := by
  have H := T.H
  have hl := low_le H hc
  have hm : ∀ x, x ∈ regN p P c ↔ lowE c ≤ x ∧ x ≤ topE p c ∧ Free (qOf P c) x := fun x => by rw [mem_regN, free_iff H hc]
  have hg := nxt_gt (q_low H hc) (lowE c)
  have hle := nxt_le (q_low H hc) hl
  have hf := nxt_free (q_low H hc) (q_no H) (low_free H hc)
  have m1 := (hm (lowE c)).2 ⟨by omega, by omega, low_free H hc⟩
  have m2 := (hm (nxt (qOf P c) (lowE c))).2 ⟨by omega, by omega, hf⟩
  have m3 := (hm (topE p c)).2 ⟨by omega, by omega, top_free H hc⟩
  have hlt : nxt (qOf P c) (lowE c) < topE p c := by
    have : nxt (qOf P c) (lowE c) ≠ topE p c := by
      intro e
      unfold nxt at e
      split at e
      · rename_i g
        rcases nxF_mem (lowE c) (qOf P c) (lowE c) with e' | ⟨d, hd, g1, g2⟩
        · omega
        · have hd2 := q_in H hd
          have hdd := T.diag d hd2.1
          rcases edge_cases H hc with ⟨rfl, e1, e2⟩ | ⟨hcP, hn, e1, e2, _⟩
          · omega
          · exact hd2.2.1 (by cases d; cases c; simp only [S47.mk.injEq] at *; omega)
      · rcases edge_cases H hc with ⟨rfl, e1, e2⟩ | ⟨hcP, hn, e1, e2, _⟩
        · omega
        · have := T.diag c hcP; omega
    omega
  have hr := regN_rises H c
  obtain ⟨l, hl2⟩ : ∃ l, l = regN p P c := ⟨_, rfl⟩
  rw [← hl2] at hr m1 m2 m3 ⊢
  match l, hr, m1, m2, m3 with
  | [], _, h, _, _ => cases h
  | [a], _, h1, h2, h3 => simp only [List.mem_singleton] at h1 h2 h3; omega
  | [a, b], _, h1, h2, h3 => simp only [List.mem_cons, List.not_mem_nil, or_false] at h1 h2 h3; omega
  | a :: b :: c :: r, _, _, _, _ => simp
theorem tri_three {c : Ch} (hc : c = outC p ∨ c ∈ P) (hp : 4 ≤ p) : (regN p P c).length = 3 := by
  have h := sum_regs T.H
  have hlen := T.len
  unfold sumL at h
  refine all_three (((outC p :: P).map (regN p P)).map List.length) (fun x hx => ?_) ?_ _ (List.mem_map.2 ⟨regN p P c, List.mem_map.2 ⟨c, List.mem_cons.2 hc, rfl⟩, rfl⟩)
  · obtain ⟨r, hr, rfl⟩ := List.mem_map.1 hx
    obtain ⟨d, hd, rfl⟩ := List.mem_map.1 hr
    exact tri_ge T (List.mem_cons.1 hd) hp
  · rw [h]
    simp only [List.length_map, List.length_cons]
    omega
/-- A chord of the set, or a side of the whole. -/
def Join (p : Int) (P : List Ch) (x y : Int) : Prop := ¬ (1 < y - x ∧ y - x < p - 1) ∨ (⟨x, y⟩ : Ch) ∈ P
/-- The points of a triangle: joined, two by two. -/
theorem tri_pts {c : Ch} (hc : c = outC p ∨ c ∈ P) (hp : 4 ≤ p) : ∃ m, regN p P c = [lowE c, m, topE p c] ∧ lowE c < m ∧ m < topE p c ∧ Join p P (lowE c) m ∧ Join p P m (topE p c) ∧ Join p P (lowE c) (topE p c) := by
  have H := T.H
  have hl := low_le H hc
  have hm : ∀ x, x ∈ regN p P c ↔ lowE c ≤ x ∧ x ≤ topE p c ∧ Free (qOf P c) x := fun x => by rw [mem_regN, free_iff H hc]
  have m1 := (hm (lowE c)).2 ⟨by omega, by omega, low_free H hc⟩
  have m3 := (hm (topE p c)).2 ⟨by omega, by omega, top_free H hc⟩
  have hr := regN_rises H c
  have h3 := tri_three T hc hp
  have jn : ∀ a b, a ∈ regN p P c → b ∈ regN p P c → a < b → (∀ x, x ∈ regN p P c → a < x → b ≤ x) → Join p P a b := by
    intro a b ha hb hab hnx
    have ha := (hm a).1 ha
    have hb := (hm b).1 hb
    have hg := nxt_gt (q_low H hc) a
    have hle := nxt_le (q_low H hc) (a := a) (by omega)
    have hf := nxt_free (q_low H hc) (q_no H) ha.2.2
    have h1 := hnx (nxt (qOf P c) a) ((hm _).2 ⟨by omega, by omega, hf⟩) hg
    have h2 : ¬ b < nxt (qOf P c) a := fun q => nxt_gap (q_low H hc) hab q hb.2.2
    have e : nxt (qOf P c) a = b := by omega
    unfold nxt at e
    split at e
    · right
      rcases nxF_mem a (qOf P c) a with e' | ⟨d, hd, g1, g2⟩
      · omega
      · have : d = ⟨a, b⟩ := by cases d; simp only [S47.mk.injEq] at *; omega
        rw [← this]
        exact (q_in H hd).1
    · left; omega
  obtain ⟨l, hl2⟩ : ∃ l, l = regN p P c := ⟨_, rfl⟩
  rw [← hl2] at hr m1 m3 h3 jn hm ⊢
  match l, h3, hr, m1, m3, jn, hm with
  | [a, m, b], _, hr, h1, h3, jn, hm =>
    simp only [List.pairwise_cons, List.mem_cons, List.not_mem_nil, or_false, forall_eq_or_imp, forall_eq] at hr
    have qa := (hm a).1 (by simp)
    have qb := (hm b).1 (by simp)
    have qm := (hm m).1 (by simp)
    have ea : a = lowE c := by
      simp only [List.mem_cons, List.not_mem_nil, or_false] at h1
      omega
    have eb : b = topE p c := by
      simp only [List.mem_cons, List.not_mem_nil, or_false] at h3
      omega
    subst ea eb
    refine ⟨m, rfl, by omega, by omega, ?_, ?_, ?_⟩
    · refine jn _ _ (by simp) (by simp) (by omega) (fun x hx h => ?_)
      simp only [List.mem_cons, List.not_mem_nil, or_false] at hx
      omega
    · refine jn _ _ (by simp) (by simp) (by omega) (fun x hx h => ?_)
      simp only [List.mem_cons, List.not_mem_nil, or_false] at hx
      omega
    · rcases edge_cases H hc with ⟨rfl, e1, e2⟩ | ⟨hcP, hn, e1, e2, _⟩
      · left; omega
      · right; rw [e1, e2]; exact hcP
theorem join_in {x y : Int} (h : Join p P x y) (h1 : 1 < y - x) (h2 : y - x < p - 1) : (⟨x, y⟩ : Ch) ∈ P := by
  rcases h with h | h
  · exact absurd ⟨h1, h2⟩ h
  · exact h
/-- Which points are joined to both ends of a chord: the two apexes. -/
theorem apexes {old c0 : Ch} (ho : old ∈ P) (hc0 : c0 = outC p ∨ c0 ∈ P) (hch : Child P c0 old) (hp : 4 ≤ p) :
    ∃ y z, y ∈ regN p P old ∧ z ∈ regN p P c0 ∧ old.f0 < y ∧ y < old.f1 ∧ (z < old.f0 ∨ old.f1 < z) ∧ 0 ≤ z ∧ z < p ∧
      (∀ x, x ∈ regN p P old ↔ x = old.f0 ∨ x = y ∨ x = old.f1) ∧ (∀ x, x ∈ regN p P c0 ↔ x = old.f0 ∨ x = z ∨ x = old.f1) ∧
      ∀ q, 0 ≤ q → q < p → q ≠ old.f0 → q ≠ old.f1 → ((Join p P (min q old.f0) (max q old.f0) ∧ Join p P (min q old.f1) (max q old.f1)) ↔ (q = y ∨ q = z)) := by
  have H := T.H
  have hee := H.ends old ho
  have hok := H.pl.ok old ho
  have hne : old ≠ outC p := by rintro rfl; have h : (0 : Int) ≤ -1 := hee.1; omega
  obtain ⟨y, ey, y1, y2, y3, y4, y5⟩ := tri_pts T (.inr ho) hp
  rcases edge_cases H (.inr ho : old = outC p ∨ old ∈ P) with ⟨e, _⟩ | ⟨_, _, e1, e2, _⟩
  · exact absurd e hne
  rw [e1] at ey y1 y3 y5
  rw [e2] at ey y2 y4 y5
  obtain ⟨m, em, m1, m2, m3, m4, m5⟩ := tri_pts T hc0 hp
  have hA : old.f0 ∈ regN p P c0 := mem_regN.2 ⟨⟨hee.1, by omega⟩, hch.2.2.1⟩
  have hB : old.f1 ∈ regN p P c0 := mem_regN.2 ⟨⟨by omega, hee.2⟩, hch.2.2.2⟩
  have hyin : InR P old y := (mem_regN.1 (show y ∈ regN p P old by rw [ey]; simp)).2
  have hAin := hch.2.2.1
  have hBin := hch.2.2.2
  have hoc : old ≠ c0 := hch.2.1
  rw [em] at hA hB
  simp only [List.mem_cons, List.not_mem_nil, or_false] at hA hB
  have hlb : (0 ≤ lowE c0 ∧ topE p c0 < p) ∧ ((c0 = outC p ∧ lowE c0 = 0 ∧ topE p c0 = p - 1) ∨ (c0 ∈ P ∧ lowE c0 = c0.f0 ∧ topE p c0 = c0.f1)) := by
    have := H.hp
    rcases edge_cases H hc0 with ⟨q, q1, q2⟩ | ⟨q, _, q1, q2, _⟩
    · exact ⟨by omega, .inl ⟨q, q1, q2⟩⟩
    · exact ⟨by omega, .inr ⟨q, q1, q2⟩⟩
  -- inside
  have inner : ∀ q, old.f0 < q → q < old.f1 → Join p P old.f0 q → Join p P q old.f1 → q = y := by
    intro q q1 q2 j1 j2
    have hlt : ¬ q < y := by
      intro h
      have hin := join_in T j2 (by omega) (by omega)
      exact hyin.2.2 _ hin (by intro e; have e : q = old.f0 := congrArg S47.f0 e; omega) (by show old.f0 ≤ q; omega) (by show old.f1 ≤ old.f1; omega) ⟨h, by show y < old.f1; omega⟩
    have hgt : ¬ y < q := by
      intro h
      have hin := join_in T j1 (by omega) (by omega)
      exact hyin.2.2 _ hin (by intro e; have e : q = old.f1 := congrArg S47.f1 e; omega) (by show old.f0 ≤ old.f0; omega) (by show q ≤ old.f1; omega) ⟨by show old.f0 < y; omega, h⟩
    omega
  have cross : ∀ a b u v : Int, (⟨a, b⟩ : Ch) ∈ P → (⟨u, v⟩ : Ch) ∈ P → ¬ (a < u ∧ u < b ∧ b < v) := fun a b u v h1 h2 => (nocr (H.pl.no _ h1 _ h2)).1
  have c0e : c0 ∈ P → (⟨lowE c0, topE p c0⟩ : Ch) ∈ P := by
    intro h
    rcases hlb.2 with ⟨q, _⟩ | ⟨_, q1, q2⟩
    · rcases edge_cases H hc0 with ⟨_, q1, q2⟩ | ⟨_, q', _⟩
      · rw [q] at h
        have h : (0 : Int) ≤ -1 := (H.ends _ h).1
        omega
      · exact absurd q q'
    · rw [q1, q2]; exact h
  have inc0 : ∀ a b x : Int, (⟨a, b⟩ : Ch) ∈ P → InR P c0 x → (a ≠ lowE c0 ∨ b ≠ topE p c0) → lowE c0 ≤ a → b ≤ topE p c0 → ¬ (a < x ∧ x < b) := by
    intro a b x hab hx hn h1 h2
    have hd := H.ends _ hab
    have hd1 : 0 ≤ a := hd.1
    have hd2 : b < p := hd.2
    refine hx.2.2 _ hab ?_ ?_ ?_
    · rintro rfl
      rcases edge_cases H hc0 with ⟨q, q1, q2⟩ | ⟨_, _, q1, q2, _⟩
      · have : (⟨a, b⟩ : Ch).f0 = (outC p).f0 := by rw [q]
        have : a = -1 := this
        omega
      · have q1 : lowE (⟨a, b⟩ : Ch) = a := q1
        have q2 : topE p (⟨a, b⟩ : Ch) = b := q2
        omega
    · rcases edge_cases H hc0 with ⟨q, q1, q2⟩ | ⟨_, _, q1, q2, _⟩
      · rw [q]; show (-1 : Int) ≤ a; omega
      · show c0.f0 ≤ a; omega
    · rcases edge_cases H hc0 with ⟨q, q1, q2⟩ | ⟨_, _, q1, q2, _⟩
      · rw [q]; show b ≤ p; omega
      · show b ≤ c0.f1; omega
  have hshape : (old.f0 = lowE c0 ∧ old.f1 = m) ∨ (old.f0 = m ∧ old.f1 = topE p c0) := by
    have hx : ¬ (old.f0 = lowE c0 ∧ old.f1 = topE p c0) := by
      rintro ⟨q1, q2⟩
      rcases edge_cases H hc0 with ⟨q, w1, w2⟩ | ⟨_, _, w1, w2, _⟩
      · have := T.diag old ho; omega
      · exact hoc (by cases old; cases c0; simp only [S47.mk.injEq] at *; omega)
    omega
  rcases hshape with ⟨s1, s2⟩ | ⟨s1, s2⟩
  · -- the other apex lies behind
    refine ⟨y, topE p c0, by rw [ey]; simp, by rw [em]; simp, y1, y2, by omega, by omega, by omega, ?_, ?_, ?_⟩
    · intro x; rw [ey]; simp
    · intro x; rw [em]; simp only [List.mem_cons, List.not_mem_nil, or_false]; omega
    · intro q g0 g1 g2 g3
      constructor
      · rintro ⟨j1, j2⟩
        by_cases i1 : old.f0 < q ∧ q < old.f1
        · rw [show min q old.f0 = old.f0 by omega, show max q old.f0 = q by omega] at j1
          rw [show min q old.f1 = q by omega, show max q old.f1 = old.f1 by omega] at j2
          exact .inl (inner q i1.1 i1.2 j1 j2)
        · right
          by_cases i2 : old.f1 < q
          · rw [show min q old.f0 = old.f0 by omega, show max q old.f0 = q by omega] at j1
            rw [show min q old.f1 = old.f1 by omega, show max q old.f1 = q by omega] at j2
            have a1 : ¬ q < topE p c0 := by
              intro h
              have hin := join_in T j1 (by omega) (by omega)
              exact inc0 _ _ old.f1 hin hBin (.inr (by omega)) (by omega) (by omega) ⟨hok, i2⟩
            have a2 : ¬ topE p c0 < q := by
              intro h
              rcases hlb.2 with ⟨_, _, w⟩ | ⟨hin0, _, _⟩
              · omega
              · have hin := join_in T j2 (by omega) (by omega)
                exact cross _ _ _ _ (c0e hin0) hin ⟨by omega, by omega, h⟩
            omega
          · exfalso
            rw [show min q old.f0 = q by omega, show max q old.f0 = old.f0 by omega] at j1
            rw [show min q old.f1 = q by omega, show max q old.f1 = old.f1 by omega] at j2
            rcases hlb.2 with ⟨_, w, _⟩ | ⟨hin0, _, _⟩
            · omega
            · have hin := join_in T j2 (by omega) (by omega)
              exact cross _ _ _ _ hin (c0e hin0) ⟨by omega, by omega, by omega⟩
      · rintro (rfl | rfl)
        · rw [show min q old.f0 = old.f0 by omega, show max q old.f0 = q by omega, show min q old.f1 = q by omega, show max q old.f1 = old.f1 by omega]
          exact ⟨y3, y4⟩
        · rw [show min (topE p c0) old.f0 = old.f0 by omega, show max (topE p c0) old.f0 = topE p c0 by omega, show min (topE p c0) old.f1 = old.f1 by omega, show max (topE p c0) old.f1 = topE p c0 by omega]
          rw [s1, s2]
          exact ⟨m5, m4⟩
  · refine ⟨y, lowE c0, by rw [ey]; simp, by rw [em]; simp, y1, y2, by omega, by omega, by omega, ?_, ?_, ?_⟩
    · intro x; rw [ey]; simp
    · intro x; rw [em]; simp only [List.mem_cons, List.not_mem_nil, or_false]; omega
    · intro q g0 g1 g2 g3
      constructor
      · rintro ⟨j1, j2⟩
        by_cases i1 : old.f0 < q ∧ q < old.f1
        · rw [show min q old.f0 = old.f0 by omega, show max q old.f0 = q by omega] at j1
          rw [show min q old.f1 = q by omega, show max q old.f1 = old.f1 by omega] at j2
          exact .inl (inner q i1.1 i1.2 j1 j2)
        · right
          by_cases i2 : old.f1 < q
          · exfalso
            rw [show min q old.f0 = old.f0 by omega, show max q old.f0 = q by omega] at j1
            rw [show min q old.f1 = old.f1 by omega, show max q old.f1 = q by omega] at j2
            rcases hlb.2 with ⟨_, _, w⟩ | ⟨hin0, _, _⟩
            · omega
            · have hin := join_in T j1 (by omega) (by omega)
              exact cross _ _ _ _ (c0e hin0) hin ⟨by omega, by omega, by omega⟩
          · rw [show min q old.f0 = q by omega, show max q old.f0 = old.f0 by omega] at j1
            rw [show min q old.f1 = q by omega, show max q old.f1 = old.f1 by omega] at j2
            have a1 : ¬ lowE c0 < q := by
              intro h
              have hin := join_in T j2 (by omega) (by omega)
              exact inc0 _ _ old.f0 hin hAin (.inl (by omega)) (by omega) (by omega) ⟨by omega, hok⟩
            have a2 : ¬ q < lowE c0 := by
              intro h
              rcases hlb.2 with ⟨_, w, _⟩ | ⟨hin0, _, _⟩
              · omega
              · have hin := join_in T j1 (by omega) (by omega)
                exact cross _ _ _ _ hin (c0e hin0) ⟨h, by omega, by omega⟩
            omega
      · rintro (rfl | rfl)
        · rw [show min q old.f0 = old.f0 by omega, show max q old.f0 = q by omega, show min q old.f1 = q by omega, show max q old.f1 = old.f1 by omega]
          exact ⟨y3, y4⟩
        · rw [show min (lowE c0) old.f0 = lowE c0 by omega, show max (lowE c0) old.f0 = old.f0 by omega, show min (lowE c0) old.f1 = lowE c0 by omega, show max (lowE c0) old.f1 = old.f1 by omega]
          rw [s1, s2]
          exact ⟨m3, m5⟩
end
end Go.Proofs.Ytdeenfpcmaadcaa.M

-- Written by a program for this claim.
namespace Go.Proofs.Ytdeenfpcmaadcaa.Pr
open Go.RowKit Go.Proofs.YtdeenfpcmaadcaaW.PrintWords Go.Proofs.YtdeenfpcmaadcaaW.PrintLast Go.Proofs.YtdeenfpcmaadcaaW.PrintMore
attribute [local go_sem] max2_int min2_int max_two min_two max_three min_three max_four min_four   -- for this text's walks alone
set_option linter.unusedVariables false
set_option linter.unusedSimpArgs false

/-! ### spec_l1Has: function 45 -/
def spec_l1Has.l0 : Nat → Int → List Int → Int → Int → Option (Bool)
  | 0, _, _, _, _ => none
  | k + 1, x1, x7, x8, x9 => if x9 < x8 then (if 0 ≤ x9 then (if x9 < (x7.length : Int) then (if (rd x7 x9) = x1 then (some true) else (spec_l1Has.l0 k x1 x7 x8 (wrap64 (x9 + 1)))) else (none)) else (none)) else (some false)
def spec_l1Has.f (k : Nat) (l0 : List Int) (a1 : Int) : Option (Bool) := spec_l1Has.l0 k a1 l0 (l0.length : Int) 0
theorem spec_l1Has.mono_l : ∀ k, (∀ y0 y1 y2 y3, LeO (spec_l1Has.l0 k y0 y1 y2 y3) (spec_l1Has.l0 (k + 1) y0 y1 y2 y3))
  | 0 => fun _ _ _ _ r h => by simp [spec_l1Has.l0] at h
  | k + 1 => by
    have ih0 := spec_l1Has.mono_l k
    · intro y0 y1 y2 y3
      unfold spec_l1Has.l0
      repeat' first
      | (with_reducible exact ih0 _ _ _ _)
      | (with_reducible exact LeO.refl _)
      | (with_reducible exact LeO.none _)
      | (with_reducible refine LeO.ite ?_ ?_)
      | (with_reducible refine LeO.bind ?_ (fun _ => ?_))
      | exact ih0 _ _ _ _
      | exact LeO.none _
      | refine LeO.ite ?_ ?_
      | refine LeO.bind ?_ (fun _ => ?_)
theorem spec_l1Has.mono : ∀ a0 a1 k, LeO (spec_l1Has.f k a0 a1) (spec_l1Has.f (k + 1) a0 a1) := by
  intro a0 a1 k
  have ih0 := spec_l1Has.mono_l k
  unfold spec_l1Has.f
  repeat' first
      | (with_reducible exact ih0 _ _ _ _)
      | (with_reducible exact LeO.refl _)
      | (with_reducible exact LeO.none _)
      | (with_reducible refine LeO.ite ?_ ?_)
      | (with_reducible refine LeO.bind ?_ (fun _ => ?_))
      | exact ih0 _ _ _ _
      | exact LeO.none _
      | refine LeO.ite ?_ ?_
      | refine LeO.bind ?_ (fun _ => ?_)
set_option maxHeartbeats 8000000 in
set_option maxRecDepth 100000 in
theorem spec_l1Has.calls (k : Nat) (A0 : Option Addr) (c0 : Nat) (l0 : List Int) (a1 : Int) (r : Bool) (w : World) (hr0 : Kd.C (Kd.int .i64) w A0 l0.length l0) (hc0 : l0.length ≤ c0) (h : spec_l1Has.f k l0 a1 = some r) :
    Calls Try.prog 45 #[.slice A0 l0.length c0, .int .i64 a1] w fun e w' => e = .returned (.bool r) ∧ Drawn0 w w' := by
  have HR0 := Aside0.mk hr0
  have HC0 := Aside0.mk hc0
  clear hr0 hc0
  have H : (spec_l1Has.l0 k a1 l0 (l0.length : Int) 0) = some r := h
  clear h
  have H' := Aside0.mk H
  clear H
  go_enter Try.func45, Try.ntmps45
  go_wp2
  go_loopg [9] k (fun kq v9 w' => ∃ (x9_1 : Int), v9 = .int .i64 x9_1 ∧ Aside0 (spec_l1Has.l0 kq a1 l0 (l0.length : Int) x9_1 = some r) ∧ Aside0 (kq ≤ k) ∧ Drawn0 w w')
  case atStart => exact ⟨(0), (by first | rfl | (simp; done) | (simp [*]; done)), H', ⟨Nat.le_refl _⟩, by repeat (first | exact Drawn0.refl _ | apply Drawn0.step)⟩
  case round =>
    clear H'
    try clear p2
    obtain ⟨x9_1, rfl, HA, HK1, ⟨m1, rfl⟩⟩ := hrel
    cases gk with
    | zero => exact absurd HA.out (by simp [spec_l1Has.l0])
    | succ k1 =>
      have H := HA.out
      clear HA
      simp only [spec_l1Has.l0] at H
      by_cases c3 : x9_1 < (l0.length : Int)
      · rw [if_pos c3] at H
        have c3b0 : decide (x9_1 < (l0.length : Int)) = true := decide_eq_true c3
        clear c3
        by_cases c4 : 0 ≤ x9_1
        · rw [if_pos c4] at H
          have c4b0 : decide (0 ≤ x9_1) = true := decide_eq_true c4
          clear c4
          by_cases c5 : x9_1 < (l0.length : Int)
          · rw [if_pos c5] at H
            have c5b0 : decide (x9_1 < (l0.length : Int)) = true := decide_eq_true c5
            clear c5
            by_cases c6 : (rd l0 x9_1) = a1
            · rw [if_pos c6] at H
              have c6b0 : ((rd l0 x9_1) == a1) = true := beq_iff_eq.mpr c6
              have c6b1 : ((rd l0 x9_1) != a1) = false := bne_eq_false_iff_eq.mpr c6
              clear c6
              obtain rfl := Option.some.inj H
              have p140 : 0 ≤ (x9_1 : Int) := of_decide_eq_true (by first | (with_reducible assumption) | assumption)
              have q140 : x9_1 < (l0.length : Int) := of_decide_eq_true (by first | (with_reducible assumption) | assumption)
              obtain ⟨ad140, e140, hx140_0⟩ := Kd.at_int HR0.out x9_1 p140 q140
              cases e140
              replace p140 := eq_true p140
              replace q140 := eq_true q140
              go_wp2
              go_ret
              exact ⟨by first | rfl | (simp; done) | (simp [*]; done), by repeat (first | exact Drawn0.refl _ | apply Drawn0.step)⟩
            · rw [if_neg c6] at H
              have c6b0 : ((rd l0 x9_1) == a1) = false := beq_eq_false_iff_ne.mpr c6
              have c6b1 : ((rd l0 x9_1) != a1) = true := bne_iff_ne.mpr c6
              have H' := Aside0.mk H
              clear H
              have p140 : 0 ≤ (x9_1 : Int) := of_decide_eq_true (by first | (with_reducible assumption) | assumption)
              have q140 : x9_1 < (l0.length : Int) := of_decide_eq_true (by first | (with_reducible assumption) | assumption)
              obtain ⟨ad140, e140, hx140_0⟩ := Kd.at_int HR0.out x9_1 p140 q140
              cases e140
              replace p140 := eq_true p140
              replace q140 := eq_true q140
              go_wp2
              go_roundg k1
              case measure => have := HK1.out; omega
              case rel => exact ⟨(wrap64 (x9_1 + 1)), (by first | rfl | (simp; done) | (simp [*]; done)), H', ⟨by have := HK1.out; omega⟩, by repeat (first | exact Drawn0.refl _ | apply Drawn0.step)⟩
          · rw [if_neg c5] at H
            exact absurd H (by simp)
        · rw [if_neg c4] at H
          exact absurd H (by simp)
      · rw [if_neg c3] at H
        have c3b0 : decide (x9_1 < (l0.length : Int)) = false := decide_eq_false c3
        clear c3
        obtain rfl := Option.some.inj H
        go_wp2
        go_ret
        exact ⟨by first | rfl | (simp; done) | (simp [*]; done), by repeat (first | exact Drawn0.refl _ | apply Drawn0.step)⟩

end Go.Proofs.Ytdeenfpcmaadcaa.Pr

-- Written by a program for this claim.
namespace Go.Proofs.Ytdeenfpcmaadcaa.Pr
open Go.RowKit Go.Proofs.YtdeenfpcmaadcaaW.PrintWords Go.Proofs.YtdeenfpcmaadcaaW.PrintLast Go.Proofs.YtdeenfpcmaadcaaW.PrintMore
attribute [local go_sem] max2_int min2_int max_two min_two max_three min_three max_four min_four   -- for this text's walks alone
set_option linter.unusedVariables false
set_option linter.unusedSimpArgs false

/-! ### spec_reLess: function 60 -/
def spec_reLess.l0 : Nat → List Int → List Int → List Int → Int → Int → Option (Bool)
  | 0, _, _, _, _, _ => none
  | k + 1, x0, x1, x7, x8, x9 => if x9 < x8 then (if 0 ≤ x9 then (if x9 < (x7.length : Int) then (if x9 = (x1.length : Int) then (some false) else (if x9 < (x1.length : Int) then (if (rd x7 x9) = (rd x1 x9) then (spec_reLess.l0 k x0 x1 x7 x8 (wrap64 (x9 + 1))) else (some (decide ((rd x7 x9) < (rd x1 x9))))) else (none))) else (none)) else (none)) else (some (decide ((x0.length : Int) < (x1.length : Int))))
def spec_reLess.f (k : Nat) (l0 : List Int) (l1 : List Int) : Option (Bool) := spec_reLess.l0 k l0 l1 l0 (l0.length : Int) 0
theorem spec_reLess.mono_l : ∀ k, (∀ y0 y1 y2 y3 y4, LeO (spec_reLess.l0 k y0 y1 y2 y3 y4) (spec_reLess.l0 (k + 1) y0 y1 y2 y3 y4))
  | 0 => fun _ _ _ _ _ r h => by simp [spec_reLess.l0] at h
  | k + 1 => by
    have ih0 := spec_reLess.mono_l k
    · intro y0 y1 y2 y3 y4
      unfold spec_reLess.l0
      repeat' first
      | (with_reducible exact ih0 _ _ _ _ _)
      | (with_reducible exact LeO.refl _)
      | (with_reducible exact LeO.none _)
      | (with_reducible refine LeO.ite ?_ ?_)
      | (with_reducible refine LeO.bind ?_ (fun _ => ?_))
      | exact ih0 _ _ _ _ _
      | exact LeO.none _
      | refine LeO.ite ?_ ?_
      | refine LeO.bind ?_ (fun _ => ?_)
theorem spec_reLess.mono : ∀ a0 a1 k, LeO (spec_reLess.f k a0 a1) (spec_reLess.f (k + 1) a0 a1) := by
  intro a0 a1 k
  have ih0 := spec_reLess.mono_l k
  unfold spec_reLess.f
  repeat' first
      | (with_reducible exact ih0 _ _ _ _ _)
      | (with_reducible exact LeO.refl _)
      | (with_reducible exact LeO.none _)
      | (with_reducible refine LeO.ite ?_ ?_)
      | (with_reducible refine LeO.bind ?_ (fun _ => ?_))
      | exact ih0 _ _ _ _ _
      | exact LeO.none _
      | refine LeO.ite ?_ ?_
      | refine LeO.bind ?_ (fun _ => ?_)
set_option maxHeartbeats 8000000 in
set_option maxRecDepth 100000 in
theorem spec_reLess.calls (k : Nat) (A0 : Option Addr) (c0 : Nat) (l0 : List Int) (A1 : Option Addr) (c1 : Nat) (l1 : List Int) (r : Bool) (w : World) (hr0 : Kd.C (Kd.int .i64) w A0 l0.length l0) (hc0 : l0.length ≤ c0) (hr1 : Kd.C (Kd.int .i64) w A1 l1.length l1) (hc1 : l1.length ≤ c1) (h : spec_reLess.f k l0 l1 = some r) :
    Calls Try.prog 60 #[.slice A0 l0.length c0, .slice A1 l1.length c1] w fun e w' => e = .returned (.bool r) ∧ Drawn0 w w' := by
  have HR0 := Aside0.mk hr0
  have HC0 := Aside0.mk hc0
  clear hr0 hc0
  have HR1 := Aside0.mk hr1
  have HC1 := Aside0.mk hc1
  clear hr1 hc1
  have H : (spec_reLess.l0 k l0 l1 l0 (l0.length : Int) 0) = some r := h
  clear h
  have H' := Aside0.mk H
  clear H
  go_enter Try.func60, Try.ntmps60
  go_wp2
  go_loopg [9] k (fun kq v9 w' => ∃ (x9_1 : Int), v9 = .int .i64 x9_1 ∧ Aside0 (spec_reLess.l0 kq l0 l1 l0 (l0.length : Int) x9_1 = some r) ∧ Aside0 (kq ≤ k) ∧ Drawn0 w w')
  case atStart => exact ⟨(0), (by first | rfl | (simp; done) | (simp [*]; done)), H', ⟨Nat.le_refl _⟩, by repeat (first | exact Drawn0.refl _ | apply Drawn0.step)⟩
  case round =>
    clear H'
    try clear c1
    try clear p2
    obtain ⟨x9_1, rfl, HA, HK1, ⟨m1, rfl⟩⟩ := hrel
    cases gk with
    | zero => exact absurd HA.out (by simp [spec_reLess.l0])
    | succ k1 =>
      have H := HA.out
      clear HA
      simp only [spec_reLess.l0] at H
      by_cases c3 : x9_1 < (l0.length : Int)
      · rw [if_pos c3] at H
        have c3b0 : decide (x9_1 < (l0.length : Int)) = true := decide_eq_true c3
        clear c3
        by_cases c4 : 0 ≤ x9_1
        · rw [if_pos c4] at H
          have c4b0 : decide (0 ≤ x9_1) = true := decide_eq_true c4
          clear c4
          by_cases c5 : x9_1 < (l0.length : Int)
          · rw [if_pos c5] at H
            have c5b0 : decide (x9_1 < (l0.length : Int)) = true := decide_eq_true c5
            clear c5
            by_cases c6 : x9_1 = (l1.length : Int)
            · rw [if_pos c6] at H
              have c6b0 : (x9_1 == (l1.length : Int)) = true := beq_iff_eq.mpr c6
              have c6b1 : (x9_1 != (l1.length : Int)) = false := bne_eq_false_iff_eq.mpr c6
              clear c6
              obtain rfl := Option.some.inj H
              have p141 : 0 ≤ (x9_1 : Int) := of_decide_eq_true (by first | (with_reducible assumption) | assumption)
              have q141 : x9_1 < (l0.length : Int) := of_decide_eq_true (by first | (with_reducible assumption) | assumption)
              obtain ⟨ad141, e141, hx141_0⟩ := Kd.at_int HR0.out x9_1 p141 q141
              cases e141
              replace p141 := eq_true p141
              replace q141 := eq_true q141
              go_wp2
              go_ret
              exact ⟨by first | rfl | (simp; done) | (simp [*]; done), by repeat (first | exact Drawn0.refl _ | apply Drawn0.step)⟩
            · rw [if_neg c6] at H
              have c6b0 : (x9_1 == (l1.length : Int)) = false := beq_eq_false_iff_ne.mpr c6
              have c6b1 : (x9_1 != (l1.length : Int)) = true := bne_iff_ne.mpr c6
              by_cases c7 : x9_1 < (l1.length : Int)
              · rw [if_pos c7] at H
                have c7b0 : decide (x9_1 < (l1.length : Int)) = true := decide_eq_true c7
                clear c7
                by_cases c8 : (rd l0 x9_1) = (rd l1 x9_1)
                · rw [if_pos c8] at H
                  have c8b0 : ((rd l0 x9_1) == (rd l1 x9_1)) = true := beq_iff_eq.mpr c8
                  have c8b1 : ((rd l0 x9_1) != (rd l1 x9_1)) = false := bne_eq_false_iff_eq.mpr c8
                  clear c8
                  have H' := Aside0.mk H
                  clear H
                  have p141 : 0 ≤ (x9_1 : Int) := of_decide_eq_true (by first | (with_reducible assumption) | assumption)
                  have q141 : x9_1 < (l0.length : Int) := of_decide_eq_true (by first | (with_reducible assumption) | assumption)
                  obtain ⟨ad141, e141, hx141_0⟩ := Kd.at_int HR0.out x9_1 p141 q141
                  cases e141
                  replace p141 := eq_true p141
                  replace q141 := eq_true q141
                  have p142 : 0 ≤ (x9_1 : Int) := of_decide_eq_true (by first | (with_reducible assumption) | assumption)
                  have q142 : x9_1 < (l1.length : Int) := of_decide_eq_true (by first | (with_reducible assumption) | assumption)
                  obtain ⟨ad142, e142, hx142_0⟩ := Kd.at_int HR1.out x9_1 p142 q142
                  cases e142
                  replace p142 := eq_true p142
                  replace q142 := eq_true q142
                  go_wp2
                  go_roundg k1
                  case measure => have := HK1.out; omega
                  case rel => exact ⟨(wrap64 (x9_1 + 1)), (by first | rfl | (simp; done) | (simp [*]; done)), H', ⟨by have := HK1.out; omega⟩, by repeat (first | exact Drawn0.refl _ | apply Drawn0.step)⟩
                · rw [if_neg c8] at H
                  have c8b0 : ((rd l0 x9_1) == (rd l1 x9_1)) = false := beq_eq_false_iff_ne.mpr c8
                  have c8b1 : ((rd l0 x9_1) != (rd l1 x9_1)) = true := bne_iff_ne.mpr c8
                  obtain rfl := Option.some.inj H
                  have p141 : 0 ≤ (x9_1 : Int) := of_decide_eq_true (by first | (with_reducible assumption) | assumption)
                  have q141 : x9_1 < (l0.length : Int) := of_decide_eq_true (by first | (with_reducible assumption) | assumption)
                  obtain ⟨ad141, e141, hx141_0⟩ := Kd.at_int HR0.out x9_1 p141 q141
                  cases e141
                  replace p141 := eq_true p141
                  replace q141 := eq_true q141
                  have p142 : 0 ≤ (x9_1 : Int) := of_decide_eq_true (by first | (with_reducible assumption) | assumption)
                  have q142 : x9_1 < (l1.length : Int) := of_decide_eq_true (by first | (with_reducible assumption) | assumption)
                  obtain ⟨ad142, e142, hx142_0⟩ := Kd.at_int HR1.out x9_1 p142 q142
                  cases e142
                  replace p142 := eq_true p142
                  replace q142 := eq_true q142
                  have p143 : 0 ≤ (x9_1 : Int) := of_decide_eq_true (by first | (with_reducible assumption) | assumption)
                  have q143 : x9_1 < (l1.length : Int) := of_decide_eq_true (by first | (with_reducible assumption) | assumption)
                  obtain ⟨ad143, e143, hx143_0⟩ := Kd.at_int HR1.out x9_1 p143 q143
                  obtain rfl : ad142 = ad143 := (by injection e143)
                  replace p143 := eq_true p143
                  replace q143 := eq_true q143
                  go_wp2
                  go_ret
                  exact ⟨by first | rfl | (simp; done) | (simp [*]; done), by repeat (first | exact Drawn0.refl _ | apply Drawn0.step)⟩
              · rw [if_neg c7] at H
                exact absurd H (by simp)
          · rw [if_neg c5] at H
            exact absurd H (by simp)
        · rw [if_neg c4] at H
          exact absurd H (by simp)
      · rw [if_neg c3] at H
        have c3b0 : decide (x9_1 < (l0.length : Int)) = false := decide_eq_false c3
        clear c3
        obtain rfl := Option.some.inj H
        go_wp2
        go_ret
        exact ⟨by first | rfl | (simp; done) | (simp [*]; done), by repeat (first | exact Drawn0.refl _ | apply Drawn0.step)⟩

end Go.Proofs.Ytdeenfpcmaadcaa.Pr

/- Finding a number in a row, and which row is ahead of another: what the reference computes. -/
namespace Go.Proofs.Ytdeenfpcmaadcaa.M
open Go.RowKit Go.Proofs.YtdeenfpcmaadcaaW.PrintWords Go.Proofs.Ytdeenfpcmaadcaa.Pr
set_option linter.unusedVariables false
set_option linter.unusedSimpArgs false
theorem rd_int (l : List Int) (i : Nat) (h : i < l.length) : rd l (i : Int) = l[i] := by
  unfold rd
  simp [List.getD_eq_getElem?_getD, List.getElem?_eq_getElem h]
theorem l1Has_ev (l : List Int) (x : Int) (hl : l.length ≤ 1000000) : Ev (fun k => spec_l1Has.f k l x) (l.contains x) := by
  unfold spec_l1Has.f
  have e := Ev.scan0 (fun k i (_ : Unit) => spec_l1Has.l0 k x l (l.length : Int) i) l (fun rest _ => rest.contains x) (fun _ _ => True)
    (fun acc hp => by
      refine Ev.step (fun k => by rw [spec_l1Has.l0]) ?_
      exact Ev.neg (by omega) (Ev.val (by simp)))
    (fun i h acc hp => by
      by_cases hx : l[i] = x
      · right
        refine Ev.step (fun k => by rw [spec_l1Has.l0]) ?_
        refine Ev.pos (by omega) (Ev.pos (by omega) (Ev.pos (by omega) (Ev.pos (by rw [rd_int l i h]; exact hx) (Ev.val ?_))))
        rw [List.contains_cons, beq_iff_eq.2 hx.symm, Bool.true_or]
      · refine .inl ⟨(), trivial, ?_, fun r hr => ?_⟩
        · rw [List.contains_cons, beq_eq_false_iff_ne.2 (fun e => hx e.symm), Bool.false_or]
        · refine Ev.step (fun k => by rw [spec_l1Has.l0]) ?_
          refine Ev.pos (by omega) (Ev.pos (by omega) (Ev.pos (by omega) (Ev.neg (by rw [rd_int l i h]; exact hx) ?_)))
          rw [w64 (by omega) (by omega)]
          exact hr)
    () trivial
  simpa using e
theorem lexB_app (a b c : List Int) : lexB (c ++ a) (c ++ b) = lexB a b := by
  induction c with
  | nil => rfl
  | cons x c ih => rw [List.cons_append, List.cons_append, lexB, if_pos rfl, ih]
theorem reLess_l0 (a b : List Int) (ha : a.length ≤ 1000000) : ∀ (d i : Nat), i + d = a.length → i ≤ b.length → a.take i = b.take i → Ev (fun k => spec_reLess.l0 k a b a (a.length : Int) (i : Int)) (lexB a b)
  | 0, i, h, hb, he => by
    obtain rfl : i = a.length := by omega
    rw [List.take_length] at he
    refine Ev.step (fun k => by rw [spec_reLess.l0]) ?_
    refine Ev.neg (by omega) (Ev.val ?_)
    obtain ⟨c, hc⟩ : ∃ c, b = a ++ c := ⟨b.drop a.length, by
      have e := (List.take_append_drop a.length b).symm
      rwa [← he] at e⟩
    subst hc
    have e := lexB_app [] c a
    rw [List.append_nil] at e
    rw [e]
    cases c with
    | nil => simp [lexB]
    | cons x c => simp [lexB]; omega
  | d + 1, i, h, hb, he => by
    have hi : i < a.length := by omega
    have hra := rd_int a i hi
    have ea : a = a.take i ++ a[i] :: a.drop (i + 1) := by rw [← List.drop_eq_getElem_cons hi, List.take_append_drop]
    refine Ev.step (fun k => by rw [spec_reLess.l0]) ?_
    refine Ev.pos (by omega) (Ev.pos (by omega) (Ev.pos (by omega) ?_))
    by_cases hib : i = b.length
    · refine Ev.pos (by omega) (Ev.val ?_)
      have eb : b = a.take i := by rw [he, hib, List.take_length]
      have e := lexB_app (a[i] :: a.drop (i + 1)) [] (a.take i)
      rw [List.append_nil, ← ea, ← eb] at e
      rw [e]
      rfl
    · have hib2 : i < b.length := by omega
      have hrb := rd_int b i hib2
      have eb : b = a.take i ++ b[i] :: b.drop (i + 1) := by rw [he, ← List.drop_eq_getElem_cons hib2, List.take_append_drop]
      have e : lexB a b = lexB (a[i] :: a.drop (i + 1)) (b[i] :: b.drop (i + 1)) := by
        conv => lhs; rw [ea, eb]
        exact lexB_app _ _ _
      refine Ev.neg (by omega) (Ev.pos (by omega) ?_)
      by_cases hx : a[i] = b[i]
      · refine Ev.pos (by rw [hra, hrb]; exact hx) ?_
        rw [w64 (by omega) (by omega)]
        have ih := reLess_l0 a b ha d (i + 1) (by omega) (by omega) (by rw [List.take_succ_eq_append_getElem hi, List.take_succ_eq_append_getElem hib2, he, hx])
        rw [show ((i + 1 : Nat) : Int) = (i : Int) + 1 by omega] at ih
        exact ih
      · refine Ev.neg (by rw [hra, hrb]; exact hx) (Ev.val ?_)
        rw [e, lexB, if_neg hx, hra, hrb]
theorem reLess_ev (a b : List Int) (ha : a.length ≤ 1000000) : Ev (fun k => spec_reLess.f k a b) (lexB a b) := by
  unfold spec_reLess.f
  exact reLess_l0 a b ha a.length 0 (by omega) (by omega) rfl
end Go.Proofs.Ytdeenfpcmaadcaa.M

-- Written by a program for this claim.
namespace Go.Proofs.Ytdeenfpcmaadcaa.Pr
open Go.RowKit Go.Proofs.YtdeenfpcmaadcaaW.PrintWords Go.Proofs.YtdeenfpcmaadcaaW.PrintLast Go.Proofs.YtdeenfpcmaadcaaW.PrintMore
attribute [local go_sem] max2_int min2_int max_two min_two max_three min_three max_four min_four   -- for this text's walks alone
set_option linter.unusedVariables false
set_option linter.unusedSimpArgs false

/-! ### slices_Compare_int_int: function 66 -/
def slices_Compare_int_int.l0 : Nat → List Int → List Int → List Int → Int → Int → Option (Int)
  | 0, _, _, _, _, _ => none
  | k + 1, x0, x1, x9, x10, x11 => if x11 < x10 then (if 0 ≤ x11 then (if x11 < (x9.length : Int) then (if x11 ≥ (x1.length : Int) then (some 1) else (if x11 < (x1.length : Int) then ((cmp_Compare_int.f (rd x9 x11) (rd x1 x11)).bind fun t148 => (if t148 = 0 then (slices_Compare_int_int.l0 k x0 x1 x9 x10 (wrap64 (x11 + 1))) else (some t148))) else (none))) else (none)) else (none)) else (if (x0.length : Int) < (x1.length : Int) then (some (-1)) else (some 0))
def slices_Compare_int_int.f (k : Nat) (l0 : List Int) (l1 : List Int) : Option (Int) := slices_Compare_int_int.l0 k l0 l1 l0 (l0.length : Int) 0
theorem slices_Compare_int_int.mono_l : ∀ k, (∀ y0 y1 y2 y3 y4, LeO (slices_Compare_int_int.l0 k y0 y1 y2 y3 y4) (slices_Compare_int_int.l0 (k + 1) y0 y1 y2 y3 y4))
  | 0 => fun _ _ _ _ _ r h => by simp [slices_Compare_int_int.l0] at h
  | k + 1 => by
    have ih0 := slices_Compare_int_int.mono_l k
    · intro y0 y1 y2 y3 y4
      unfold slices_Compare_int_int.l0
      repeat' first
      | (with_reducible exact ih0 _ _ _ _ _)
      | (with_reducible exact LeO.refl _)
      | (with_reducible exact LeO.none _)
      | (with_reducible refine LeO.ite ?_ ?_)
      | (with_reducible refine LeO.bind ?_ (fun _ => ?_))
      | exact ih0 _ _ _ _ _
      | exact LeO.none _
      | refine LeO.ite ?_ ?_
      | refine LeO.bind ?_ (fun _ => ?_)
theorem slices_Compare_int_int.mono : ∀ a0 a1 k, LeO (slices_Compare_int_int.f k a0 a1) (slices_Compare_int_int.f (k + 1) a0 a1) := by
  intro a0 a1 k
  have ih0 := slices_Compare_int_int.mono_l k
  unfold slices_Compare_int_int.f
  repeat' first
      | (with_reducible exact ih0 _ _ _ _ _)
      | (with_reducible exact LeO.refl _)
      | (with_reducible exact LeO.none _)
      | (with_reducible refine LeO.ite ?_ ?_)
      | (with_reducible refine LeO.bind ?_ (fun _ => ?_))
      | exact ih0 _ _ _ _ _
      | exact LeO.none _
      | refine LeO.ite ?_ ?_
      | refine LeO.bind ?_ (fun _ => ?_)
set_option maxHeartbeats 8000000 in
set_option maxRecDepth 100000 in
theorem slices_Compare_int_int.calls (k : Nat) (A0 : Option Addr) (c0 : Nat) (l0 : List Int) (A1 : Option Addr) (c1 : Nat) (l1 : List Int) (r : Int) (w : World) (hr0 : Kd.C (Kd.int .i64) w A0 l0.length l0) (hc0 : l0.length ≤ c0) (hr1 : Kd.C (Kd.int .i64) w A1 l1.length l1) (hc1 : l1.length ≤ c1) (h : slices_Compare_int_int.f k l0 l1 = some r) :
    Calls Try.prog 66 #[.slice A0 l0.length c0, .slice A1 l1.length c1] w fun e w' => e = .returned (.int .i64 r) ∧ Drawn0 w w' := by
  have HR0 := Aside0.mk hr0
  have HC0 := Aside0.mk hc0
  clear hr0 hc0
  have HR1 := Aside0.mk hr1
  have HC1 := Aside0.mk hc1
  clear hr1 hc1
  have H : (slices_Compare_int_int.l0 k l0 l1 l0 (l0.length : Int) 0) = some r := h
  clear h
  have H' := Aside0.mk H
  clear H
  go_enter Try.func66, Try.ntmps66
  go_wp2
  go_loopg [11] k (fun kq v11 w' => ∃ (x11_1 : Int), v11 = .int .i64 x11_1 ∧ Aside0 (slices_Compare_int_int.l0 kq l0 l1 l0 (l0.length : Int) x11_1 = some r) ∧ Aside0 (kq ≤ k) ∧ Drawn0 w w')
  case atStart => exact ⟨(0), (by first | rfl | (simp; done) | (simp [*]; done)), H', ⟨Nat.le_refl _⟩, by repeat (first | exact Drawn0.refl _ | apply Drawn0.step)⟩
  case round =>
    clear H'
    try clear c1
    try clear p2
    obtain ⟨x11_1, rfl, HA, HK1, ⟨m1, rfl⟩⟩ := hrel
    cases gk with
    | zero => exact absurd HA.out (by simp [slices_Compare_int_int.l0])
    | succ k1 =>
      have H := HA.out
      clear HA
      simp only [slices_Compare_int_int.l0] at H
      by_cases c3 : x11_1 < (l0.length : Int)
      · rw [if_pos c3] at H
        have c3b0 : decide (x11_1 < (l0.length : Int)) = true := decide_eq_true c3
        clear c3
        by_cases c4 : 0 ≤ x11_1
        · rw [if_pos c4] at H
          have c4b0 : decide (0 ≤ x11_1) = true := decide_eq_true c4
          clear c4
          by_cases c5 : x11_1 < (l0.length : Int)
          · rw [if_pos c5] at H
            have c5b0 : decide (x11_1 < (l0.length : Int)) = true := decide_eq_true c5
            clear c5
            by_cases c6 : x11_1 ≥ (l1.length : Int)
            · rw [if_pos c6] at H
              have c6b0 : decide ((l1.length : Int) ≤ x11_1) = true := decide_eq_true c6
              clear c6
              obtain rfl := Option.some.inj H
              have p146 : 0 ≤ (x11_1 : Int) := of_decide_eq_true (by first | (with_reducible assumption) | assumption)
              have q146 : x11_1 < (l0.length : Int) := of_decide_eq_true (by first | (with_reducible assumption) | assumption)
              obtain ⟨ad146, e146, hx146_0⟩ := Kd.at_int HR0.out x11_1 p146 q146
              cases e146
              replace p146 := eq_true p146
              replace q146 := eq_true q146
              go_wp2
              go_ret
              exact ⟨by first | rfl | (simp; done) | (simp [*]; done), by repeat (first | exact Drawn0.refl _ | apply Drawn0.step)⟩
            · rw [if_neg c6] at H
              have c6b0 : decide ((l1.length : Int) ≤ x11_1) = false := decide_eq_false c6
              clear c6
              by_cases c7 : x11_1 < (l1.length : Int)
              · rw [if_pos c7] at H
                have c7b0 : decide (x11_1 < (l1.length : Int)) = true := decide_eq_true c7
                clear c7
                replace H := Option.bind_eq_some_iff.mp H
                obtain ⟨t148, A80, H⟩ := H
                replace H : (if t148 = 0 then (slices_Compare_int_int.l0 k1 l0 l1 l0 (l0.length : Int) (wrap64 (x11_1 + 1))) else (some t148)) = some r := H
                have A8 := Aside0.mk A80
                clear A80
                by_cases c9 : t148 = 0
                · rw [if_pos c9] at H
                  have c9b0 : (t148 == 0) = true := beq_iff_eq.mpr c9
                  have c9b1 : (t148 != 0) = false := bne_eq_false_iff_eq.mpr c9
                  clear c9
                  have H' := Aside0.mk H
                  clear H
                  have p146 : 0 ≤ (x11_1 : Int) := of_decide_eq_true (by first | (with_reducible assumption) | assumption)
                  have q146 : x11_1 < (l0.length : Int) := of_decide_eq_true (by first | (with_reducible assumption) | assumption)
                  obtain ⟨ad146, e146, hx146_0⟩ := Kd.at_int HR0.out x11_1 p146 q146
                  cases e146
                  replace p146 := eq_true p146
                  replace q146 := eq_true q146
                  have p147 : 0 ≤ (x11_1 : Int) := of_decide_eq_true (by first | (with_reducible assumption) | assumption)
                  have q147 : x11_1 < (l1.length : Int) := of_decide_eq_true (by first | (with_reducible assumption) | assumption)
                  obtain ⟨ad147, e147, hx147_0⟩ := Kd.at_int HR1.out x11_1 p147 q147
                  cases e147
                  replace p147 := eq_true p147
                  replace q147 := eq_true q147
                  go_wp2_with (first | ((with_reducible refine gate_callee (f := 86) rfl ?_); refine goesL_ (some 26) rfl rfl Try.func86 (by kernel_rfl) rfl #[.int .i64 (rd l0 x11_1), .int .i64 (rd l1 x11_1)] rfl (by (try simp only [List.map_toArray, List.map_cons, List.map_nil]); first | done | rfl | (simp only [List.length_drop, List.length_take]; rfl)) ?_; (with_reducible refine (cmp_Compare_int.calls (rd l0 x11_1) (rd l1 x11_1) t148 _ A8.out).mono ?_); rintro e w' ⟨rfl, ⟨nd, rfl⟩⟩; refine ⟨_, rfl, ?_⟩))
                  go_roundg k1
                  case measure => have := HK1.out; omega
                  case rel => exact ⟨(wrap64 (x11_1 + 1)), (by first | rfl | (simp; done) | (simp [*]; done)), H', ⟨by have := HK1.out; omega⟩, by repeat (first | exact Drawn0.refl _ | apply Drawn0.step)⟩
                · rw [if_neg c9] at H
                  have c9b0 : (t148 == 0) = false := beq_eq_false_iff_ne.mpr c9
                  have c9b1 : (t148 != 0) = true := bne_iff_ne.mpr c9
                  obtain rfl := Option.some.inj H
                  have p146 : 0 ≤ (x11_1 : Int) := of_decide_eq_true (by first | (with_reducible assumption) | assumption)
                  have q146 : x11_1 < (l0.length : Int) := of_decide_eq_true (by first | (with_reducible assumption) | assumption)
                  obtain ⟨ad146, e146, hx146_0⟩ := Kd.at_int HR0.out x11_1 p146 q146
                  cases e146
                  replace p146 := eq_true p146
                  replace q146 := eq_true q146
                  have p147 : 0 ≤ (x11_1 : Int) := of_decide_eq_true (by first | (with_reducible assumption) | assumption)
                  have q147 : x11_1 < (l1.length : Int) := of_decide_eq_true (by first | (with_reducible assumption) | assumption)
                  obtain ⟨ad147, e147, hx147_0⟩ := Kd.at_int HR1.out x11_1 p147 q147
                  cases e147
                  replace p147 := eq_true p147
                  replace q147 := eq_true q147
                  go_wp2_with (first | ((with_reducible refine gate_callee (f := 86) rfl ?_); refine goesL_ (some 26) rfl rfl Try.func86 (by kernel_rfl) rfl #[.int .i64 (rd l0 x11_1), .int .i64 (rd l1 x11_1)] rfl (by (try simp only [List.map_toArray, List.map_cons, List.map_nil]); first | done | rfl | (simp only [List.length_drop, List.length_take]; rfl)) ?_; (with_reducible refine (cmp_Compare_int.calls (rd l0 x11_1) (rd l1 x11_1) t148 _ A8.out).mono ?_); rintro e w' ⟨rfl, ⟨nd, rfl⟩⟩; refine ⟨_, rfl, ?_⟩))
                  go_ret
                  exact ⟨by first | rfl | (simp; done) | (simp [*]; done), by repeat (first | exact Drawn0.refl _ | apply Drawn0.step)⟩
              · rw [if_neg c7] at H
                exact absurd H (by simp)
          · rw [if_neg c5] at H
            exact absurd H (by simp)
        · rw [if_neg c4] at H
          exact absurd H (by simp)
      · rw [if_neg c3] at H
        have c3b0 : decide (x11_1 < (l0.length : Int)) = false := decide_eq_false c3
        clear c3
        by_cases c10 : (l0.length : Int) < (l1.length : Int)
        · rw [if_pos c10] at H
          have c10b0 : decide ((l0.length : Int) < (l1.length : Int)) = true := decide_eq_true c10
          have c10b1 : decide (l0.length < l1.length) = true := decide_eq_true (Int.ofNat_lt.mp c10)
          clear c10
          obtain rfl := Option.some.inj H
          go_wp2
          go_ret
          exact ⟨by first | rfl | (simp; done) | (simp [*]; done), by repeat (first | exact Drawn0.refl _ | apply Drawn0.step)⟩
        · rw [if_neg c10] at H
          have c10b0 : decide ((l0.length : Int) < (l1.length : Int)) = false := decide_eq_false c10
          have c10b1 : decide (l0.length < l1.length) = false := decide_eq_false (fun h => c10 (Int.ofNat_lt.mpr h))
          clear c10
          obtain rfl := Option.some.inj H
          go_wp2
          go_ret
          exact ⟨by first | rfl | (simp; done) | (simp [*]; done), by repeat (first | exact Drawn0.refl _ | apply Drawn0.step)⟩

end Go.Proofs.Ytdeenfpcmaadcaa.Pr

/- What the comparison of two regions says: which row of points is ahead. -/
namespace Go.Proofs.Ytdeenfpcmaadcaa.M
open Go.RowKit Go.Proofs.YtdeenfpcmaadcaaW.PrintWords Go.Proofs.Ytdeenfpcmaadcaa.Pr
set_option linter.unusedVariables false
set_option linter.unusedSimpArgs false
def cmpL (a b : List Int) : Int := if lexB a b = true then -1 else if lexB b a = true then 1 else 0
theorem cmpI_eq (a b : Int) : cmp_Compare_int.f a b = some (if a < b then -1 else if a > b then 1 else 0) := by
  unfold cmp_Compare_int.f
  simp only [cmp_isNaN_int.f, Option.bind_some]
  split <;> rename_i h1 <;> (try split) <;> (try split) <;> (try split) <;> simp_all <;> omega
theorem cmpL_l0 (a b : List Int) (ha : a.length ≤ 1000000) : ∀ (d i : Nat), i + d = a.length → i ≤ b.length → a.take i = b.take i → Ev (fun k => slices_Compare_int_int.l0 k a b a (a.length : Int) (i : Int)) (cmpL a b)
  | 0, i, h, hb, he => by
    obtain rfl : i = a.length := by omega
    rw [List.take_length] at he
    refine Ev.step (fun k => by rw [slices_Compare_int_int.l0]) ?_
    refine Ev.neg (by omega) ?_
    obtain ⟨c, hc⟩ : ∃ c, b = a ++ c := ⟨b.drop a.length, by
      have e := (List.take_append_drop a.length b).symm
      rwa [← he] at e⟩
    subst hc
    cases c with
    | nil =>
      refine Ev.neg (by simp) (Ev.val ?_)
      rw [List.append_nil, cmpL, lexB_irrefl, if_neg (by decide), if_neg (by decide)]
    | cons x c =>
      refine Ev.pos (by rw [List.length_append, List.length_cons]; omega) (Ev.val ?_)
      have e := lexB_app [] (x :: c) a
      rw [List.append_nil] at e
      rw [cmpL, e]
      rfl
  | d + 1, i, h, hb, he => by
    have hi : i < a.length := by omega
    have hra := rd_int a i hi
    have ea : a = a.take i ++ a[i] :: a.drop (i + 1) := by rw [← List.drop_eq_getElem_cons hi, List.take_append_drop]
    refine Ev.step (fun k => by rw [slices_Compare_int_int.l0]) ?_
    refine Ev.pos (by omega) (Ev.pos (by omega) (Ev.pos (by omega) ?_))
    by_cases hib : i = b.length
    · refine Ev.pos (by omega) (Ev.val ?_)
      have eb : b = a.take i := by rw [he, hib, List.take_length]
      have e := lexB_app (a[i] :: a.drop (i + 1)) [] (a.take i)
      rw [List.append_nil, ← ea, ← eb] at e
      have e2 := lexB_app [] (a[i] :: a.drop (i + 1)) (a.take i)
      rw [List.append_nil, ← ea, ← eb] at e2
      rw [cmpL, e, e2]
      rfl
    · have hib2 : i < b.length := by omega
      have hrb := rd_int b i hib2
      have eb : b = a.take i ++ b[i] :: b.drop (i + 1) := by rw [he, ← List.drop_eq_getElem_cons hib2, List.take_append_drop]
      have e : lexB a b = lexB (a[i] :: a.drop (i + 1)) (b[i] :: b.drop (i + 1)) := by
        conv => lhs; rw [ea, eb]
        exact lexB_app _ _ _
      have e2 : lexB b a = lexB (b[i] :: b.drop (i + 1)) (a[i] :: a.drop (i + 1)) := by
        conv => lhs; rw [ea, eb]
        exact lexB_app _ _ _
      refine Ev.neg (by omega) (Ev.pos (by omega) (Ev.bindc (cmpI_eq _ _) ?_))
      rw [hra, hrb]
      by_cases hx : a[i] = b[i]
      · refine Ev.pos (by rw [if_neg (by omega), if_neg (by omega)]) ?_
        rw [w64 (by omega) (by omega)]
        have ih := cmpL_l0 a b ha d (i + 1) (by omega) (by omega) (by rw [List.take_succ_eq_append_getElem hi, List.take_succ_eq_append_getElem hib2, he, hx])
        rw [show ((i + 1 : Nat) : Int) = (i : Int) + 1 by omega] at ih
        exact ih
      · by_cases hl : a[i] < b[i]
        · refine Ev.neg (by rw [if_pos hl]; decide) (Ev.val ?_)
          rw [cmpL, e, lexB, if_neg hx, if_pos hl, if_pos (by simpa using hl)]
        · refine Ev.neg (by rw [if_neg hl, if_pos (by omega)]; decide) (Ev.val ?_)
          have q1 : lexB a b = false := by rw [e, lexB, if_neg hx]; simpa using hl
          have q2 : lexB b a = true := by rw [e2, lexB, if_neg (Ne.symm hx)]; simp; omega
          rw [cmpL, q1, q2, if_neg hl, if_pos (by omega), if_neg (by decide), if_pos rfl]
theorem cmpL_ev (a b : List Int) (ha : a.length ≤ 1000000) : Ev (fun k => slices_Compare_int_int.f k a b) (cmpL a b) := by
  unfold slices_Compare_int_int.f
  exact cmpL_l0 a b ha a.length 0 (by omega) (by omega) rfl
end Go.Proofs.Ytdeenfpcmaadcaa.M
namespace Go.Proofs.Ytdeenfpcmaadcaa.Pr
open Go.RowKit Go.Proofs.YtdeenfpcmaadcaaW.PrintWords Go.Proofs.YtdeenfpcmaadcaaW.PrintLast Go.Proofs.YtdeenfpcmaadcaaW.PrintMore
set_option linter.unusedVariables false
set_option linter.unusedSimpArgs false
def Gw (w w' : World) : Prop := ∃ q os', w' = Sort.grow (w.drewN q) os'
theorem Gw.refl (w : World) : Gw w w := ⟨0, #[], by simp [Sort.grow, World.drewN]⟩
theorem Gw.drewN {w w' : World} (h : Gw w w') (n : Nat) : Gw w (w'.drewN n) := by
  obtain ⟨q, os, rfl⟩ := h
  exact ⟨q + n, os, by simp [Sort.grow, World.drewN, Nat.add_assoc]⟩
theorem Gw.alloc {w w' : World} (h : Gw w w') (o : Obj) : Gw w (w'.alloc o) := by
  obtain ⟨q, os, rfl⟩ := h
  exact ⟨q, os ++ #[o], by rw [Sort.alloc_eq_grow, Sort.grow_grow]⟩
set_option maxHeartbeats 4000000 in
set_option maxRecDepth 100000 in
theorem cmpR_calls (A B : Option Addr) (c e : Nat) (a b : List Int) (v1 v2 u1 u2 : Value) (W : World) (ha : Kd.C (Kd.int .i64) W A a.length a) (hc : a.length ≤ c) (hb : Kd.C (Kd.int .i64) W B b.length b) (he : b.length ≤ e) (hl : a.length ≤ 1000000) (o1 : v1.oneCell' = true) (o2 : v2.oneCell' = true) (p1 : u1.oneCell' = true) (p2 : u2.oneCell' = true) :
    Calls Try.prog 65 #[.agg #[.slice A a.length c, v1, v2], .agg #[.slice B b.length e, u1, u2]] W fun x w' => x = .returned (.int .i64 (M.cmpL a b)) ∧ Gw W w' := by
  have hu := Try.underlying54
  have HA := Aside0.mk ha
  have HB := Aside0.mk hb
  have HC := Aside0.mk (show a.length ≤ c ∧ b.length ≤ e from ⟨hc, he⟩)
  obtain ⟨K, hK⟩ := M.cmpL_ev a b hl
  have HK := Aside0.mk (hK K (Nat.le_refl K))
  clear ha hb hc he hK hl
  go_enter Try.func65, Try.ntmps65
  go_wp2_with (go_at_call 66; refine (slices_Compare_int_int.calls K A c a B e b (M.cmpL a b) _ (Kd.C_below (Kd.C_below HA.out (below_alloc (Below.refl _ _) _)) (below_alloc (Below.refl _ _) _)) HC.out.1 (Kd.C_below (Kd.C_below HB.out (below_alloc (Below.refl _ _) _)) (below_alloc (Below.refl _ _) _)) HC.out.2 HK.out).mono ?_; rintro x w' ⟨rfl, ⟨nd, rfl⟩⟩)
  go_ret
  exact ⟨rfl, (((Gw.refl W).alloc _).alloc _).drewN _⟩
end Go.Proofs.Ytdeenfpcmaadcaa.Pr

/- What a world is behind a row that is laid anew, and behind blocks that are made. -/
namespace Go.Proofs.Ytdeenfpcmaadcaa.Pr
open Go.RowKit Go.Sort Go.Proofs.YtdeenfpcmaadcaaW.PrintWords Go.Proofs.YtdeenfpcmaadcaaW.PrintLast Go.Proofs.YtdeenfpcmaadcaaW.PrintMore
set_option linter.unusedVariables false
set_option linter.unusedSimpArgs false

theorem blk_putRow {w : World} {g : Nat} {cur : Array Value} {ty : TypeId} {fr : Nat × Nat} (F : Array Value) (hb : w.heap[g]? = some (.cells cur ty fr)) : (putRow id w g 0 F).heap[g]? = some (.cells (putCells id 0 F cur) ty fr) := by
  show (w.heap.modify g (onCells (putCells id 0 F)))[g]? = _
  rw [Array.getElem?_modify, if_pos rfl, hb]
  rfl
theorem below_putRow {w : World} {g base : Nat} (F : Array Value) (hg : base ≤ g) : Below base w (putRow id w g 0 F) :=
  ⟨rfl, rfl, rfl, by rw [show (putRow id w g 0 F).heap.size = w.heap.size from by simp [putRow, mapBlock]]; exact Nat.le_refl _, fun k hk => by
    show (w.heap.modify g (onCells (putCells id 0 F)))[k]? = _
    rw [Array.getElem?_modify, if_neg (by omega)]⟩
theorem below_grow {w : World} {base : Nat} (os : Array Obj) (hb : base ≤ w.heap.size) : Below base w (grow w os) :=
  ⟨rfl, rfl, rfl, by show _ ≤ (w.heap ++ os).size; simp, fun k hk => by
    show (w.heap ++ os)[k]? = _
    rw [Array.getElem?_append_left (by omega)]⟩
theorem kept_putRow {w : World} {g : Nat} {S : Nat → Prop} (F : Array Value) (hg : S g) : Kept w (putRow id w g 0 F) S :=
  ⟨by rw [show (putRow id w g 0 F).heap.size = w.heap.size from by simp [putRow, mapBlock]]; exact Nat.le_refl _, fun k hk hn => by
    show (w.heap.modify g (onCells (putCells id 0 F)))[k]? = _
    rw [Array.getElem?_modify, if_neg (fun e : g = k => hn (e ▸ hg))]⟩
theorem kept_grow {w : World} {S : Nat → Prop} (os : Array Obj) : Kept w (grow w os) S :=
  ⟨by show _ ≤ (w.heap ++ os).size; simp, fun k hk hn => by
    show (w.heap ++ os)[k]? = _
    rw [Array.getElem?_append_left hk]⟩
theorem kept_ahead {w : World} {S : Nat → Prop} (n : Nat) : Kept w (Sort.ahead w n) S := ⟨Nat.le_refl _, fun _ _ _ => rfl⟩
theorem below_ahead {w : World} {base : Nat} (n : Nat) : Below base w (Sort.ahead w n) := ⟨rfl, rfl, rfl, Nat.le_refl _, fun _ _ => rfl⟩

theorem unfrozen {w : World} {g : Nat} {cur : Array Value} {ty : TypeId} (hb : w.heap[g]? = some (.cells cur ty (0, 0))) (j : Nat) : w.frozen? ⟨g, j, none⟩ = false := by
  unfold World.frozen?
  simp [hb]
theorem size_putCells_id (off : Nat) (F c : Array Value) : (putCells id off F c).size = c.size := by simp [putCells]

end Go.Proofs.Ytdeenfpcmaadcaa.Pr

/- A row of elements that lie apart, laid open cell by cell and put together again in another order. -/
namespace Go.Proofs.Ytdeenfpcmaadcaa.Pr
open Go.RowKit Go.Sort Go.Proofs.YtdeenfpcmaadcaaW.PrintWords Go.Proofs.YtdeenfpcmaadcaaW.PrintLast Go.Proofs.YtdeenfpcmaadcaaW.PrintMore
set_option linter.unusedVariables false
set_option linter.unusedSimpArgs false

/-- An element's cells, the element, its index. -/
abbrev CE (α : Type) := List Value × (α × Nat)
def CellsAt (W : World) (g sz : Nat) (cs : List (List Value)) : Prop := ∀ j (hj : j < cs.length) i, i < sz → W.cell? ⟨g, j * sz + i, none⟩ = cs[j][i]?
theorem idx_lt {j n i sz : Nat} (hj : j < n) (hi : i < sz) : j * sz + i < n * sz := by
  have := Nat.mul_le_mul_right sz (show j + 1 ≤ n from hj)
  rw [Nat.add_mul, Nat.one_mul] at this
  omega
theorem S_open {α : Type} {d : Kd α} {e : Nat} {W : World} {base : Nat} {ok : Nat → Prop} {v : Value} {xs : List α} (h : Kd.S d e W base ok v xs) :
    (v = .slice none 0 0 ∧ xs = []) ∨ ∃ (f : Nat → Nat) (g cap : Nat) (cur : Array Value) (cs : List (CE α)), v = .slice (some ⟨g, 0, none⟩) xs.length cap ∧ ok g ∧ base ≤ g ∧ W.heap[g]? = some (.cells cur e (0, 0)) ∧ xs.length ≤ cap ∧ cap ≤ maxLen ∧ cur.size = cap * d.sz ∧
      cs.map (·.2) = xs.zipIdx ∧ (∀ c ∈ cs, d.M W base (fun k => (ok k ∧ k ≠ g) ∧ f k = c.2.2) c.2.1 c.1) ∧ CellsAt W g d.sz (cs.map (·.1)) := by
  obtain ⟨f, h0, inner, ⟨hl, hv⟩, hr⟩ := h
  rw [List.length_zipIdx] at hl hv
  rcases hv with ⟨rfl, hn⟩ | ⟨g, cap, cur, rfl, hg, hb, hn, hm, hs, ht⟩
  · exact .inl ⟨rfl, List.eq_nil_of_length_eq_zero hn⟩
  · refine .inr ⟨f, g, cap, cur, xs.zipIdx.map (fun q => ((inner.drop (q.2 * d.sz)).take d.sz, q)), rfl, h0 g rfl, hg, hb, hn, hm, hs, ?_, fun c hc => ?_, fun j hj i hi => ?_⟩
    · rw [List.map_map]
      exact List.map_id _
    · obtain ⟨q, hq, rfl⟩ := List.mem_map.1 hc
      obtain ⟨x, i⟩ := q
      have hq2 := List.mem_zipIdx' hq
      have hz : xs.zipIdx[i]? = some (x, i) := Kd.zip_at (by rw [hq2.2]; exact List.getElem?_eq_getElem hq2.1)
      have hM := hr.2 i (x, i) hz
      exact d.M_mono (fun k hk => ⟨⟨hk.1.1, fun e => hk.1.2 (by rw [e]; rfl)⟩, hk.2⟩) hM
    · simp only [List.length_map, List.length_zipIdx] at hj
      have hlt := idx_lt hj hi
      simp only [List.getElem_map, List.getElem_zipIdx, Nat.zero_add]
      change cur.toList.take (xs.length * d.sz) = inner at ht
      rw [List.getElem?_take_of_lt hi, List.getElem?_drop, blk_cell hb, ← ht]
      rw [List.getElem?_take_of_lt hlt, Array.getElem?_toList]
theorem S_shut {α : Type} {d : Kd α} {e : Nat} {W : World} {base g cap : Nat} {ok : Nat → Prop} {cur : Array Value} {cs : List (CE α)} {f : Nat → Nat} (hok : ok g) (hg : base ≤ g) (hb : W.heap[g]? = some (.cells cur e (0, 0))) (hn : cs.length ≤ cap) (hm : cap ≤ maxLen) (hs : cur.size = cap * d.sz)
    (hnd : (cs.map (·.2.2)).Nodup) (hM : ∀ c ∈ cs, d.M W base (fun k => (ok k ∧ k ≠ g) ∧ f k = c.2.2) c.2.1 c.1) (hc : CellsAt W g d.sz (cs.map (·.1))) :
    Kd.S d e W base ok (.slice (some ⟨g, 0, none⟩) cs.length cap) (cs.map (·.2.1)) := by
  classical
  obtain ⟨f', hf⟩ : ∃ f' : Nat → Nat, ∀ (i : Nat) (hi : i < cs.length) (k : Nat), f k = cs[i].2.2 → f' k = i := by
    refine ⟨fun k => if hx : ∃ i, ∃ hi : i < cs.length, f k = cs[i].2.2 then Classical.choose hx else 0, fun i hi k hk => ?_⟩
    have hx : ∃ i, ∃ hi : i < cs.length, f k = cs[i].2.2 := ⟨i, hi, hk⟩
    simp only [dif_pos hx]
    obtain ⟨hj, ek⟩ := Classical.choose_spec hx
    have hp := List.pairwise_iff_getElem.1 hnd
    rcases Nat.lt_trichotomy (Classical.choose hx) i with hlt | heq | hgt
    · exact absurd (ek.symm.trans hk) (by have := hp _ _ (by rw [List.length_map]; exact hj) (by rw [List.length_map]; exact hi) hlt; simpa only [List.getElem_map] using this)
    · exact heq
    · exact absurd (hk.symm.trans ek) (by have := hp _ _ (by rw [List.length_map]; exact hi) (by rw [List.length_map]; exact hj) hgt; simpa only [List.getElem_map] using this)
  have hle : cs.length * d.sz ≤ cur.toList.length := by
    have e : cur.toList.length = cap * d.sz := by rw [Array.length_toList]; exact hs
    rw [e]; exact Nat.mul_le_mul_right _ hn
  have hli : (cur.toList.take (cs.length * d.sz)).length = cs.length * d.sz := by rw [List.length_take]; exact Nat.min_eq_left hle
  refine ⟨f', fun k hk => by have : g = k := by simpa [Value.ownBlock] using hk
                             subst this; exact hok, cur.toList.take (cs.length * d.sz), ?_, ?_, fun j p hj => ?_⟩
  · rw [List.length_zipIdx, List.length_map]
    exact ⟨hli, .inr ⟨g, cap, cur, rfl, hg, hb, hn, hm, hs, rfl⟩⟩
  · rw [List.length_zipIdx, List.length_map]; exact hli
  · rw [List.getElem?_zipIdx, Nat.zero_add] at hj
    obtain ⟨x, hx, rfl⟩ := Option.map_eq_some_iff.1 hj
    rw [List.getElem?_map] at hx
    obtain ⟨c, hcj, rfl⟩ := Option.map_eq_some_iff.1 hx
    have hjl : j < cs.length := (List.getElem?_eq_some_iff.1 hcj).1
    have hcj2 : cs[j] = c := (List.getElem?_eq_some_iff.1 hcj).2
    have hMc := hM c (List.mem_of_getElem? hcj)
    have hlen := d.K_len (d.K_of_M hMc)
    have e1 : ((cur.toList.take (cs.length * d.sz)).drop (j * d.sz)).take d.sz = c.1 := by
      apply List.ext_getElem?
      intro q
      by_cases hq : q < d.sz
      · have h1 := hc j (by rw [List.length_map]; exact hjl) q hq
        rw [blk_cell hb, List.getElem_map, hcj2] at h1
        rw [List.getElem?_take_of_lt hq, List.getElem?_drop, List.getElem?_take_of_lt (idx_lt hjl hq), Array.getElem?_toList, h1]
      · rw [List.getElem?_eq_none (by rw [List.length_take]; omega), List.getElem?_eq_none (by omega)]
    show d.M W base _ c.2.1 _
    rw [show (Kd.tag f' d).sz = d.sz from rfl, e1]
    refine d.M_mono (fun k hk => ⟨⟨hk.1.1, fun e => hk.1.2 ?_⟩, hf j hjl k (by rw [hcj2]; exact hk.2)⟩) hMc
    injection e
end Go.Proofs.Ytdeenfpcmaadcaa.Pr

/-
  DERIVED: THE SHELF's CONTRACTS AT THIS DUMP, IN PLAIN WORDS (tools/lay-plain.mjs out of 'YtdeenfpcmaadcaaSortRgLay.lean', which tools/lay-shelf.mjs wrote): THE SAME DECLARATIONS UNDER THE SAME NAMES: 'import', 'namespace', 'open', 'def', 'theorem' AND NOTHING ELSE: no command of the shelf's: FOR A HAND-IN. Each laying: the table of numbers ('.._ren') and one theorem, a field a fact of the dump's own or the kernel's comparison; each contract: ONE APPLICATION.
-/
namespace Go.Proofs
open Go.Shelf
def Try.sortRg_ren : Go.Shelf.Ren := ⟨fun | 6 => 64 | 15 => 85 | 14 => 84 | 28 => 103 | 29 => 104 | 20 => 95 | 21 => 96 | 22 => 97 | 23 => 98 | 24 => 99 | 25 => 100 | 26 => 101 | 27 => 102 | 46 => 114 | 47 => 115 | 48 => 116 | 49 => 117 | 50 => 118 | 57 => 122 | n => n, fun | 22 => 50 | 24 => 54 | 25 => 75 | 3 => 3 | 39 => 83 | 0 => 0 | 53 => 97 | 55 => 99 | 4 => 4 | 46 => 91 | 45 => 90 | 50 => 34 | 5 => 5 | 9 => 9 | 66 => 105 | 70 => 109 | 76 => 113 | 77 => 114 | n => n, fun | n => n⟩
theorem Try.sortRg : Go.Proofs.SlLaysF0.n6 Try.prog Try.sortRg_ren := {
  mixed := by kernel_rfl
  f6 := ⟨Try.f64.name, by decide, Try.func64.trans (congrArg some (by kernel_rfl))⟩
  f14 := ⟨Try.f84.name, by decide, Try.func84.trans (congrArg some (by kernel_rfl))⟩
  f15 := Try.func85.trans (congrArg some (by kernel_rfl))
  f20 := ⟨Try.f95.name, by decide, Try.func95.trans (congrArg some (by kernel_rfl))⟩
  f21 := ⟨Try.f96.name, by decide, Try.func96.trans (congrArg some (by kernel_rfl))⟩
  f22 := ⟨Try.f97.name, by decide, Try.func97.trans (congrArg some (by kernel_rfl))⟩
  f23 := ⟨Try.f98.name, by decide, Try.func98.trans (congrArg some (by kernel_rfl))⟩
  f24 := ⟨Try.f99.name, by decide, Try.func99.trans (congrArg some (by kernel_rfl))⟩
  f25 := ⟨Try.f100.name, by decide, Try.func100.trans (congrArg some (by kernel_rfl))⟩
  f26 := ⟨Try.f101.name, by decide, Try.func101.trans (congrArg some (by kernel_rfl))⟩
  f27 := ⟨Try.f102.name, by decide, Try.func102.trans (congrArg some (by kernel_rfl))⟩
  f28 := Try.func103.trans (congrArg some (by kernel_rfl))
  f29 := Try.func104.trans (congrArg some (by kernel_rfl))
  f46 := ⟨Try.f114.name, by decide, Try.func114.trans (congrArg some (by kernel_rfl))⟩
  f47 := Try.func115.trans (congrArg some (by kernel_rfl))
  f48 := Try.func116.trans (congrArg some (by kernel_rfl))
  f49 := ⟨Try.f117.name, by decide, Try.func117.trans (congrArg some (by kernel_rfl))⟩
  f50 := ⟨Try.f118.name, by decide, Try.func118.trans (congrArg some (by kernel_rfl))⟩
  f57 := ⟨Try.f122.name, by decide, Try.func122.trans (congrArg some (by kernel_rfl))⟩
  t0 := Try.underlying0
  a0 := Try.isAgg0
  z0 := Try.sizeOf0
  v0 := Try.zeroValue0
  t3 := Try.underlying3
  a3 := Try.isAgg3
  z3 := Try.sizeOf3
  v3 := Try.zeroValue3
  t4 := Try.underlying4
  a4 := Try.isAgg4
  z4 := Try.sizeOf4
  v4 := Try.zeroValue4
  t5 := Try.underlying5
  a5 := Try.isAgg5
  z5 := Try.sizeOf5
  v5 := Try.zeroValue5
  t9 := Try.underlying9
  a9 := Try.isAgg9
  z9 := Try.sizeOf9
  v9 := Try.zeroValue9
  t22 := Try.underlying50
  a22 := Try.isAgg50
  z22 := Try.sizeOf50
  v22 := Try.zeroValue50
  t25 := Try.underlying75
  a25 := Try.isAgg75
  z25 := Try.sizeOf75
  v25 := Try.zeroValue75
  t39 := Try.underlying83
  a39 := Try.isAgg83
  z39 := Try.sizeOf83
  v39 := Try.zeroValue83
  t45 := Try.underlying90
  a45 := Try.isAgg90
  z45 := Try.sizeOf90
  v45 := Try.zeroValue90
  t46 := Try.underlying91
  a46 := Try.isAgg91
  z46 := Try.sizeOf91
  v46 := Try.zeroValue91
  t50 := Try.underlying34
  a50 := Try.isAgg34
  z50 := Try.sizeOf34
  v50 := Try.zeroValue34
  t53 := Try.underlying97
  a53 := Try.isAgg97
  z53 := Try.sizeOf97
  v53 := Try.zeroValue97
  t55 := Try.underlying99
  a55 := Try.isAgg99
  z55 := Try.sizeOf99
  v55 := Try.zeroValue99
  t66 := Try.underlying105
  a66 := Try.isAgg105
  z66 := Try.sizeOf105
  v66 := Try.zeroValue105
  t70 := Try.underlying109
  a70 := Try.isAgg109
  z70 := Try.sizeOf109
  v70 := Try.zeroValue109
  t76 := Try.underlying113
  a76 := Try.isAgg113
  z76 := Try.sizeOf113
  v76 := Try.zeroValue113
  t77 := Try.underlying114
  a77 := Try.isAgg114
  z77 := Try.sizeOf114
  v77 := Try.zeroValue114 }
end Go.Proofs

/- The sort of a row of regions: the row in the order of the points. -/
namespace Go.Proofs.Ytdeenfpcmaadcaa.Pr
open Go.RowKit Go.Sort Go.Lib Go.Proofs.YtdeenfpcmaadcaaW.PrintWords Go.Proofs.YtdeenfpcmaadcaaW.PrintLast Go.Proofs.YtdeenfpcmaadcaaW.PrintMore
set_option linter.unusedVariables false
set_option linter.unusedSimpArgs false
abbrev SR := S54
/-- The regions in order. -/
def sortR (xs : List SR) : List SR := xs.mergeSort fun x y => !(M.lexB y.f0 x.f0)
theorem cmpL_lt (a b : List Int) : decide (M.cmpL a b < 0) = M.lexB a b := by
  unfold M.cmpL
  cases h : M.lexB a b with
  | true => simp
  | false =>
    cases M.lexB b a with
    | true => simp
    | false => simp
theorem kept_world {α : Type} {enc : α → List Value} [Inhabited α] {w : World} {g m k : Nat} {dk : Array α} {os : Array Obj} (q : Nat) (hq : q ≠ g) (hl : q < w.heap.size) : (sortWorldK enc k w g 0 m dk os).heap[q]? = w.heap[q]? := by
  show ((putRowK enc k (Sort.ahead w m) g 0 dk).heap ++ os)[q]? = _
  rw [Array.getElem?_append_left (by rw [size_putRowK]; exact hl)]
  show (w.heap.modify g (onCells (putCells id 0 _)))[q]? = _
  rw [Array.getElem?_modify, if_neg (fun e => hq e.symm)]
theorem below_sortWorld {α : Type} {enc : α → List Value} [Inhabited α] {w : World} {base g m k : Nat} {dk : Array α} {os : Array Obj} (hg : base ≤ g) (hB : base ≤ w.heap.size) : Below base w (sortWorldK enc k w g 0 m dk os) := by
  refine ((below_ahead m).trans (below_putRow (flatK enc k dk) hg)).trans (below_grow os ?_)
  rw [show (putRow id (Sort.ahead w m) g 0 (flatK enc k dk)).heap.size = w.heap.size from by simp [putRow, mapBlock, Sort.ahead]]
  exact hB
theorem sort_any {T : Type} [Inhabited T] (enc : T → List Value) (hel : ∀ x, (enc x).length = 3) (heo : ∀ x, ∀ u ∈ enc x, u.oneCell' = true) (cf : T → T → Int) (hO : SWO (ltOf cf)) (g cap : Nat) (d : Array T) (w : World) (hcmp : Go.Proofs.CmpLays Try.prog 65 #[] enc 3 cf g 0 d.size w) (hH : HoldsK enc 3 w g 0 d) (hg : g < w.heap.size) (hsz : d.size < 4611686018427387904) (hT : ∀ x y, ltOf cf x y = false → ltOf cf y x = false → x = y) :
    Calls Try.prog 64 #[.slice (some ⟨g, 0, none⟩) d.size cap, .func (.func 65) #[] #[]] w fun e w' => e = .returned (.tuple #[]) ∧ ∃ n os, w' = sortWorldK enc 3 w g 0 n (d.toList.mergeSort fun x y => !(ltOf cf) y x).toArray os := by
  have h := AnyQ.slices_SortFunc_total Try.sortRg 3 (fun w => Try.isAgg54 w) (fun w => Try.sizeOf54 w) enc hel heo cf hO 65 #[] g 0 cap d w (enters_of Try.func65 (by kernel_rfl) rfl) hcmp hH hg hsz hT
  exact h
set_option maxHeartbeats 400000 in
theorem sort_region (base : Nat) (ok : Nat → Prop) (v : Value) (xs : List SR) (w : World) (h : Kd.S k54 54 w base ok v xs) (hB : base ≤ w.heap.size) (hx : xs ≠ []) (hxl : xs.length ≤ 1000000) (hl : ∀ x ∈ xs, x.f0.length ≤ 1000000) (hd : (xs.map (·.f0)).Nodup) :
    Calls Try.prog 64 #[v, .func (.func 65) #[] #[]] w fun e w' => e = .returned (.tuple #[]) ∧ Kd.S k54 54 w' base ok v (sortR xs) ∧ Below base w w' := by
  rcases S_open h with ⟨rfl, h0⟩ | ⟨f, g, cap, cur, cs, rfl, hok, hg, hb, hn, hm, hs, hz, hM, hc⟩
  · exact absurd h0 hx
  have hcl : cs.length = xs.length := by
    have e := congrArg List.length hz
    rwa [List.length_map, List.length_zipIdx] at e
  have hgs : g < w.heap.size := (Array.getElem?_eq_some_iff.1 hb).1
  have hsz : k54.sz = 3 := rfl
  have hz1 : cs.map (·.2.1) = xs := by
    have e := congrArg (List.map Prod.fst) hz
    rw [List.map_map, List.zipIdx_map_fst] at e
    exact e
  have hz2 : (cs.map (·.2.2)).Nodup := by
    have e := congrArg (List.map Prod.snd) hz
    rw [List.map_map, List.zipIdx_map_snd] at e
    have e2 : cs.map (·.2.2) = List.range' 0 xs.length := e
    rw [e2]
    exact List.nodup_range' ..
  have hz3 : (cs.map (·.2.1.f0)).Nodup := by
    rw [← hz1, List.map_map] at hd
    exact hd
  have hne : cs ≠ [] := fun e => hx (by rw [e] at hcl; exact List.eq_nil_of_length_eq_zero hcl.symm)
  obtain ⟨c0, hc0⟩ := List.exists_mem_of_ne_nil cs hne
  let T := {c : CE SR // c ∈ cs}
  letI : Inhabited T := ⟨⟨c0, hc0⟩⟩
  let enc : T → List Value := fun c => c.1.1
  let cf : T → T → Int := fun a b => M.cmpL a.1.2.1.f0 b.1.2.1.f0
  have hel : ∀ x, (enc x).length = 3 := fun x => k54.K_len (k54.K_of_M (hM x.1 x.2))
  have heo : ∀ x, ∀ u ∈ enc x, u.oneCell' = true := fun x => k54.K_one (k54.K_of_M (hM x.1 x.2))
  have hlt : ∀ a b : T, ltOf cf a b = M.lexB a.1.2.1.f0 b.1.2.1.f0 := fun a b => cmpL_lt _ _
  have hO : SWO (ltOf cf) := {
    irrefl := fun x => by rw [hlt]; exact M.lexB_irrefl _
    trans := fun x y z h1 h2 => by rw [hlt] at *; exact M.lexB_trans _ _ _ h1 h2
    ntrans := fun x y z h1 h2 => by rw [hlt] at *; exact M.lexB_ge_trans h2 h1 }
  have hT : ∀ x y : T, ltOf cf x y = false → ltOf cf y x = false → x = y := fun x y h1 h2 => by
    rw [hlt] at h1 h2
    have e := M.lexB_tri _ _ h1 h2
    apply Subtype.ext
    obtain ⟨i, hi, e1⟩ := List.getElem_of_mem x.2
    obtain ⟨j, hj, e2⟩ := List.getElem_of_mem y.2
    have hij : i = j := by
      have hp := List.pairwise_iff_getElem.1 hz3
      rcases Nat.lt_trichotomy i j with q | q | q
      · exact absurd (by rw [List.getElem_map, List.getElem_map, e1, e2]; exact e) (hp i j (by rw [List.length_map]; exact hi) (by rw [List.length_map]; exact hj) q)
      · exact q
      · exact absurd (by rw [List.getElem_map, List.getElem_map, e1, e2]; exact e.symm) (hp j i (by rw [List.length_map]; exact hj) (by rw [List.length_map]; exact hi) q)
    subst hij
    rw [← e1, ← e2]
  have hda : cs.attach.toArray.size = xs.length := by simp [hcl]
  have hH : HoldsK enc 3 w g 0 cs.attach.toArray := fun j hj => by
    have hj0 : j < cs.attach.toArray.size * 3 := by rw [size_flatK] at hj; exact hj
    have hj' : j < cs.length * 3 := by rw [hda] at hj0; rw [hcl]; exact hj0
    rw [Nat.zero_add]
    refine ⟨?_, blk_frozen hb j⟩
    rw [get_flatK _ _ _ _ hj0]
    have hd3 : j / 3 < cs.length := by omega
    have e : cs.attach.toArray[j / 3]! = ⟨cs[j / 3], List.getElem_mem hd3⟩ := by
      rw [getElem!_pos _ _ (by rw [hda, ← hcl]; exact hd3)]
      simp
    rw [e]
    have h1 := hc (j / 3) (by rw [List.length_map]; exact hd3) (j % 3) (Nat.mod_lt _ (by decide))
    rw [List.getElem_map, hsz, show j / 3 * 3 + j % 3 = j by omega] at h1
    rw [h1]
    have h2 := hel ⟨cs[j / 3], List.getElem_mem hd3⟩
    have h3 : j % 3 < (enc ⟨cs[j / 3], List.getElem_mem hd3⟩).length := by rw [h2]; exact Nat.mod_lt _ (by decide)
    show (enc ⟨cs[j / 3], List.getElem_mem hd3⟩)[j % 3]? = some (enc ⟨cs[j / 3], List.getElem_mem hd3⟩)[j % 3]!
    rw [getElem!_pos (enc ⟨cs[j / 3], List.getElem_mem hd3⟩) (j % 3) h3, List.getElem?_eq_getElem h3]
  have hcmp : Go.Proofs.CmpLays Try.prog 65 #[] enc 3 cf g 0 cs.attach.toArray.size w := fun m os dk hsd x y => by
    obtain ⟨v0, v1, v2, ex, r0, r1, r2⟩ := k54_openM (hM x.1 x.2)
    obtain ⟨u0, u1, u2, ey, s0, s1, s2⟩ := k54_openM (hM y.1 y.2)
    obtain ⟨A, c, rfl⟩ := Kd.R_slice r0
    obtain ⟨B, e, rfl⟩ := Kd.R_slice s0
    have t0 := Kd.R_step (w1 := sortWorldK enc 3 w g 0 m dk os) r0 (fun k hk hlt => kept_world k hk.1.2 hlt)
    have t1 := Kd.R_step (w1 := sortWorldK enc 3 w g 0 m dk os) s0 (fun k hk hlt => kept_world k hk.1.2 hlt)
    have hq := cmpR_calls A B c e x.1.2.1.f0 y.1.2.1.f0 v1 v2 u1 u2 (sortWorldK enc 3 w g 0 m dk os) (Kd.R_reads' t0).2.2 (Kd.R_reads' t0).2.1 (Kd.R_reads' t1).2.2 (Kd.R_reads' t1).2.1
      (hl _ (by rw [← hz1]; exact List.mem_map.2 ⟨x.1, x.2, rfl⟩)) (Kd.R_val r1).2 (Kd.R_val r2).2 (Kd.R_val s1).2 (Kd.R_val s2).2
    have ea : (#[.agg (enc x).toArray, .agg (enc y).toArray] ++ #[] : Array Value) = #[.agg #[.slice A x.1.2.1.f0.length c, v1, v2], .agg #[.slice B y.1.2.1.f0.length e, u1, u2]] := by
      rw [show enc x = _ from ex, show enc y = _ from ey]
      rfl
    rw [ea]
    exact hq.mono fun _ _ h => h
  have hsort := sort_any enc hel heo cf hO g cap cs.attach.toArray w hcmp hH hgs (by rw [hda]; omega) hT
  rw [hda] at hsort
  refine hsort.mono ?_
  rintro e w' ⟨rfl, n, os, hw⟩
  refine ⟨rfl, ?_, hw ▸ below_sortWorld hg hB⟩
  obtain ⟨ds, hds⟩ : ∃ ds, ds = cs.attach.mergeSort fun x y => !(ltOf cf) y x := ⟨_, rfl⟩
  have hw2 : w' = sortWorldK enc 3 w g 0 n ds.toArray os := by rw [hw, hds]
  have hpm : ds.Perm cs.attach := by rw [hds]; exact List.mergeSort_perm _ _
  have hdl : ds.length = xs.length := by rw [hpm.length_eq, List.length_attach, hcl]
  have hH1 : HoldsK enc 3 w' g 0 ds.toArray := by
    rw [hw2]
    exact Go.Proofs.holdsK_sortWorldK_c enc 3 w g 0 cs.attach.toArray ds.toArray n os hH hgs (by rw [hda]; simp [hdl])
  have hb1 : w'.heap[g]? = some (.cells (putCells id 0 (flatK enc 3 ds.toArray) cur) 54 (0, 0)) := by
    rw [hw2]
    show ((putRowK enc 3 (Sort.ahead w n) g 0 ds.toArray).heap ++ os)[g]? = _
    rw [Array.getElem?_append_left (by rw [size_putRowK]; exact hgs)]
    exact blk_putRow (w := Sort.ahead w n) (flatK enc 3 ds.toArray) hb
  have hS := S_shut (d := k54) (e := 54) (W := w') (base := base) (g := g) (cap := cap) (ok := ok) (cs := ds.map (·.1)) (f := f) hok hg hb1 (by rw [List.length_map, hdl]; exact hn) hm (by rw [size_putCells_id]; exact hs)
    (by
      have e : (cs.attach.map (·.1)).map (·.2.2) = cs.map (·.2.2) := by rw [List.attach_map_subtype_val]
      exact (((hpm.map (·.1)).map (·.2.2)).nodup_iff).2 (by rw [e]; exact hz2))
    (fun c hcm => by
      obtain ⟨t, ht, rfl⟩ := List.mem_map.1 hcm
      refine Kd.M_step (hM t.1 t.2) (fun k hk hlt => ?_)
      rw [hw2]
      exact kept_world k hk.1.2 hlt)
    (fun j hj i hi => by
      simp only [List.length_map] at hj
      have h1 := (HoldsK.cell hH1 (show j < ds.toArray.size by simpa using hj) (show i < 3 from hi)).1
      rw [Nat.zero_add, getElem!_pos ds.toArray j (by simpa using hj)] at h1
      have e1 : ds.toArray[j]'(by simpa using hj) = ds[j] := by simp
      rw [e1, getElem!_pos (enc ds[j]) i (by rw [hel]; exact hi)] at h1
      rw [show k54.sz = 3 from rfl, h1]
      simp only [List.getElem_map]
      exact (List.getElem?_eq_getElem (by rw [hel]; exact hi)).symm)
  have e1 : (ds.map (·.1)).map (·.2.1) = sortR xs := by
    rw [hds, List.map_map]
    have e2 := List.map_mergeSort (r := fun x y : T => !(ltOf cf) y x) (s := fun x y : SR => !(M.lexB y.f0 x.f0)) (f := fun t : T => t.1.2.1) (l := cs.attach) (fun a _ b _ => by simp only [hlt])
    have e3 : cs.attach.map (fun t : T => t.1.2.1) = xs := by
      rw [← hz1]
      conv => rhs; rw [← List.attach_map_subtype_val cs, List.map_map]
      rfl
    rw [e3] at e2
    exact e2
  rw [e1, List.length_map, hdl] at hS
  exact hS
end Go.Proofs.Ytdeenfpcmaadcaa.Pr

-- Written by a program for this claim.
namespace Go.Proofs.Ytdeenfpcmaadcaa.Pr
open Go.RowKit Go.Proofs.YtdeenfpcmaadcaaW.PrintWords Go.Proofs.YtdeenfpcmaadcaaW.PrintLast Go.Proofs.YtdeenfpcmaadcaaW.PrintMore
attribute [local go_sem] max2_int min2_int max_two min_two max_three min_three max_four min_four   -- for this text's walks alone
set_option linter.unusedVariables false
set_option linter.unusedSimpArgs false

/-! ### impl_isCircle: function 81 -/
def impl_isCircle.f (a0 : Int) : Option (Bool) := (impl_within.f a0 3 60).bind fun t217 => (some t217)
set_option maxHeartbeats 8000000 in
set_option maxRecDepth 100000 in
theorem impl_isCircle.calls (a0 : Int) (r : Bool) (w : World) (h : impl_isCircle.f a0 = some r) :
    Calls Try.prog 81 #[.int .i64 a0] w fun e w' => e = .returned (.bool r) ∧ Drawn0 w w' := by
  have H : ((impl_within.f a0 3 60).bind fun t217 => (some t217)) = some r := h
  clear h
  replace H := Option.bind_eq_some_iff.mp H
  obtain ⟨t217, A20, H⟩ := H
  replace H : (some t217) = some r := H
  have A2 := Aside0.mk A20
  clear A20
  obtain rfl := Option.some.inj H
  go_enter Try.func81, Try.ntmps81
  go_wp2_with (first | ((with_reducible refine gate_callee (f := 39) rfl ?_); refine goesL_ (some 4) rfl rfl Try.func39 (by kernel_rfl) rfl #[.int .i64 a0, .int .i64 3, .int .i64 60] rfl (by (try simp only [List.map_toArray, List.map_cons, List.map_nil]); first | done | rfl | (simp only [List.length_drop, List.length_take]; rfl)) ?_; (with_reducible refine (impl_within.calls a0 3 60 t217 _ A2.out).mono ?_); rintro e w' ⟨rfl, ⟨nd, rfl⟩⟩; refine ⟨_, rfl, ?_⟩))
  go_ret
  exact ⟨by first | rfl | (simp; done) | (simp [*]; done), by repeat (first | exact Drawn0.refl _ | apply Drawn0.step)⟩

end Go.Proofs.Ytdeenfpcmaadcaa.Pr

-- Written by a program for this claim.
namespace Go.Proofs.Ytdeenfpcmaadcaa.Pr
open Go.RowKit Go.Proofs.YtdeenfpcmaadcaaW.PrintWords Go.Proofs.YtdeenfpcmaadcaaW.PrintLast Go.Proofs.YtdeenfpcmaadcaaW.PrintMore
attribute [local go_sem] max2_int min2_int max_two min_two max_three min_three max_four min_four   -- for this text's walks alone
set_option linter.unusedVariables false
set_option linter.unusedSimpArgs false

/-! ### impl_isChord: function 93 -/
def impl_isChord.f (a0 : Int) (a1_0 : Int) (a1_1 : Int) : Option (Bool) := if a1_0 ≥ 0 then (if a1_0 < a1_1 then (some (decide (a1_1 < a0))) else (some false)) else (some false)
set_option maxHeartbeats 8000000 in
set_option maxRecDepth 100000 in
theorem impl_isChord.calls (a0 : Int) (a1_0 : Int) (a1_1 : Int) (r : Bool) (w : World) (h : impl_isChord.f a0 a1_0 a1_1 = some r) :
    Calls Try.prog 93 #[.int .i64 a0, .agg #[.int .i64 a1_0, .int .i64 a1_1]] w fun e w' => e = .returned (.bool r) ∧ Below w.heap.size w w' := by
  have hu47 := Try.underlying47
  have HB := Aside0.mk (Below.refl w.heap.size w)
  have H : (if a1_0 ≥ 0 then (if a1_0 < a1_1 then (some (decide (a1_1 < a0))) else (some false)) else (some false)) = some r := h
  clear h
  by_cases c3 : a1_0 ≥ 0
  · rw [if_pos c3] at H
    have c3b0 : decide (0 ≤ a1_0) = true := decide_eq_true c3
    clear c3
    by_cases c4 : a1_0 < a1_1
    · rw [if_pos c4] at H
      have c4b0 : decide (a1_0 < a1_1) = true := decide_eq_true c4
      clear c4
      obtain rfl := Option.some.inj H
      go_enter Try.func93, Try.ntmps93
      go_wp2_with (first | ((with_reducible refine gate_dst (N := 3) rfl ?_); refine box_event ?hg (N := 3) ?hd (cs := #[.int .i64 a1_0, .int .i64 a1_1]) (t := 47) ?hr ?_; (case hd => rfl); (case hg => rfl); (case hr => first | (go_simp; done) | (go_simp; rfl)); intro gb218 hg w5 hbox hb; have n0_ := Aside0.mk (below_step (by repeat (first | (with_reducible first | exact HB.out | apply below_alloc | apply pw_below_drewN | apply below_drew1) | exact HB.out)) hb); have n1_ := Aside0.mk (hbox); have n2_ := Aside0.mk ((by rw [hg]; exact (below_size (by repeat (first | (with_reducible first | exact HB.out | apply below_alloc | apply pw_below_drewN | apply below_drew1) | exact HB.out))) : w.heap.size ≤ gb218)); have n3_ := Aside0.mk ((by rw [hg]; exact (below_size (by repeat (first | (with_reducible first | exact HB.out | apply below_alloc | apply pw_below_drewN | apply below_drew1) | exact HB.out))) : w.heap.size ≤ gb218)); clear HB; have HB := n0_; have BK218 := n1_; have GW218 := n2_; have GE218 := n3_; clear n0_ n1_ n2_ n3_; clear hb hbox hg; have hcz6_0 : w5.cell? ⟨gb218, 0, none⟩ = some (.int .i64 a1_0) := (blk_cell BK218.out 0).trans rfl; have hcz6_1 : w5.cell? ⟨gb218, 1, none⟩ = some (.int .i64 a1_1) := (blk_cell BK218.out 1).trans rfl; have hfz6_0 := blk_frozen BK218.out 0; have hfz6_1 := blk_frozen BK218.out 1))
      go_ret
      exact ⟨by first | rfl | (simp [errW_none, errW_some] <;> rfl) | (simp [*, errW_none, errW_some] <;> rfl), by repeat (first | (with_reducible first | exact HB.out | apply below_alloc | apply pw_below_drewN | apply below_drew1 | refine below_set ?_ GE218.out) | exact HB.out)⟩
    · rw [if_neg c4] at H
      have c4b0 : decide (a1_0 < a1_1) = false := decide_eq_false c4
      clear c4
      obtain rfl := Option.some.inj H
      go_enter Try.func93, Try.ntmps93
      go_wp2_with (first | ((with_reducible refine gate_dst (N := 3) rfl ?_); refine box_event ?hg (N := 3) ?hd (cs := #[.int .i64 a1_0, .int .i64 a1_1]) (t := 47) ?hr ?_; (case hd => rfl); (case hg => rfl); (case hr => first | (go_simp; done) | (go_simp; rfl)); intro gb218 hg w7 hbox hb; have n0_ := Aside0.mk (below_step (by repeat (first | (with_reducible first | exact HB.out | apply below_alloc | apply pw_below_drewN | apply below_drew1) | exact HB.out)) hb); have n1_ := Aside0.mk (hbox); have n2_ := Aside0.mk ((by rw [hg]; exact (below_size (by repeat (first | (with_reducible first | exact HB.out | apply below_alloc | apply pw_below_drewN | apply below_drew1) | exact HB.out))) : w.heap.size ≤ gb218)); have n3_ := Aside0.mk ((by rw [hg]; exact (below_size (by repeat (first | (with_reducible first | exact HB.out | apply below_alloc | apply pw_below_drewN | apply below_drew1) | exact HB.out))) : w.heap.size ≤ gb218)); clear HB; have HB := n0_; have BK218 := n1_; have GW218 := n2_; have GE218 := n3_; clear n0_ n1_ n2_ n3_; clear hb hbox hg; have hcz8_0 : w7.cell? ⟨gb218, 0, none⟩ = some (.int .i64 a1_0) := (blk_cell BK218.out 0).trans rfl; have hcz8_1 : w7.cell? ⟨gb218, 1, none⟩ = some (.int .i64 a1_1) := (blk_cell BK218.out 1).trans rfl; have hfz8_0 := blk_frozen BK218.out 0; have hfz8_1 := blk_frozen BK218.out 1))
      go_ret
      exact ⟨by first | rfl | (simp [errW_none, errW_some] <;> rfl) | (simp [*, errW_none, errW_some] <;> rfl), by repeat (first | (with_reducible first | exact HB.out | apply below_alloc | apply pw_below_drewN | apply below_drew1 | refine below_set ?_ GE218.out) | exact HB.out)⟩
  · rw [if_neg c3] at H
    have c3b0 : decide (0 ≤ a1_0) = false := decide_eq_false c3
    clear c3
    obtain rfl := Option.some.inj H
    go_enter Try.func93, Try.ntmps93
    go_wp2_with (first | ((with_reducible refine gate_dst (N := 3) rfl ?_); refine box_event ?hg (N := 3) ?hd (cs := #[.int .i64 a1_0, .int .i64 a1_1]) (t := 47) ?hr ?_; (case hd => rfl); (case hg => rfl); (case hr => first | (go_simp; done) | (go_simp; rfl)); intro gb218 hg w9 hbox hb; have n0_ := Aside0.mk (below_step (by repeat (first | (with_reducible first | exact HB.out | apply below_alloc | apply pw_below_drewN | apply below_drew1) | exact HB.out)) hb); have n1_ := Aside0.mk (hbox); have n2_ := Aside0.mk ((by rw [hg]; exact (below_size (by repeat (first | (with_reducible first | exact HB.out | apply below_alloc | apply pw_below_drewN | apply below_drew1) | exact HB.out))) : w.heap.size ≤ gb218)); have n3_ := Aside0.mk ((by rw [hg]; exact (below_size (by repeat (first | (with_reducible first | exact HB.out | apply below_alloc | apply pw_below_drewN | apply below_drew1) | exact HB.out))) : w.heap.size ≤ gb218)); clear HB; have HB := n0_; have BK218 := n1_; have GW218 := n2_; have GE218 := n3_; clear n0_ n1_ n2_ n3_; clear hb hbox hg; have hcz10_0 : w9.cell? ⟨gb218, 0, none⟩ = some (.int .i64 a1_0) := (blk_cell BK218.out 0).trans rfl; have hcz10_1 : w9.cell? ⟨gb218, 1, none⟩ = some (.int .i64 a1_1) := (blk_cell BK218.out 1).trans rfl; have hfz10_0 := blk_frozen BK218.out 0; have hfz10_1 := blk_frozen BK218.out 1))
    go_ret
    exact ⟨by first | rfl | (simp [errW_none, errW_some] <;> rfl) | (simp [*, errW_none, errW_some] <;> rfl), by repeat (first | (with_reducible first | exact HB.out | apply below_alloc | apply pw_below_drewN | apply below_drew1 | refine below_set ?_ GE218.out) | exact HB.out)⟩

end Go.Proofs.Ytdeenfpcmaadcaa.Pr

-- Written by a program for this claim.
namespace Go.Proofs.Ytdeenfpcmaadcaa.Pr
open Go.RowKit Go.Proofs.YtdeenfpcmaadcaaW.PrintWords Go.Proofs.YtdeenfpcmaadcaaW.PrintLast Go.Proofs.YtdeenfpcmaadcaaW.PrintMore
attribute [local go_sem] max2_int min2_int max_two min_two max_three min_three max_four min_four   -- for this text's walks alone
set_option linter.unusedVariables false
set_option linter.unusedSimpArgs false

/-! ### impl_AreChords: function 82 -/
def impl_AreChords.l0 : Nat → Int → List (S47) → List (S47) → Int → Int → Option (Bool)
  | 0, _, _, _, _, _ => none
  | k + 1, x0, x1, x10, x11, x12 => if x12 < x11 then (if 0 ≤ x12 then (if x12 < (x10.length : Int) then ((impl_isChord.f x0 ((rd_T47 x10 x12).f0) ((rd_T47 x10 x12).f1)).bind fun t222 => (if t222 = true then (if x12 > 0 then (if 0 ≤ (wrap64 (x12 - 1)) then (if (wrap64 (x12 - 1)) < (x1.length : Int) then ((impl_compareChords.f k ((rd_T47 x1 (wrap64 (x12 - 1))).f0) ((rd_T47 x1 (wrap64 (x12 - 1))).f1) ((rd_T47 x10 x12).f0) ((rd_T47 x10 x12).f1)).bind fun t224 => (if t224 ≥ 0 then (some false) else (impl_AreChords.l0 k x0 x1 x10 x11 (wrap64 (x12 + 1))))) else (none)) else (none)) else (impl_AreChords.l0 k x0 x1 x10 x11 (wrap64 (x12 + 1)))) else (some false))) else (none)) else (none)) else (some (decide ((x1.length : Int) ≤ 40)))
def impl_AreChords.f (k : Nat) (a0 : Int) (l1 : List (S47)) : Option (Bool) := (impl_within.f a0 3 60).bind fun t219 => (if t219 = true then (impl_AreChords.l0 k a0 l1 l1 (l1.length : Int) 0) else (some false))
theorem impl_AreChords.mono_l : ∀ k, (∀ y0 y1 y2 y3 y4, LeO (impl_AreChords.l0 k y0 y1 y2 y3 y4) (impl_AreChords.l0 (k + 1) y0 y1 y2 y3 y4))
  | 0 => fun _ _ _ _ _ r h => by simp [impl_AreChords.l0] at h
  | k + 1 => by
    have ih0 := impl_AreChords.mono_l k
    · intro y0 y1 y2 y3 y4
      unfold impl_AreChords.l0
      repeat' first
      | (with_reducible exact ih0 _ _ _ _ _)
      | (with_reducible exact impl_compareChords.mono _ _ _ _ _)
      | (with_reducible exact LeO.refl _)
      | (with_reducible exact LeO.none _)
      | (with_reducible refine LeO.ite ?_ ?_)
      | (with_reducible refine LeO.bind ?_ (fun _ => ?_))
      | exact ih0 _ _ _ _ _
      | exact impl_compareChords.mono _ _ _ _ _
      | exact LeO.none _
      | refine LeO.ite ?_ ?_
      | refine LeO.bind ?_ (fun _ => ?_)
theorem impl_AreChords.mono : ∀ a0 a1 k, LeO (impl_AreChords.f k a0 a1) (impl_AreChords.f (k + 1) a0 a1) := by
  intro a0 a1 k
  have ih0 := impl_AreChords.mono_l k
  unfold impl_AreChords.f
  repeat' first
      | (with_reducible exact ih0 _ _ _ _ _)
      | (with_reducible exact impl_compareChords.mono _ _ _ _ _)
      | (with_reducible exact LeO.refl _)
      | (with_reducible exact LeO.none _)
      | (with_reducible refine LeO.ite ?_ ?_)
      | (with_reducible refine LeO.bind ?_ (fun _ => ?_))
      | exact ih0 _ _ _ _ _
      | exact impl_compareChords.mono _ _ _ _ _
      | exact LeO.none _
      | refine LeO.ite ?_ ?_
      | refine LeO.bind ?_ (fun _ => ?_)
def impl_AreChords.T6 : Bool × List (List Nat × List Nat) := (true, [([], []), ([], []), ([0, 1], [0, 1]), ([2], [2]), ([3, 2], [3]), ([4], [4]), ([5, 4], [4, 5]), ([6, 4, 4], [4, 6]), ([7], [7]), ([7], [7]), ([9, 7], [7, 9]), ([8, 10, 7], [7, 8, 10]), ([11, 7], [7, 11]), ([7], [7]), ([12, 13, 7, 7], [7, 12, 13]), ([14, 7], [7, 14]), ([7, 15, 4], [4, 7, 15]), ([4, 16], [4, 16])])
def impl_AreChords.B6 : List Nat := [0, 0, 3, 7, 15, 31, 63, 127, 255, 255, 767, 2047, 4095, 255, 16383, 32767, 65535, 131071]
theorem impl_AreChords.tab6 : rtab .any (opsOf Try.f82 6) = impl_AreChords.T6 := by kernel_rfl
theorem impl_AreChords.bits6 : waitsOk impl_AreChords.T6.2 impl_AreChords.B6 = true := by kernel_rfl
set_option maxHeartbeats 8000000 in
set_option maxRecDepth 100000 in
theorem impl_AreChords.calls (k : Nat) (a0 : Int) (A1 : Option Addr) (c1 : Nat) (l1 : List (S47)) (r : Bool) (w : World) (hr1 : Kd.C k47 w A1 l1.length l1) (hc1 : l1.length ≤ c1) (h : impl_AreChords.f k a0 l1 = some r) :
    Calls Try.prog 82 #[.int .i64 a0, .slice A1 l1.length c1] w fun e w' => e = .returned (.bool r) ∧ Below w.heap.size w w' := by
  have hu47 := Try.underlying47
  have HR1 := Aside0.mk hr1
  have HC1 := Aside0.mk hc1
  clear hr1 hc1
  have HB := Aside0.mk (Below.refl w.heap.size w)
  have H : ((impl_within.f a0 3 60).bind fun t219 => (if t219 = true then (impl_AreChords.l0 k a0 l1 l1 (l1.length : Int) 0) else (some false))) = some r := h
  clear h
  replace H := Option.bind_eq_some_iff.mp H
  obtain ⟨t219, A30, H⟩ := H
  replace H : (if t219 = true then (impl_AreChords.l0 k a0 l1 l1 (l1.length : Int) 0) else (some false)) = some r := H
  have A3 := Aside0.mk A30
  clear A30
  by_cases c4 : t219 = true
  · subst c4
    have H1 : (impl_AreChords.l0 k a0 l1 l1 (l1.length : Int) 0) = some r := by rw [if_pos rfl] at H; exact H
    clear H
    have H := H1
    clear H1
    have H' := Aside0.mk H
    clear H
    go_enter Try.func82, Try.ntmps82
    go_wp2_with (first | ((with_reducible refine gate_callee (f := 39) rfl ?_); refine goesL_ (some 8) rfl rfl Try.func39 (by kernel_rfl) rfl #[.int .i64 a0, .int .i64 3, .int .i64 60] rfl (by (try simp only [List.map_toArray, List.map_cons, List.map_nil]); first | done | rfl | (simp only [List.length_drop, List.length_take]; rfl)) ?_; (with_reducible refine (impl_within.calls a0 3 60 true _ A3.out).mono ?_); rintro e w' ⟨rfl, ⟨nd, rfl⟩⟩; refine ⟨_, rfl, ?_⟩))
    go_loopg [12] k (fun kq v12 w' => ∃ (x12_1 : Int), v12 = .int .i64 x12_1 ∧ Aside0 (impl_AreChords.l0 kq a0 l1 l1 (l1.length : Int) x12_1 = some r) ∧ Aside0 (kq ≤ k) ∧ Aside0 (Below w.heap.size w w'))
    case atStart => exact ⟨(0), (by first | rfl | (simp; done) | (simp [*]; done)), H', ⟨Nat.le_refl _⟩, ⟨by repeat (first | (with_reducible first | exact HB.out | apply below_alloc | apply pw_below_drewN | apply below_drew1) | exact HB.out)⟩⟩
    case round =>
      clear H'
      try clear c1
      try clear p2
      try clear c3
      try clear c4
      obtain ⟨x12_1, rfl, HA, HK1, HB⟩ := hrel
      cases gk with
      | zero => exact absurd HA.out (by simp [impl_AreChords.l0])
      | succ k1 =>
        have H := HA.out
        clear HA
        simp only [impl_AreChords.l0] at H
        by_cases c5 : x12_1 < (l1.length : Int)
        · rw [if_pos c5] at H
          have c5b0 : decide (x12_1 < (l1.length : Int)) = true := decide_eq_true c5
          clear c5
          by_cases c6 : 0 ≤ x12_1
          · rw [if_pos c6] at H
            have c6b0 : decide (0 ≤ x12_1) = true := decide_eq_true c6
            clear c6
            by_cases c7 : x12_1 < (l1.length : Int)
            · rw [if_pos c7] at H
              have c7b0 : decide (x12_1 < (l1.length : Int)) = true := decide_eq_true c7
              clear c7
              replace H := Option.bind_eq_some_iff.mp H
              obtain ⟨t222, A80, H⟩ := H
              replace H : (if t222 = true then (if x12_1 > 0 then (if 0 ≤ (wrap64 (x12_1 - 1)) then (if (wrap64 (x12_1 - 1)) < (l1.length : Int) then ((impl_compareChords.f k1 ((rd_T47 l1 (wrap64 (x12_1 - 1))).f0) ((rd_T47 l1 (wrap64 (x12_1 - 1))).f1) ((rd_T47 l1 x12_1).f0) ((rd_T47 l1 x12_1).f1)).bind fun t224 => (if t224 ≥ 0 then (some false) else (impl_AreChords.l0 k1 a0 l1 l1 (l1.length : Int) (wrap64 (x12_1 + 1))))) else (none)) else (none)) else (impl_AreChords.l0 k1 a0 l1 l1 (l1.length : Int) (wrap64 (x12_1 + 1)))) else (some false)) = some r := H
              have A8 := Aside0.mk A80
              clear A80
              by_cases c9 : t222 = true
              · subst c9
                have H1 : (if x12_1 > 0 then (if 0 ≤ (wrap64 (x12_1 - 1)) then (if (wrap64 (x12_1 - 1)) < (l1.length : Int) then ((impl_compareChords.f k1 ((rd_T47 l1 (wrap64 (x12_1 - 1))).f0) ((rd_T47 l1 (wrap64 (x12_1 - 1))).f1) ((rd_T47 l1 x12_1).f0) ((rd_T47 l1 x12_1).f1)).bind fun t224 => (if t224 ≥ 0 then (some false) else (impl_AreChords.l0 k1 a0 l1 l1 (l1.length : Int) (wrap64 (x12_1 + 1))))) else (none)) else (none)) else (impl_AreChords.l0 k1 a0 l1 l1 (l1.length : Int) (wrap64 (x12_1 + 1)))) = some r := by rw [if_pos rfl] at H; exact H
                clear H
                have H := H1
                clear H1
                by_cases c10 : x12_1 > 0
                · rw [if_pos c10] at H
                  have c10b0 : decide (0 < x12_1) = true := decide_eq_true c10
                  clear c10
                  obtain ⟨ji11, hji11⟩ : ∃ j_ : Int, (wrap64 (x12_1 - 1)) = j_ := ⟨_, rfl⟩
                  replace H : (if 0 ≤ (ji11) then (if (ji11) < (l1.length : Int) then ((impl_compareChords.f k1 ((rd_T47 l1 (ji11)).f0) ((rd_T47 l1 (ji11)).f1) ((rd_T47 l1 x12_1).f0) ((rd_T47 l1 x12_1).f1)).bind fun t224 => (if t224 ≥ 0 then (some false) else (impl_AreChords.l0 k1 a0 l1 l1 (l1.length : Int) (wrap64 (x12_1 + 1))))) else (none)) else (none)) = some r := by first | (rw [hji11] at H; exact H) | (simp only [hji11] at H ⊢; exact H)
                  (try rw [hji11] at A8)
                  have hji11w : (IntKind.i64.wrap (x12_1 - 1)) = ji11 := (i64_w _).trans hji11
                  by_cases c12 : 0 ≤ (ji11)
                  · rw [if_pos c12] at H
                    have c12b0 : decide (0 ≤ (ji11)) = true := decide_eq_true c12
                    clear c12
                    by_cases c13 : (ji11) < (l1.length : Int)
                    · rw [if_pos c13] at H
                      have c13b0 : decide ((ji11) < (l1.length : Int)) = true := decide_eq_true c13
                      clear c13
                      replace H := Option.bind_eq_some_iff.mp H
                      obtain ⟨t224, A140, H⟩ := H
                      replace H : (if t224 ≥ 0 then (some false) else (impl_AreChords.l0 k1 a0 l1 l1 (l1.length : Int) (wrap64 (x12_1 + 1)))) = some r := H
                      have A14 := Aside0.mk A140
                      clear A140
                      by_cases c15 : t224 ≥ 0
                      · rw [if_pos c15] at H
                        have c15b0 : decide (0 ≤ t224) = true := decide_eq_true c15
                        clear c15
                        obtain rfl := Option.some.inj H
                        have p220 : 0 ≤ (x12_1 : Int) := of_decide_eq_true (by first | (with_reducible assumption) | assumption)
                        have q220 : x12_1 < (l1.length : Int) := of_decide_eq_true (by first | (with_reducible assumption) | assumption)
                        obtain ⟨ad220, e220, hx220_0, hx220_1⟩ := at_T47 HR1.out x12_1 p220 q220
                        cases e220
                        replace hx220_0 := (HB.out.cell (World.block_lt_of_cell? w _ hx220_0)).trans hx220_0
                        replace hx220_1 := (HB.out.cell (World.block_lt_of_cell? w _ hx220_1)).trans hx220_1
                        replace p220 := eq_true p220
                        replace q220 := eq_true q220
                        try go_wp2_with (first | ((with_reducible refine gate_dst (N := 6) rfl ?_); refine box_event ?hg (N := 6) ?hd (cs := #[.int .i64 0, .int .i64 0]) (t := 47) ?hr ?_; (case hd => rfl); (case hg => rfl); (case hr => first | (go_simp; done) | (go_simp; rfl)); intro gb221 hg w16 hbox hb; have n0_ := Aside0.mk (below_step (by repeat (first | (with_reducible first | exact HB.out | apply below_alloc | apply pw_below_drewN | apply below_drew1) | exact HB.out)) hb); have n1_ := Aside0.mk (hbox); have n2_ := Aside0.mk ((by rw [hg]; exact (below_size (by repeat (first | (with_reducible first | exact HB.out | apply below_alloc | apply pw_below_drewN | apply below_drew1) | exact HB.out))) : w.heap.size ≤ gb221)); have n3_ := Aside0.mk ((by rw [hg]; exact (below_size (by repeat (first | (with_reducible first | exact HB.out | apply below_alloc | apply pw_below_drewN | apply below_drew1) | exact HB.out))) : w.heap.size ≤ gb221)); clear HB; have HB := n0_; have BK221 := n1_; have GW221 := n2_; have GE221 := n3_; clear n0_ n1_ n2_ n3_; clear hb hbox hg; have hcz17_0 : w16.cell? ⟨gb221, 0, none⟩ = some (.int .i64 0) := (blk_cell BK221.out 0).trans rfl; have hcz17_1 : w16.cell? ⟨gb221, 1, none⟩ = some (.int .i64 0) := (blk_cell BK221.out 1).trans rfl; have hfz17_0 := blk_frozen BK221.out 0; have hfz17_1 := blk_frozen BK221.out 1))
                        have n0_ : Aside0 (((w16.setCell ⟨gb221, 0, none⟩ (.int .i64 ((rd_T47 l1 x12_1).f0))).setCell ⟨gb221, 1, none⟩ (.int .i64 ((rd_T47 l1 x12_1).f1))).heap[gb221]? = some (.cells #[.int .i64 ((rd_T47 l1 x12_1).f0), .int .i64 ((rd_T47 l1 x12_1).f1)] 47 (0, 0))) := ⟨by (with_reducible repeat (first | refine blk_drewN ?_ _ | refine blk_drew ?_ | refine blk_alloc ?_ _)); refine blk_put (cs := #[.int .i64 ((rd_T47 l1 x12_1).f0), .int .i64 0]) ?_ 1 _ rfl; (with_reducible repeat (first | refine blk_drewN ?_ _ | refine blk_drew ?_ | refine blk_alloc ?_ _)); refine blk_put (cs := #[.int .i64 0, .int .i64 0]) ?_ 0 _ rfl; (with_reducible repeat (first | refine blk_drewN ?_ _ | refine blk_drew ?_ | refine blk_alloc ?_ _)); exact BK221.out⟩
                        have n1_ : Aside0 (Below w.heap.size w ((w16.setCell ⟨gb221, 0, none⟩ (.int .i64 ((rd_T47 l1 x12_1).f0))).setCell ⟨gb221, 1, none⟩ (.int .i64 ((rd_T47 l1 x12_1).f1)))) := ⟨by repeat (first | (with_reducible first | exact HB.out | apply below_alloc | apply pw_below_drewN | apply below_drew1 | refine below_set ?_ GE221.out) | exact HB.out)⟩
                        (try clear BK221)
                        (try clear HB)
                        generalize ((w16.setCell ⟨gb221, 0, none⟩ (.int .i64 ((rd_T47 l1 x12_1).f0))).setCell ⟨gb221, 1, none⟩ (.int .i64 ((rd_T47 l1 x12_1).f1))) = w18 at n0_ n1_ ⊢
                        have BK221 := n0_
                        have HB := n1_
                        clear n0_ n1_
                        have n0_ := Aside0.mk (blk_drew BK221.out)
                        have n1_ := Aside0.mk (below_drew1 HB.out)
                        clear BK221
                        clear HB
                        have BK221 := n0_
                        have HB := n1_
                        clear n0_ n1_
                        have p223 : 0 ≤ ((ji11) : Int) := of_decide_eq_true (by first | (with_reducible assumption) | assumption)
                        have q223 : (ji11) < (l1.length : Int) := of_decide_eq_true (by first | (with_reducible assumption) | assumption)
                        obtain ⟨ad223, e223, hx223_0, hx223_1⟩ := at_T47 HR1.out (ji11) p223 q223
                        have hw223_1 := hx223_1
                        have hw223_0 := hx223_0
                        obtain rfl : ad220 = ad223 := (by injection e223)
                        replace hx223_0 := (HB.out.cell (World.block_lt_of_cell? w _ hx223_0)).trans hx223_0
                        replace hx223_1 := (HB.out.cell (World.block_lt_of_cell? w _ hx223_1)).trans hx223_1
                        replace p223 := eq_true p223
                        replace q223 := eq_true q223
                        refine start_ (n := 18) (S := fun w' => w'.cell? ⟨gb221, 0, none⟩ = some (.int .i64 ((rd_T47 l1 x12_1).f0)) ∧ w'.cell? ⟨gb221, 1, none⟩ = some (.int .i64 ((rd_T47 l1 x12_1).f1)) ∧ w'.cell? (ad220.add (((ji11)).toNat * 2)) = some (.int .i64 ((rd_T47 l1 (ji11)).f0)) ∧ w'.cell? ⟨(ad220.add (((ji11)).toNat * 2)).block, (ad220.add (((ji11)).toNat * 2)).off + 1, none⟩ = some (.int .i64 ((rd_T47 l1 (ji11)).f1))) (ds := []) #[false, false, false, false, false, false, false, false, false, false, false, false, false, false, false, false, false, false] (by kernel_rfl) rfl rfl ⟨(blk_cell BK221.out 0).trans rfl, (blk_cell BK221.out 1).trans rfl, ((HB.out.cell (World.block_lt_of_cell? w _ hw223_0)).trans hw223_0), ((HB.out.cell (World.block_lt_of_cell? w _ hw223_1)).trans hw223_1)⟩ (fun hHeld => ?_); refine with_tabW impl_AreChords.tab6 impl_AreChords.bits6 (fun HT_ HW_ => ?_)
                        generalize w18.drew = w19 at BK221 HB hx223_0 hx223_1 hHeld ⊢
                        refine pure_ (i := 0) (N := some 17) (v := ?_) (a' := ?_) #[true, false, false, false, false, false, false, false, false, false, false, false, false, false, false, false, false, false] rfl rfl (any_of HT_.out (by kernel_rfl)) (fun _ _ _ h => h) (Or.inl ⟨by rfl, ?_⟩) ?_ ?_
                        rotate_left
                        · intro w'
                          go_simp
                          with_reducible rfl
                        rotate_left
                        · simp only [Act.put, List.setIfInBounds_toArray, List.set_cons_zero, List.set_cons_succ, i64_w, i32_w]
                          rfl
                        refine take_ (i := 1) (N := some 18) (v := ?_) (a' := ?_) #[true, true, false, false, false, false, false, false, false, false, false, false, false, false, false, false, false, false] rfl rfl (take_ofW HT_.out HW_.out (by kernel_rfl)) (fun _ _ _ h => h) (Or.inl ⟨by rfl, ?_⟩) hHeld ?_ ?_
                        rotate_left
                        · rintro w' ⟨s0, s1, s2, s3⟩
                          go_simp
                          with_reducible rfl
                        rotate_left
                        · simp only [Act.put, List.setIfInBounds_toArray, List.set_cons_zero, List.set_cons_succ, i64_w, i32_w]
                          rfl
                        refine one_ (i := 2) (N := some 19) #[true, true, true, false, false, false, false, false, false, false, false, false, false, false, false, false, false, false] rfl rfl (one_of HT_.out (by kernel_rfl)) (by decide) (fun K hK => ?_)
                        refine goes_ Try.func93 (by kernel_rfl) rfl #[.int .i64 a0, .agg #[.int .i64 ((rd_T47 l1 x12_1).f0), .int .i64 ((rd_T47 l1 x12_1).f1)]] (by rfl) rfl rfl (by (try simp only [List.map_toArray, List.map_cons, List.map_nil]); first | done | rfl | (simp only [List.length_drop, List.length_take]; rfl)) ?_
                        with_reducible refine (impl_isChord.calls a0 ((rd_T47 l1 x12_1).f0) ((rd_T47 l1 x12_1).f1) true _ A8.out).mono ?_
                        rintro e w20 ⟨rfl, hb⟩
                        refine ⟨_, rfl, ?_⟩
                        have n0_ := Aside0.mk (blk_below (g := gb221) (o := .cells #[.int .i64 ((rd_T47 l1 x12_1).f0), .int .i64 ((rd_T47 l1 x12_1).f1)] 47 (0, 0)) (by (with_reducible repeat (first | refine blk_drewN ?_ _ | refine blk_drew ?_ | refine blk_alloc ?_ _)); exact BK221.out) hb)
                        have n1_ := Aside0.mk (below_step (by repeat (first | (with_reducible first | exact HB.out | apply below_alloc | apply pw_below_drewN | apply below_drew1 | refine below_set ?_ GE221.out) | exact HB.out)) hb)
                        clear BK221
                        clear HB
                        have BK221 := n0_
                        have HB := n1_
                        clear n0_ n1_
                        (try clear hb)
                        (try clear hb2)
                        (try clear hk)
                        (try clear hi)
                        refine hK.out _ _ ⟨(blk_cell BK221.out 0).trans rfl, (blk_cell BK221.out 1).trans rfl, ((HB.out.cell (World.block_lt_of_cell? w _ hw223_0)).trans hw223_0), ((HB.out.cell (World.block_lt_of_cell? w _ hw223_1)).trans hw223_1)⟩ (fun hHeld => ?_)
                        clear hK K
                        refine norm_ (a' := ?_) ?_ ?_
                        rotate_left
                        · show Act.put _ (some 19) _ = _
                          simp only [Act.put, List.setIfInBounds_toArray, List.set_cons_zero, List.set_cons_succ, i64_w, i32_w]
                          rfl
                        refine pure_ (i := 3) (N := some 20) (v := ?_) (a' := ?_) #[true, true, true, true, false, false, false, false, false, false, false, false, false, false, false, false, false, false] rfl rfl (any_of HT_.out (by kernel_rfl)) (fun _ _ _ h => h) (Or.inl ⟨by rfl, ?_⟩) ?_ ?_
                        rotate_left
                        · intro w'
                          go_simp
                          with_reducible rfl
                        rotate_left
                        · simp only [Act.put, List.setIfInBounds_toArray, List.set_cons_zero, List.set_cons_succ, i64_w, i32_w]
                          rfl
                        refine pure_ (i := 4) (N := some 21) (v := ?_) (a' := ?_) #[true, true, true, true, true, false, false, false, false, false, false, false, false, false, false, false, false, false] rfl rfl (any_of HT_.out (by kernel_rfl)) (fun _ _ _ h => h) (Or.inl ⟨by rfl, ?_⟩) ?_ ?_
                        rotate_left
                        · intro w'
                          go_simp
                          with_reducible rfl
                        rotate_left
                        · simp only [Act.put, List.setIfInBounds_toArray, List.set_cons_zero, List.set_cons_succ, i64_w, i32_w]
                          rfl
                        refine pure_ (i := 5) (N := some 22) (v := ?_) (a' := ?_) #[true, true, true, true, true, true, false, false, false, false, false, false, false, false, false, false, false, false] rfl rfl (any_of HT_.out (by kernel_rfl)) (fun _ _ _ h => h) (Or.inl ⟨by rfl, ?_⟩) ?_ ?_
                        rotate_left
                        · intro w'
                          go_simp
                          with_reducible rfl
                        rotate_left
                        · simp only [Act.put, List.setIfInBounds_toArray, List.set_cons_zero, List.set_cons_succ, i64_w, i32_w]
                          rfl
                        refine pure_ (i := 6) (N := some 23) (v := ?_) (a' := ?_) #[true, true, true, true, true, true, true, false, false, false, false, false, false, false, false, false, false, false] rfl rfl (any_of HT_.out (by kernel_rfl)) (fun _ _ _ h => h) (Or.inl ⟨by rfl, ?_⟩) ?_ ?_
                        rotate_left
                        · intro w'
                          go_simp
                          with_reducible rfl
                        rotate_left
                        · simp only [Act.put, List.setIfInBounds_toArray, List.set_cons_zero, List.set_cons_succ, i64_w, i32_w]
                          rfl
                        refine pure_ (i := 7) (N := some 24) (v := ?_) (a' := ?_) #[true, true, true, true, true, true, true, true, false, false, false, false, false, false, false, false, false, false] rfl rfl (any_of HT_.out (by kernel_rfl)) (fun _ _ _ h => h) (Or.inl ⟨by rfl, ?_⟩) ?_ ?_
                        rotate_left
                        · intro w'
                          go_simp
                          with_reducible rfl
                        rotate_left
                        · simp only [Act.put, List.setIfInBounds_toArray, List.set_cons_zero, List.set_cons_succ, i64_w, i32_w]
                          rfl
                        refine pure_ (i := 8) (N := some 25) (v := ?_) (a' := ?_) #[true, true, true, true, true, true, true, true, true, false, false, false, false, false, false, false, false, false] rfl rfl (any_of HT_.out (by kernel_rfl)) (fun _ _ _ h => h) (Or.inl ⟨by rfl, ?_⟩) ?_ ?_
                        rotate_left
                        · intro w'
                          go_simp
                          with_reducible rfl
                        rotate_left
                        · simp only [Act.put, List.setIfInBounds_toArray, List.set_cons_zero, List.set_cons_succ, i64_w, i32_w]
                          rfl
                        refine pure_ (i := 9) (N := some 26) (v := ?_) (a' := ?_) #[true, true, true, true, true, true, true, true, true, true, false, false, false, false, false, false, false, false] rfl rfl (any_of HT_.out (by kernel_rfl)) (fun _ _ _ h => h) (Or.inl ⟨by rfl, ?_⟩) ?_ ?_
                        rotate_left
                        · intro w'
                          go_simp
                          with_reducible rfl
                        rotate_left
                        · simp only [Act.put, List.setIfInBounds_toArray, List.set_cons_zero, List.set_cons_succ, i64_w, i32_w]
                          rfl
                        refine pure_ (i := 10) (N := some 27) (v := ?_) (a' := ?_) #[true, true, true, true, true, true, true, true, true, true, true, false, false, false, false, false, false, false] rfl rfl (any_of HT_.out (by kernel_rfl)) (fun _ _ _ h => h) (Or.inl ⟨by rfl, ?_⟩) ?_ ?_
                        rotate_left
                        · intro w'
                          go_simp
                          with_reducible rfl
                        rotate_left
                        · simp only [Act.put, List.setIfInBounds_toArray, List.set_cons_zero, List.set_cons_succ, i64_w, i32_w]
                          rfl
                        refine pure_ (i := 11) (N := some 28) (v := ?_) (a' := ?_) #[true, true, true, true, true, true, true, true, true, true, true, true, false, false, false, false, false, false] rfl rfl (any_of HT_.out (by kernel_rfl)) (fun _ _ _ h => h) (Or.inl ⟨by rfl, ?_⟩) ?_ ?_
                        rotate_left
                        · intro w'
                          go_simp
                          with_reducible rfl
                        rotate_left
                        · simp only [Act.put, List.setIfInBounds_toArray, List.set_cons_zero, List.set_cons_succ, i64_w, i32_w]
                          rfl
                        refine take_ (i := 12) (N := some 29) (v := ?_) (a' := ?_) #[true, true, true, true, true, true, true, true, true, true, true, true, true, false, false, false, false, false] rfl rfl (take_ofW HT_.out HW_.out (by kernel_rfl)) (fun _ _ _ h => h) (Or.inl ⟨by rfl, ?_⟩) hHeld ?_ ?_
                        rotate_left
                        · rintro w' ⟨s0, s1, s2, s3⟩
                          go_simp
                          with_reducible rfl
                        rotate_left
                        · simp only [Act.put, List.setIfInBounds_toArray, List.set_cons_zero, List.set_cons_succ, i64_w, i32_w]
                          rfl
                        refine take_ (i := 13) (N := some 30) (v := ?_) (a' := ?_) #[true, true, true, true, true, true, true, true, true, true, true, true, true, true, false, false, false, false] rfl rfl (take_ofW HT_.out HW_.out (by kernel_rfl)) (fun _ _ _ h => h) (Or.inl ⟨by rfl, ?_⟩) hHeld ?_ ?_
                        rotate_left
                        · rintro w' ⟨s0, s1, s2, s3⟩
                          go_simp
                          with_reducible rfl
                        rotate_left
                        · simp only [Act.put, List.setIfInBounds_toArray, List.set_cons_zero, List.set_cons_succ, i64_w, i32_w]
                          rfl
                        refine one_ (i := 14) (N := some 31) #[true, true, true, true, true, true, true, true, true, true, true, true, true, true, true, false, false, false] rfl rfl (one_of HT_.out (by kernel_rfl)) (by decide) (fun K hK => ?_)
                        refine goes_ Try.func77 (by kernel_rfl) rfl #[.agg #[.int .i64 ((rd_T47 l1 (ji11)).f0), .int .i64 ((rd_T47 l1 (ji11)).f1)], .agg #[.int .i64 ((rd_T47 l1 x12_1).f0), .int .i64 ((rd_T47 l1 x12_1).f1)]] (by rfl) rfl rfl (by (try simp only [List.map_toArray, List.map_cons, List.map_nil]); first | done | (simp only [hji11]; rfl) | rfl | (simp only [List.length_drop, List.length_take]; rfl)) ?_
                        with_reducible refine (impl_compareChords.calls k1 ((rd_T47 l1 (ji11)).f0) ((rd_T47 l1 (ji11)).f1) ((rd_T47 l1 x12_1).f0) ((rd_T47 l1 x12_1).f1) t224 _ A14.out).mono ?_
                        rintro e w21 ⟨rfl, hb⟩
                        refine ⟨_, rfl, ?_⟩
                        have n0_ := Aside0.mk (blk_below (g := gb221) (o := .cells #[.int .i64 ((rd_T47 l1 x12_1).f0), .int .i64 ((rd_T47 l1 x12_1).f1)] 47 (0, 0)) (by (with_reducible repeat (first | refine blk_drewN ?_ _ | refine blk_drew ?_ | refine blk_alloc ?_ _)); exact BK221.out) hb)
                        have n1_ := Aside0.mk (below_step (by repeat (first | (with_reducible first | exact HB.out | apply below_alloc | apply pw_below_drewN | apply below_drew1 | refine below_set ?_ GE221.out) | exact HB.out)) hb)
                        clear BK221
                        clear HB
                        have BK221 := n0_
                        have HB := n1_
                        clear n0_ n1_
                        (try clear hb)
                        (try clear hb2)
                        (try clear hk)
                        (try clear hi)
                        refine hK.out _ _ ⟨(blk_cell BK221.out 0).trans rfl, (blk_cell BK221.out 1).trans rfl, ((HB.out.cell (World.block_lt_of_cell? w _ hw223_0)).trans hw223_0), ((HB.out.cell (World.block_lt_of_cell? w _ hw223_1)).trans hw223_1)⟩ (fun hHeld => ?_)
                        clear hK K
                        refine norm_ (a' := ?_) ?_ ?_
                        rotate_left
                        · show Act.put _ (some 31) _ = _
                          simp only [Act.put, List.setIfInBounds_toArray, List.set_cons_zero, List.set_cons_succ, i64_w, i32_w]
                          rfl
                        refine pure_ (i := 15) (N := some 32) (v := ?_) (a' := ?_) #[true, true, true, true, true, true, true, true, true, true, true, true, true, true, true, true, false, false] rfl rfl (any_of HT_.out (by kernel_rfl)) (fun _ _ _ h => h) (Or.inl ⟨by rfl, ?_⟩) ?_ ?_
                        rotate_left
                        · intro w'
                          go_simp
                          with_reducible rfl
                        rotate_left
                        · simp only [Act.put, List.setIfInBounds_toArray, List.set_cons_zero, List.set_cons_succ, i64_w, i32_w]
                          rfl
                        refine pure_ (i := 16) (N := some 33) (v := ?_) (a' := ?_) #[true, true, true, true, true, true, true, true, true, true, true, true, true, true, true, true, true, false] rfl rfl (any_of HT_.out (by kernel_rfl)) (fun _ _ _ h => h) (Or.inl ⟨by rfl, ?_⟩) ?_ ?_
                        rotate_left
                        · intro w'
                          go_simp
                          with_reducible rfl
                        rotate_left
                        · simp only [Act.put, List.setIfInBounds_toArray, List.set_cons_zero, List.set_cons_succ, i64_w, i32_w]
                          rfl
                        refine pure_ (i := 17) (N := some 34) (v := ?_) (a' := ?_) #[true, true, true, true, true, true, true, true, true, true, true, true, true, true, true, true, true, true] rfl rfl (any_of HT_.out (by kernel_rfl)) (fun _ _ _ h => h) (Or.inl ⟨by rfl, ?_⟩) ?_ ?_
                        rotate_left
                        · intro w'
                          go_simp
                          with_reducible rfl
                        rotate_left
                        · simp only [Act.put, List.setIfInBounds_toArray, List.set_cons_zero, List.set_cons_succ, i64_w, i32_w]
                          rfl
                        refine done_ (done_of HT_.out (by kernel_rfl)) ?_
                        try go_wp2
                        go_ret
                        exact ⟨by first | rfl | (simp [errW_none, errW_some] <;> rfl) | (simp only [← hji11]; first | rfl | (simp [errW_none, errW_some] <;> rfl)) | (simp [*, errW_none, errW_some] <;> rfl), by repeat (first | (with_reducible first | exact HB.out | apply below_alloc | apply pw_below_drewN | apply below_drew1 | refine below_set ?_ GE221.out) | exact HB.out)⟩
                      · rw [if_neg c15] at H
                        have c15b0 : decide (0 ≤ t224) = false := decide_eq_false c15
                        clear c15
                        have H' := Aside0.mk H
                        clear H
                        have p220 : 0 ≤ (x12_1 : Int) := of_decide_eq_true (by first | (with_reducible assumption) | assumption)
                        have q220 : x12_1 < (l1.length : Int) := of_decide_eq_true (by first | (with_reducible assumption) | assumption)
                        obtain ⟨ad220, e220, hx220_0, hx220_1⟩ := at_T47 HR1.out x12_1 p220 q220
                        cases e220
                        replace hx220_0 := (HB.out.cell (World.block_lt_of_cell? w _ hx220_0)).trans hx220_0
                        replace hx220_1 := (HB.out.cell (World.block_lt_of_cell? w _ hx220_1)).trans hx220_1
                        replace p220 := eq_true p220
                        replace q220 := eq_true q220
                        try go_wp2_with (first | ((with_reducible refine gate_dst (N := 6) rfl ?_); refine box_event ?hg (N := 6) ?hd (cs := #[.int .i64 0, .int .i64 0]) (t := 47) ?hr ?_; (case hd => rfl); (case hg => rfl); (case hr => first | (go_simp; done) | (go_simp; rfl)); intro gb221 hg w22 hbox hb; have n0_ := Aside0.mk (below_step (by repeat (first | (with_reducible first | exact HB.out | apply below_alloc | apply pw_below_drewN | apply below_drew1) | exact HB.out)) hb); have n1_ := Aside0.mk (hbox); have n2_ := Aside0.mk ((by rw [hg]; exact (below_size (by repeat (first | (with_reducible first | exact HB.out | apply below_alloc | apply pw_below_drewN | apply below_drew1) | exact HB.out))) : w.heap.size ≤ gb221)); have n3_ := Aside0.mk ((by rw [hg]; exact (below_size (by repeat (first | (with_reducible first | exact HB.out | apply below_alloc | apply pw_below_drewN | apply below_drew1) | exact HB.out))) : w.heap.size ≤ gb221)); clear HB; have HB := n0_; have BK221 := n1_; have GW221 := n2_; have GE221 := n3_; clear n0_ n1_ n2_ n3_; clear hb hbox hg; have hcz23_0 : w22.cell? ⟨gb221, 0, none⟩ = some (.int .i64 0) := (blk_cell BK221.out 0).trans rfl; have hcz23_1 : w22.cell? ⟨gb221, 1, none⟩ = some (.int .i64 0) := (blk_cell BK221.out 1).trans rfl; have hfz23_0 := blk_frozen BK221.out 0; have hfz23_1 := blk_frozen BK221.out 1))
                        have n0_ : Aside0 (((w22.setCell ⟨gb221, 0, none⟩ (.int .i64 ((rd_T47 l1 x12_1).f0))).setCell ⟨gb221, 1, none⟩ (.int .i64 ((rd_T47 l1 x12_1).f1))).heap[gb221]? = some (.cells #[.int .i64 ((rd_T47 l1 x12_1).f0), .int .i64 ((rd_T47 l1 x12_1).f1)] 47 (0, 0))) := ⟨by (with_reducible repeat (first | refine blk_drewN ?_ _ | refine blk_drew ?_ | refine blk_alloc ?_ _)); refine blk_put (cs := #[.int .i64 ((rd_T47 l1 x12_1).f0), .int .i64 0]) ?_ 1 _ rfl; (with_reducible repeat (first | refine blk_drewN ?_ _ | refine blk_drew ?_ | refine blk_alloc ?_ _)); refine blk_put (cs := #[.int .i64 0, .int .i64 0]) ?_ 0 _ rfl; (with_reducible repeat (first | refine blk_drewN ?_ _ | refine blk_drew ?_ | refine blk_alloc ?_ _)); exact BK221.out⟩
                        have n1_ : Aside0 (Below w.heap.size w ((w22.setCell ⟨gb221, 0, none⟩ (.int .i64 ((rd_T47 l1 x12_1).f0))).setCell ⟨gb221, 1, none⟩ (.int .i64 ((rd_T47 l1 x12_1).f1)))) := ⟨by repeat (first | (with_reducible first | exact HB.out | apply below_alloc | apply pw_below_drewN | apply below_drew1 | refine below_set ?_ GE221.out) | exact HB.out)⟩
                        (try clear BK221)
                        (try clear HB)
                        generalize ((w22.setCell ⟨gb221, 0, none⟩ (.int .i64 ((rd_T47 l1 x12_1).f0))).setCell ⟨gb221, 1, none⟩ (.int .i64 ((rd_T47 l1 x12_1).f1))) = w24 at n0_ n1_ ⊢
                        have BK221 := n0_
                        have HB := n1_
                        clear n0_ n1_
                        have n0_ := Aside0.mk (blk_drew BK221.out)
                        have n1_ := Aside0.mk (below_drew1 HB.out)
                        clear BK221
                        clear HB
                        have BK221 := n0_
                        have HB := n1_
                        clear n0_ n1_
                        have p223 : 0 ≤ ((ji11) : Int) := of_decide_eq_true (by first | (with_reducible assumption) | assumption)
                        have q223 : (ji11) < (l1.length : Int) := of_decide_eq_true (by first | (with_reducible assumption) | assumption)
                        obtain ⟨ad223, e223, hx223_0, hx223_1⟩ := at_T47 HR1.out (ji11) p223 q223
                        have hw223_1 := hx223_1
                        have hw223_0 := hx223_0
                        obtain rfl : ad220 = ad223 := (by injection e223)
                        replace hx223_0 := (HB.out.cell (World.block_lt_of_cell? w _ hx223_0)).trans hx223_0
                        replace hx223_1 := (HB.out.cell (World.block_lt_of_cell? w _ hx223_1)).trans hx223_1
                        replace p223 := eq_true p223
                        replace q223 := eq_true q223
                        refine start_ (n := 18) (S := fun w' => w'.cell? ⟨gb221, 0, none⟩ = some (.int .i64 ((rd_T47 l1 x12_1).f0)) ∧ w'.cell? ⟨gb221, 1, none⟩ = some (.int .i64 ((rd_T47 l1 x12_1).f1)) ∧ w'.cell? (ad220.add (((ji11)).toNat * 2)) = some (.int .i64 ((rd_T47 l1 (ji11)).f0)) ∧ w'.cell? ⟨(ad220.add (((ji11)).toNat * 2)).block, (ad220.add (((ji11)).toNat * 2)).off + 1, none⟩ = some (.int .i64 ((rd_T47 l1 (ji11)).f1))) (ds := []) #[false, false, false, false, false, false, false, false, false, false, false, false, false, false, false, false, false, false] (by kernel_rfl) rfl rfl ⟨(blk_cell BK221.out 0).trans rfl, (blk_cell BK221.out 1).trans rfl, ((HB.out.cell (World.block_lt_of_cell? w _ hw223_0)).trans hw223_0), ((HB.out.cell (World.block_lt_of_cell? w _ hw223_1)).trans hw223_1)⟩ (fun hHeld => ?_); refine with_tabW impl_AreChords.tab6 impl_AreChords.bits6 (fun HT_ HW_ => ?_)
                        generalize w24.drew = w25 at BK221 HB hx223_0 hx223_1 hHeld ⊢
                        refine pure_ (i := 0) (N := some 17) (v := ?_) (a' := ?_) #[true, false, false, false, false, false, false, false, false, false, false, false, false, false, false, false, false, false] rfl rfl (any_of HT_.out (by kernel_rfl)) (fun _ _ _ h => h) (Or.inl ⟨by rfl, ?_⟩) ?_ ?_
                        rotate_left
                        · intro w'
                          go_simp
                          with_reducible rfl
                        rotate_left
                        · simp only [Act.put, List.setIfInBounds_toArray, List.set_cons_zero, List.set_cons_succ, i64_w, i32_w]
                          rfl
                        refine take_ (i := 1) (N := some 18) (v := ?_) (a' := ?_) #[true, true, false, false, false, false, false, false, false, false, false, false, false, false, false, false, false, false] rfl rfl (take_ofW HT_.out HW_.out (by kernel_rfl)) (fun _ _ _ h => h) (Or.inl ⟨by rfl, ?_⟩) hHeld ?_ ?_
                        rotate_left
                        · rintro w' ⟨s0, s1, s2, s3⟩
                          go_simp
                          with_reducible rfl
                        rotate_left
                        · simp only [Act.put, List.setIfInBounds_toArray, List.set_cons_zero, List.set_cons_succ, i64_w, i32_w]
                          rfl
                        refine one_ (i := 2) (N := some 19) #[true, true, true, false, false, false, false, false, false, false, false, false, false, false, false, false, false, false] rfl rfl (one_of HT_.out (by kernel_rfl)) (by decide) (fun K hK => ?_)
                        refine goes_ Try.func93 (by kernel_rfl) rfl #[.int .i64 a0, .agg #[.int .i64 ((rd_T47 l1 x12_1).f0), .int .i64 ((rd_T47 l1 x12_1).f1)]] (by rfl) rfl rfl (by (try simp only [List.map_toArray, List.map_cons, List.map_nil]); first | done | rfl | (simp only [List.length_drop, List.length_take]; rfl)) ?_
                        with_reducible refine (impl_isChord.calls a0 ((rd_T47 l1 x12_1).f0) ((rd_T47 l1 x12_1).f1) true _ A8.out).mono ?_
                        rintro e w26 ⟨rfl, hb⟩
                        refine ⟨_, rfl, ?_⟩
                        have n0_ := Aside0.mk (blk_below (g := gb221) (o := .cells #[.int .i64 ((rd_T47 l1 x12_1).f0), .int .i64 ((rd_T47 l1 x12_1).f1)] 47 (0, 0)) (by (with_reducible repeat (first | refine blk_drewN ?_ _ | refine blk_drew ?_ | refine blk_alloc ?_ _)); exact BK221.out) hb)
                        have n1_ := Aside0.mk (below_step (by repeat (first | (with_reducible first | exact HB.out | apply below_alloc | apply pw_below_drewN | apply below_drew1 | refine below_set ?_ GE221.out) | exact HB.out)) hb)
                        clear BK221
                        clear HB
                        have BK221 := n0_
                        have HB := n1_
                        clear n0_ n1_
                        (try clear hb)
                        (try clear hb2)
                        (try clear hk)
                        (try clear hi)
                        refine hK.out _ _ ⟨(blk_cell BK221.out 0).trans rfl, (blk_cell BK221.out 1).trans rfl, ((HB.out.cell (World.block_lt_of_cell? w _ hw223_0)).trans hw223_0), ((HB.out.cell (World.block_lt_of_cell? w _ hw223_1)).trans hw223_1)⟩ (fun hHeld => ?_)
                        clear hK K
                        refine norm_ (a' := ?_) ?_ ?_
                        rotate_left
                        · show Act.put _ (some 19) _ = _
                          simp only [Act.put, List.setIfInBounds_toArray, List.set_cons_zero, List.set_cons_succ, i64_w, i32_w]
                          rfl
                        refine pure_ (i := 3) (N := some 20) (v := ?_) (a' := ?_) #[true, true, true, true, false, false, false, false, false, false, false, false, false, false, false, false, false, false] rfl rfl (any_of HT_.out (by kernel_rfl)) (fun _ _ _ h => h) (Or.inl ⟨by rfl, ?_⟩) ?_ ?_
                        rotate_left
                        · intro w'
                          go_simp
                          with_reducible rfl
                        rotate_left
                        · simp only [Act.put, List.setIfInBounds_toArray, List.set_cons_zero, List.set_cons_succ, i64_w, i32_w]
                          rfl
                        refine pure_ (i := 4) (N := some 21) (v := ?_) (a' := ?_) #[true, true, true, true, true, false, false, false, false, false, false, false, false, false, false, false, false, false] rfl rfl (any_of HT_.out (by kernel_rfl)) (fun _ _ _ h => h) (Or.inl ⟨by rfl, ?_⟩) ?_ ?_
                        rotate_left
                        · intro w'
                          go_simp
                          with_reducible rfl
                        rotate_left
                        · simp only [Act.put, List.setIfInBounds_toArray, List.set_cons_zero, List.set_cons_succ, i64_w, i32_w]
                          rfl
                        refine pure_ (i := 5) (N := some 22) (v := ?_) (a' := ?_) #[true, true, true, true, true, true, false, false, false, false, false, false, false, false, false, false, false, false] rfl rfl (any_of HT_.out (by kernel_rfl)) (fun _ _ _ h => h) (Or.inl ⟨by rfl, ?_⟩) ?_ ?_
                        rotate_left
                        · intro w'
                          go_simp
                          with_reducible rfl
                        rotate_left
                        · simp only [Act.put, List.setIfInBounds_toArray, List.set_cons_zero, List.set_cons_succ, i64_w, i32_w]
                          rfl
                        refine pure_ (i := 6) (N := some 23) (v := ?_) (a' := ?_) #[true, true, true, true, true, true, true, false, false, false, false, false, false, false, false, false, false, false] rfl rfl (any_of HT_.out (by kernel_rfl)) (fun _ _ _ h => h) (Or.inl ⟨by rfl, ?_⟩) ?_ ?_
                        rotate_left
                        · intro w'
                          go_simp
                          with_reducible rfl
                        rotate_left
                        · simp only [Act.put, List.setIfInBounds_toArray, List.set_cons_zero, List.set_cons_succ, i64_w, i32_w]
                          rfl
                        refine pure_ (i := 7) (N := some 24) (v := ?_) (a' := ?_) #[true, true, true, true, true, true, true, true, false, false, false, false, false, false, false, false, false, false] rfl rfl (any_of HT_.out (by kernel_rfl)) (fun _ _ _ h => h) (Or.inl ⟨by rfl, ?_⟩) ?_ ?_
                        rotate_left
                        · intro w'
                          go_simp
                          with_reducible rfl
                        rotate_left
                        · simp only [Act.put, List.setIfInBounds_toArray, List.set_cons_zero, List.set_cons_succ, i64_w, i32_w]
                          rfl
                        refine pure_ (i := 8) (N := some 25) (v := ?_) (a' := ?_) #[true, true, true, true, true, true, true, true, true, false, false, false, false, false, false, false, false, false] rfl rfl (any_of HT_.out (by kernel_rfl)) (fun _ _ _ h => h) (Or.inl ⟨by rfl, ?_⟩) ?_ ?_
                        rotate_left
                        · intro w'
                          go_simp
                          with_reducible rfl
                        rotate_left
                        · simp only [Act.put, List.setIfInBounds_toArray, List.set_cons_zero, List.set_cons_succ, i64_w, i32_w]
                          rfl
                        refine pure_ (i := 9) (N := some 26) (v := ?_) (a' := ?_) #[true, true, true, true, true, true, true, true, true, true, false, false, false, false, false, false, false, false] rfl rfl (any_of HT_.out (by kernel_rfl)) (fun _ _ _ h => h) (Or.inl ⟨by rfl, ?_⟩) ?_ ?_
                        rotate_left
                        · intro w'
                          go_simp
                          with_reducible rfl
                        rotate_left
                        · simp only [Act.put, List.setIfInBounds_toArray, List.set_cons_zero, List.set_cons_succ, i64_w, i32_w]
                          rfl
                        refine pure_ (i := 10) (N := some 27) (v := ?_) (a' := ?_) #[true, true, true, true, true, true, true, true, true, true, true, false, false, false, false, false, false, false] rfl rfl (any_of HT_.out (by kernel_rfl)) (fun _ _ _ h => h) (Or.inl ⟨by rfl, ?_⟩) ?_ ?_
                        rotate_left
                        · intro w'
                          go_simp
                          with_reducible rfl
                        rotate_left
                        · simp only [Act.put, List.setIfInBounds_toArray, List.set_cons_zero, List.set_cons_succ, i64_w, i32_w]
                          rfl
                        refine pure_ (i := 11) (N := some 28) (v := ?_) (a' := ?_) #[true, true, true, true, true, true, true, true, true, true, true, true, false, false, false, false, false, false] rfl rfl (any_of HT_.out (by kernel_rfl)) (fun _ _ _ h => h) (Or.inl ⟨by rfl, ?_⟩) ?_ ?_
                        rotate_left
                        · intro w'
                          go_simp
                          with_reducible rfl
                        rotate_left
                        · simp only [Act.put, List.setIfInBounds_toArray, List.set_cons_zero, List.set_cons_succ, i64_w, i32_w]
                          rfl
                        refine take_ (i := 12) (N := some 29) (v := ?_) (a' := ?_) #[true, true, true, true, true, true, true, true, true, true, true, true, true, false, false, false, false, false] rfl rfl (take_ofW HT_.out HW_.out (by kernel_rfl)) (fun _ _ _ h => h) (Or.inl ⟨by rfl, ?_⟩) hHeld ?_ ?_
                        rotate_left
                        · rintro w' ⟨s0, s1, s2, s3⟩
                          go_simp
                          with_reducible rfl
                        rotate_left
                        · simp only [Act.put, List.setIfInBounds_toArray, List.set_cons_zero, List.set_cons_succ, i64_w, i32_w]
                          rfl
                        refine take_ (i := 13) (N := some 30) (v := ?_) (a' := ?_) #[true, true, true, true, true, true, true, true, true, true, true, true, true, true, false, false, false, false] rfl rfl (take_ofW HT_.out HW_.out (by kernel_rfl)) (fun _ _ _ h => h) (Or.inl ⟨by rfl, ?_⟩) hHeld ?_ ?_
                        rotate_left
                        · rintro w' ⟨s0, s1, s2, s3⟩
                          go_simp
                          with_reducible rfl
                        rotate_left
                        · simp only [Act.put, List.setIfInBounds_toArray, List.set_cons_zero, List.set_cons_succ, i64_w, i32_w]
                          rfl
                        refine one_ (i := 14) (N := some 31) #[true, true, true, true, true, true, true, true, true, true, true, true, true, true, true, false, false, false] rfl rfl (one_of HT_.out (by kernel_rfl)) (by decide) (fun K hK => ?_)
                        refine goes_ Try.func77 (by kernel_rfl) rfl #[.agg #[.int .i64 ((rd_T47 l1 (ji11)).f0), .int .i64 ((rd_T47 l1 (ji11)).f1)], .agg #[.int .i64 ((rd_T47 l1 x12_1).f0), .int .i64 ((rd_T47 l1 x12_1).f1)]] (by rfl) rfl rfl (by (try simp only [List.map_toArray, List.map_cons, List.map_nil]); first | done | (simp only [hji11]; rfl) | rfl | (simp only [List.length_drop, List.length_take]; rfl)) ?_
                        with_reducible refine (impl_compareChords.calls k1 ((rd_T47 l1 (ji11)).f0) ((rd_T47 l1 (ji11)).f1) ((rd_T47 l1 x12_1).f0) ((rd_T47 l1 x12_1).f1) t224 _ A14.out).mono ?_
                        rintro e w27 ⟨rfl, hb⟩
                        refine ⟨_, rfl, ?_⟩
                        have n0_ := Aside0.mk (blk_below (g := gb221) (o := .cells #[.int .i64 ((rd_T47 l1 x12_1).f0), .int .i64 ((rd_T47 l1 x12_1).f1)] 47 (0, 0)) (by (with_reducible repeat (first | refine blk_drewN ?_ _ | refine blk_drew ?_ | refine blk_alloc ?_ _)); exact BK221.out) hb)
                        have n1_ := Aside0.mk (below_step (by repeat (first | (with_reducible first | exact HB.out | apply below_alloc | apply pw_below_drewN | apply below_drew1 | refine below_set ?_ GE221.out) | exact HB.out)) hb)
                        clear BK221
                        clear HB
                        have BK221 := n0_
                        have HB := n1_
                        clear n0_ n1_
                        (try clear hb)
                        (try clear hb2)
                        (try clear hk)
                        (try clear hi)
                        refine hK.out _ _ ⟨(blk_cell BK221.out 0).trans rfl, (blk_cell BK221.out 1).trans rfl, ((HB.out.cell (World.block_lt_of_cell? w _ hw223_0)).trans hw223_0), ((HB.out.cell (World.block_lt_of_cell? w _ hw223_1)).trans hw223_1)⟩ (fun hHeld => ?_)
                        clear hK K
                        refine norm_ (a' := ?_) ?_ ?_
                        rotate_left
                        · show Act.put _ (some 31) _ = _
                          simp only [Act.put, List.setIfInBounds_toArray, List.set_cons_zero, List.set_cons_succ, i64_w, i32_w]
                          rfl
                        refine pure_ (i := 15) (N := some 32) (v := ?_) (a' := ?_) #[true, true, true, true, true, true, true, true, true, true, true, true, true, true, true, true, false, false] rfl rfl (any_of HT_.out (by kernel_rfl)) (fun _ _ _ h => h) (Or.inl ⟨by rfl, ?_⟩) ?_ ?_
                        rotate_left
                        · intro w'
                          go_simp
                          with_reducible rfl
                        rotate_left
                        · simp only [Act.put, List.setIfInBounds_toArray, List.set_cons_zero, List.set_cons_succ, i64_w, i32_w]
                          rfl
                        refine pure_ (i := 16) (N := some 33) (v := ?_) (a' := ?_) #[true, true, true, true, true, true, true, true, true, true, true, true, true, true, true, true, true, false] rfl rfl (any_of HT_.out (by kernel_rfl)) (fun _ _ _ h => h) (Or.inl ⟨by rfl, ?_⟩) ?_ ?_
                        rotate_left
                        · intro w'
                          go_simp
                          with_reducible rfl
                        rotate_left
                        · simp only [Act.put, List.setIfInBounds_toArray, List.set_cons_zero, List.set_cons_succ, i64_w, i32_w]
                          rfl
                        refine pure_ (i := 17) (N := some 34) (v := ?_) (a' := ?_) #[true, true, true, true, true, true, true, true, true, true, true, true, true, true, true, true, true, true] rfl rfl (any_of HT_.out (by kernel_rfl)) (fun _ _ _ h => h) (Or.inl ⟨by rfl, ?_⟩) ?_ ?_
                        rotate_left
                        · intro w'
                          go_simp
                          with_reducible rfl
                        rotate_left
                        · simp only [Act.put, List.setIfInBounds_toArray, List.set_cons_zero, List.set_cons_succ, i64_w, i32_w]
                          rfl
                        refine done_ (done_of HT_.out (by kernel_rfl)) ?_
                        try go_wp2
                        go_roundg k1
                        case measure => have := HK1.out; omega
                        case rel => exact ⟨(wrap64 (x12_1 + 1)), (by first | rfl | (simp; done) | (simp [*]; done)), H', ⟨by have := HK1.out; omega⟩, ⟨by repeat (first | (with_reducible first | exact HB.out | apply below_alloc | apply pw_below_drewN | apply below_drew1 | refine below_set ?_ GE221.out) | exact HB.out)⟩⟩
                    · rw [if_neg c13] at H
                      exact absurd H (by simp)
                  · rw [if_neg c12] at H
                    exact absurd H (by simp)
                · rw [if_neg c10] at H
                  have c10b0 : decide (0 < x12_1) = false := decide_eq_false c10
                  clear c10
                  have H' := Aside0.mk H
                  clear H
                  have p220 : 0 ≤ (x12_1 : Int) := of_decide_eq_true (by first | (with_reducible assumption) | assumption)
                  have q220 : x12_1 < (l1.length : Int) := of_decide_eq_true (by first | (with_reducible assumption) | assumption)
                  obtain ⟨ad220, e220, hx220_0, hx220_1⟩ := at_T47 HR1.out x12_1 p220 q220
                  cases e220
                  replace hx220_0 := (HB.out.cell (World.block_lt_of_cell? w _ hx220_0)).trans hx220_0
                  replace hx220_1 := (HB.out.cell (World.block_lt_of_cell? w _ hx220_1)).trans hx220_1
                  replace p220 := eq_true p220
                  replace q220 := eq_true q220
                  try go_wp2_with (first | ((with_reducible refine gate_dst (N := 6) rfl ?_); refine box_event ?hg (N := 6) ?hd (cs := #[.int .i64 0, .int .i64 0]) (t := 47) ?hr ?_; (case hd => rfl); (case hg => rfl); (case hr => first | (go_simp; done) | (go_simp; rfl)); intro gb221 hg w28 hbox hb; have n0_ := Aside0.mk (below_step (by repeat (first | (with_reducible first | exact HB.out | apply below_alloc | apply pw_below_drewN | apply below_drew1) | exact HB.out)) hb); have n1_ := Aside0.mk (hbox); have n2_ := Aside0.mk ((by rw [hg]; exact (below_size (by repeat (first | (with_reducible first | exact HB.out | apply below_alloc | apply pw_below_drewN | apply below_drew1) | exact HB.out))) : w.heap.size ≤ gb221)); have n3_ := Aside0.mk ((by rw [hg]; exact (below_size (by repeat (first | (with_reducible first | exact HB.out | apply below_alloc | apply pw_below_drewN | apply below_drew1) | exact HB.out))) : w.heap.size ≤ gb221)); clear HB; have HB := n0_; have BK221 := n1_; have GW221 := n2_; have GE221 := n3_; clear n0_ n1_ n2_ n3_; clear hb hbox hg; have hcz29_0 : w28.cell? ⟨gb221, 0, none⟩ = some (.int .i64 0) := (blk_cell BK221.out 0).trans rfl; have hcz29_1 : w28.cell? ⟨gb221, 1, none⟩ = some (.int .i64 0) := (blk_cell BK221.out 1).trans rfl; have hfz29_0 := blk_frozen BK221.out 0; have hfz29_1 := blk_frozen BK221.out 1))
                  have n0_ : Aside0 (((w28.setCell ⟨gb221, 0, none⟩ (.int .i64 ((rd_T47 l1 x12_1).f0))).setCell ⟨gb221, 1, none⟩ (.int .i64 ((rd_T47 l1 x12_1).f1))).heap[gb221]? = some (.cells #[.int .i64 ((rd_T47 l1 x12_1).f0), .int .i64 ((rd_T47 l1 x12_1).f1)] 47 (0, 0))) := ⟨by (with_reducible repeat (first | refine blk_drewN ?_ _ | refine blk_drew ?_ | refine blk_alloc ?_ _)); refine blk_put (cs := #[.int .i64 ((rd_T47 l1 x12_1).f0), .int .i64 0]) ?_ 1 _ rfl; (with_reducible repeat (first | refine blk_drewN ?_ _ | refine blk_drew ?_ | refine blk_alloc ?_ _)); refine blk_put (cs := #[.int .i64 0, .int .i64 0]) ?_ 0 _ rfl; (with_reducible repeat (first | refine blk_drewN ?_ _ | refine blk_drew ?_ | refine blk_alloc ?_ _)); exact BK221.out⟩
                  have n1_ : Aside0 (Below w.heap.size w ((w28.setCell ⟨gb221, 0, none⟩ (.int .i64 ((rd_T47 l1 x12_1).f0))).setCell ⟨gb221, 1, none⟩ (.int .i64 ((rd_T47 l1 x12_1).f1)))) := ⟨by repeat (first | (with_reducible first | exact HB.out | apply below_alloc | apply pw_below_drewN | apply below_drew1 | refine below_set ?_ GE221.out) | exact HB.out)⟩
                  (try clear BK221)
                  (try clear HB)
                  generalize ((w28.setCell ⟨gb221, 0, none⟩ (.int .i64 ((rd_T47 l1 x12_1).f0))).setCell ⟨gb221, 1, none⟩ (.int .i64 ((rd_T47 l1 x12_1).f1))) = w30 at n0_ n1_ ⊢
                  have BK221 := n0_
                  have HB := n1_
                  clear n0_ n1_
                  have n0_ := Aside0.mk (blk_drew BK221.out)
                  have n1_ := Aside0.mk (below_drew1 HB.out)
                  clear BK221
                  clear HB
                  have BK221 := n0_
                  have HB := n1_
                  clear n0_ n1_
                  refine start_ (n := 18) (S := fun w' => w'.cell? ⟨gb221, 0, none⟩ = some (.int .i64 ((rd_T47 l1 x12_1).f0)) ∧ w'.cell? ⟨gb221, 1, none⟩ = some (.int .i64 ((rd_T47 l1 x12_1).f1))) (ds := []) #[false, false, false, false, false, false, false, false, false, false, false, false, false, false, false, false, false, false] (by kernel_rfl) rfl rfl ⟨(blk_cell BK221.out 0).trans rfl, (blk_cell BK221.out 1).trans rfl⟩ (fun hHeld => ?_); refine with_tabW impl_AreChords.tab6 impl_AreChords.bits6 (fun HT_ HW_ => ?_)
                  generalize w30.drew = w31 at BK221 HB hHeld ⊢
                  refine pure_ (i := 0) (N := some 17) (v := ?_) (a' := ?_) #[true, false, false, false, false, false, false, false, false, false, false, false, false, false, false, false, false, false] rfl rfl (any_of HT_.out (by kernel_rfl)) (fun _ _ _ h => h) (Or.inl ⟨by rfl, ?_⟩) ?_ ?_
                  rotate_left
                  · intro w'
                    go_simp
                    with_reducible rfl
                  rotate_left
                  · simp only [Act.put, List.setIfInBounds_toArray, List.set_cons_zero, List.set_cons_succ, i64_w, i32_w]
                    rfl
                  refine take_ (i := 1) (N := some 18) (v := ?_) (a' := ?_) #[true, true, false, false, false, false, false, false, false, false, false, false, false, false, false, false, false, false] rfl rfl (take_ofW HT_.out HW_.out (by kernel_rfl)) (fun _ _ _ h => h) (Or.inl ⟨by rfl, ?_⟩) hHeld ?_ ?_
                  rotate_left
                  · rintro w' ⟨s0, s1⟩
                    go_simp
                    with_reducible rfl
                  rotate_left
                  · simp only [Act.put, List.setIfInBounds_toArray, List.set_cons_zero, List.set_cons_succ, i64_w, i32_w]
                    rfl
                  refine one_ (i := 2) (N := some 19) #[true, true, true, false, false, false, false, false, false, false, false, false, false, false, false, false, false, false] rfl rfl (one_of HT_.out (by kernel_rfl)) (by decide) (fun K hK => ?_)
                  refine goes_ Try.func93 (by kernel_rfl) rfl #[.int .i64 a0, .agg #[.int .i64 ((rd_T47 l1 x12_1).f0), .int .i64 ((rd_T47 l1 x12_1).f1)]] (by rfl) rfl rfl (by (try simp only [List.map_toArray, List.map_cons, List.map_nil]); first | done | rfl | (simp only [List.length_drop, List.length_take]; rfl)) ?_
                  with_reducible refine (impl_isChord.calls a0 ((rd_T47 l1 x12_1).f0) ((rd_T47 l1 x12_1).f1) true _ A8.out).mono ?_
                  rintro e w32 ⟨rfl, hb⟩
                  refine ⟨_, rfl, ?_⟩
                  have n0_ := Aside0.mk (blk_below (g := gb221) (o := .cells #[.int .i64 ((rd_T47 l1 x12_1).f0), .int .i64 ((rd_T47 l1 x12_1).f1)] 47 (0, 0)) (by (with_reducible repeat (first | refine blk_drewN ?_ _ | refine blk_drew ?_ | refine blk_alloc ?_ _)); exact BK221.out) hb)
                  have n1_ := Aside0.mk (below_step (by repeat (first | (with_reducible first | exact HB.out | apply below_alloc | apply pw_below_drewN | apply below_drew1 | refine below_set ?_ GE221.out) | exact HB.out)) hb)
                  clear BK221
                  clear HB
                  have BK221 := n0_
                  have HB := n1_
                  clear n0_ n1_
                  (try clear hb)
                  (try clear hb2)
                  (try clear hk)
                  (try clear hi)
                  refine hK.out _ _ ⟨(blk_cell BK221.out 0).trans rfl, (blk_cell BK221.out 1).trans rfl⟩ (fun hHeld => ?_)
                  clear hK K
                  refine norm_ (a' := ?_) ?_ ?_
                  rotate_left
                  · show Act.put _ (some 19) _ = _
                    simp only [Act.put, List.setIfInBounds_toArray, List.set_cons_zero, List.set_cons_succ, i64_w, i32_w]
                    rfl
                  refine pure_ (i := 3) (N := some 20) (v := ?_) (a' := ?_) #[true, true, true, true, false, false, false, false, false, false, false, false, false, false, false, false, false, false] rfl rfl (any_of HT_.out (by kernel_rfl)) (fun _ _ _ h => h) (Or.inl ⟨by rfl, ?_⟩) ?_ ?_
                  rotate_left
                  · intro w'
                    go_simp
                    with_reducible rfl
                  rotate_left
                  · simp only [Act.put, List.setIfInBounds_toArray, List.set_cons_zero, List.set_cons_succ, i64_w, i32_w]
                    rfl
                  refine pure_ (i := 4) (N := some 21) (v := ?_) (a' := ?_) #[true, true, true, true, true, false, false, false, false, false, false, false, false, false, false, false, false, false] rfl rfl (any_of HT_.out (by kernel_rfl)) (fun _ _ _ h => h) (Or.inl ⟨by rfl, ?_⟩) ?_ ?_
                  rotate_left
                  · intro w'
                    go_simp
                    with_reducible rfl
                  rotate_left
                  · simp only [Act.put, List.setIfInBounds_toArray, List.set_cons_zero, List.set_cons_succ, i64_w, i32_w]
                    rfl
                  refine pure_ (i := 5) (N := some 22) (v := ?_) (a' := ?_) #[true, true, true, true, true, true, false, false, false, false, false, false, false, false, false, false, false, false] rfl rfl (any_of HT_.out (by kernel_rfl)) (fun _ _ _ h => h) (Or.inl ⟨by rfl, ?_⟩) ?_ ?_
                  rotate_left
                  · intro w'
                    go_simp
                    with_reducible rfl
                  rotate_left
                  · simp only [Act.put, List.setIfInBounds_toArray, List.set_cons_zero, List.set_cons_succ, i64_w, i32_w]
                    rfl
                  refine pure_ (i := 6) (N := some 23) (v := ?_) (a' := ?_) #[true, true, true, true, true, true, true, false, false, false, false, false, false, false, false, false, false, false] rfl rfl (any_of HT_.out (by kernel_rfl)) (fun _ _ _ h => h) (Or.inl ⟨by rfl, ?_⟩) ?_ ?_
                  rotate_left
                  · intro w'
                    go_simp
                    with_reducible rfl
                  rotate_left
                  · simp only [Act.put, List.setIfInBounds_toArray, List.set_cons_zero, List.set_cons_succ, i64_w, i32_w]
                    rfl
                  refine pure_ (i := 7) (N := some 24) (v := ?_) (a' := ?_) #[true, true, true, true, true, true, true, true, false, false, false, false, false, false, false, false, false, false] rfl rfl (any_of HT_.out (by kernel_rfl)) (fun _ _ _ h => h) (Or.inl ⟨by rfl, ?_⟩) ?_ ?_
                  rotate_left
                  · intro w'
                    go_simp
                    with_reducible rfl
                  rotate_left
                  · simp only [Act.put, List.setIfInBounds_toArray, List.set_cons_zero, List.set_cons_succ, i64_w, i32_w]
                    rfl
                  refine pure_ (i := 8) (N := some 25) (v := undef) (a' := ?_) #[true, true, true, true, true, true, true, true, true, false, false, false, false, false, false, false, false, false] rfl rfl (any_of HT_.out (by kernel_rfl)) (fun _ _ _ h => h) (Or.inr ⟨by rfl, rfl⟩) ?_ ?_
                  rotate_left
                  · simp only [Act.put, List.setIfInBounds_toArray, List.set_cons_zero, List.set_cons_succ, i64_w, i32_w]
                    rfl
                  refine pure_ (i := 9) (N := some 26) (v := undef) (a' := ?_) #[true, true, true, true, true, true, true, true, true, true, false, false, false, false, false, false, false, false] rfl rfl (any_of HT_.out (by kernel_rfl)) (fun _ _ _ h => h) (Or.inr ⟨by rfl, rfl⟩) ?_ ?_
                  rotate_left
                  · simp only [Act.put, List.setIfInBounds_toArray, List.set_cons_zero, List.set_cons_succ, i64_w, i32_w]
                    rfl
                  refine pure_ (i := 10) (N := some 27) (v := undef) (a' := ?_) #[true, true, true, true, true, true, true, true, true, true, true, false, false, false, false, false, false, false] rfl rfl (any_of HT_.out (by kernel_rfl)) (fun _ _ _ h => h) (Or.inr ⟨by rfl, rfl⟩) ?_ ?_
                  rotate_left
                  · simp only [Act.put, List.setIfInBounds_toArray, List.set_cons_zero, List.set_cons_succ, i64_w, i32_w]
                    rfl
                  refine pure_ (i := 11) (N := some 28) (v := undef) (a' := ?_) #[true, true, true, true, true, true, true, true, true, true, true, true, false, false, false, false, false, false] rfl rfl (any_of HT_.out (by kernel_rfl)) (fun _ _ _ h => h) (Or.inr ⟨by rfl, rfl⟩) ?_ ?_
                  rotate_left
                  · simp only [Act.put, List.setIfInBounds_toArray, List.set_cons_zero, List.set_cons_succ, i64_w, i32_w]
                    rfl
                  refine pure_ (i := 12) (N := some 29) (v := undef) (a' := ?_) #[true, true, true, true, true, true, true, true, true, true, true, true, true, false, false, false, false, false] rfl rfl (any_of HT_.out (by kernel_rfl)) (fun _ _ _ h => h) (Or.inr ⟨by rfl, rfl⟩) ?_ ?_
                  rotate_left
                  · simp only [Act.put, List.setIfInBounds_toArray, List.set_cons_zero, List.set_cons_succ, i64_w, i32_w]
                    rfl
                  refine pure_ (i := 13) (N := some 30) (v := undef) (a' := ?_) #[true, true, true, true, true, true, true, true, true, true, true, true, true, true, false, false, false, false] rfl rfl (any_of HT_.out (by kernel_rfl)) (fun _ _ _ h => h) (Or.inr ⟨by rfl, rfl⟩) ?_ ?_
                  rotate_left
                  · simp only [Act.put, List.setIfInBounds_toArray, List.set_cons_zero, List.set_cons_succ, i64_w, i32_w]
                    rfl
                  refine pure_ (i := 14) (N := some 31) (v := undef) (a' := ?_) #[true, true, true, true, true, true, true, true, true, true, true, true, true, true, true, false, false, false] rfl rfl (any_of HT_.out (by kernel_rfl)) (fun _ _ _ h => h) (Or.inr ⟨by rfl, rfl⟩) ?_ ?_
                  rotate_left
                  · simp only [Act.put, List.setIfInBounds_toArray, List.set_cons_zero, List.set_cons_succ, i64_w, i32_w]
                    rfl
                  refine pure_ (i := 15) (N := some 32) (v := undef) (a' := ?_) #[true, true, true, true, true, true, true, true, true, true, true, true, true, true, true, true, false, false] rfl rfl (any_of HT_.out (by kernel_rfl)) (fun _ _ _ h => h) (Or.inr ⟨by rfl, rfl⟩) ?_ ?_
                  rotate_left
                  · simp only [Act.put, List.setIfInBounds_toArray, List.set_cons_zero, List.set_cons_succ, i64_w, i32_w]
                    rfl
                  refine pure_ (i := 16) (N := some 33) (v := ?_) (a' := ?_) #[true, true, true, true, true, true, true, true, true, true, true, true, true, true, true, true, true, false] rfl rfl (any_of HT_.out (by kernel_rfl)) (fun _ _ _ h => h) (Or.inl ⟨by rfl, ?_⟩) ?_ ?_
                  rotate_left
                  · intro w'
                    go_simp
                    with_reducible rfl
                  rotate_left
                  · simp only [Act.put, List.setIfInBounds_toArray, List.set_cons_zero, List.set_cons_succ, i64_w, i32_w]
                    rfl
                  refine pure_ (i := 17) (N := some 34) (v := ?_) (a' := ?_) #[true, true, true, true, true, true, true, true, true, true, true, true, true, true, true, true, true, true] rfl rfl (any_of HT_.out (by kernel_rfl)) (fun _ _ _ h => h) (Or.inl ⟨by rfl, ?_⟩) ?_ ?_
                  rotate_left
                  · intro w'
                    go_simp
                    with_reducible rfl
                  rotate_left
                  · simp only [Act.put, List.setIfInBounds_toArray, List.set_cons_zero, List.set_cons_succ, i64_w, i32_w]
                    rfl
                  refine done_ (done_of HT_.out (by kernel_rfl)) ?_
                  try go_wp2
                  go_roundg k1
                  case measure => have := HK1.out; omega
                  case rel => exact ⟨(wrap64 (x12_1 + 1)), (by first | rfl | (simp; done) | (simp [*]; done)), H', ⟨by have := HK1.out; omega⟩, ⟨by repeat (first | (with_reducible first | exact HB.out | apply below_alloc | apply pw_below_drewN | apply below_drew1 | refine below_set ?_ GE221.out) | exact HB.out)⟩⟩
              · replace c9 := Bool.eq_false_iff.mpr c9
                subst c9
                have H1 : (some false) = some r := by rw [if_neg (show ¬ (false = true) by decide)] at H; exact H
                clear H
                have H := H1
                clear H1
                obtain rfl := Option.some.inj H
                have p220 : 0 ≤ (x12_1 : Int) := of_decide_eq_true (by first | (with_reducible assumption) | assumption)
                have q220 : x12_1 < (l1.length : Int) := of_decide_eq_true (by first | (with_reducible assumption) | assumption)
                obtain ⟨ad220, e220, hx220_0, hx220_1⟩ := at_T47 HR1.out x12_1 p220 q220
                cases e220
                replace hx220_0 := (HB.out.cell (World.block_lt_of_cell? w _ hx220_0)).trans hx220_0
                replace hx220_1 := (HB.out.cell (World.block_lt_of_cell? w _ hx220_1)).trans hx220_1
                replace p220 := eq_true p220
                replace q220 := eq_true q220
                try go_wp2_with (first | ((with_reducible refine gate_dst (N := 6) rfl ?_); refine box_event ?hg (N := 6) ?hd (cs := #[.int .i64 0, .int .i64 0]) (t := 47) ?hr ?_; (case hd => rfl); (case hg => rfl); (case hr => first | (go_simp; done) | (go_simp; rfl)); intro gb221 hg w33 hbox hb; have n0_ := Aside0.mk (below_step (by repeat (first | (with_reducible first | exact HB.out | apply below_alloc | apply pw_below_drewN | apply below_drew1) | exact HB.out)) hb); have n1_ := Aside0.mk (hbox); have n2_ := Aside0.mk ((by rw [hg]; exact (below_size (by repeat (first | (with_reducible first | exact HB.out | apply below_alloc | apply pw_below_drewN | apply below_drew1) | exact HB.out))) : w.heap.size ≤ gb221)); have n3_ := Aside0.mk ((by rw [hg]; exact (below_size (by repeat (first | (with_reducible first | exact HB.out | apply below_alloc | apply pw_below_drewN | apply below_drew1) | exact HB.out))) : w.heap.size ≤ gb221)); clear HB; have HB := n0_; have BK221 := n1_; have GW221 := n2_; have GE221 := n3_; clear n0_ n1_ n2_ n3_; clear hb hbox hg; have hcz34_0 : w33.cell? ⟨gb221, 0, none⟩ = some (.int .i64 0) := (blk_cell BK221.out 0).trans rfl; have hcz34_1 : w33.cell? ⟨gb221, 1, none⟩ = some (.int .i64 0) := (blk_cell BK221.out 1).trans rfl; have hfz34_0 := blk_frozen BK221.out 0; have hfz34_1 := blk_frozen BK221.out 1))
                have n0_ : Aside0 (((w33.setCell ⟨gb221, 0, none⟩ (.int .i64 ((rd_T47 l1 x12_1).f0))).setCell ⟨gb221, 1, none⟩ (.int .i64 ((rd_T47 l1 x12_1).f1))).heap[gb221]? = some (.cells #[.int .i64 ((rd_T47 l1 x12_1).f0), .int .i64 ((rd_T47 l1 x12_1).f1)] 47 (0, 0))) := ⟨by (with_reducible repeat (first | refine blk_drewN ?_ _ | refine blk_drew ?_ | refine blk_alloc ?_ _)); refine blk_put (cs := #[.int .i64 ((rd_T47 l1 x12_1).f0), .int .i64 0]) ?_ 1 _ rfl; (with_reducible repeat (first | refine blk_drewN ?_ _ | refine blk_drew ?_ | refine blk_alloc ?_ _)); refine blk_put (cs := #[.int .i64 0, .int .i64 0]) ?_ 0 _ rfl; (with_reducible repeat (first | refine blk_drewN ?_ _ | refine blk_drew ?_ | refine blk_alloc ?_ _)); exact BK221.out⟩
                have n1_ : Aside0 (Below w.heap.size w ((w33.setCell ⟨gb221, 0, none⟩ (.int .i64 ((rd_T47 l1 x12_1).f0))).setCell ⟨gb221, 1, none⟩ (.int .i64 ((rd_T47 l1 x12_1).f1)))) := ⟨by repeat (first | (with_reducible first | exact HB.out | apply below_alloc | apply pw_below_drewN | apply below_drew1 | refine below_set ?_ GE221.out) | exact HB.out)⟩
                (try clear BK221)
                (try clear HB)
                generalize ((w33.setCell ⟨gb221, 0, none⟩ (.int .i64 ((rd_T47 l1 x12_1).f0))).setCell ⟨gb221, 1, none⟩ (.int .i64 ((rd_T47 l1 x12_1).f1))) = w35 at n0_ n1_ ⊢
                have BK221 := n0_
                have HB := n1_
                clear n0_ n1_
                have n0_ := Aside0.mk (blk_drew BK221.out)
                have n1_ := Aside0.mk (below_drew1 HB.out)
                clear BK221
                clear HB
                have BK221 := n0_
                have HB := n1_
                clear n0_ n1_
                refine start_ (n := 18) (S := fun w' => w'.cell? ⟨gb221, 0, none⟩ = some (.int .i64 ((rd_T47 l1 x12_1).f0)) ∧ w'.cell? ⟨gb221, 1, none⟩ = some (.int .i64 ((rd_T47 l1 x12_1).f1))) (ds := []) #[false, false, false, false, false, false, false, false, false, false, false, false, false, false, false, false, false, false] (by kernel_rfl) rfl rfl ⟨(blk_cell BK221.out 0).trans rfl, (blk_cell BK221.out 1).trans rfl⟩ (fun hHeld => ?_); refine with_tabW impl_AreChords.tab6 impl_AreChords.bits6 (fun HT_ HW_ => ?_)
                generalize w35.drew = w36 at BK221 HB hHeld ⊢
                refine pure_ (i := 0) (N := some 17) (v := ?_) (a' := ?_) #[true, false, false, false, false, false, false, false, false, false, false, false, false, false, false, false, false, false] rfl rfl (any_of HT_.out (by kernel_rfl)) (fun _ _ _ h => h) (Or.inl ⟨by rfl, ?_⟩) ?_ ?_
                rotate_left
                · intro w'
                  go_simp
                  with_reducible rfl
                rotate_left
                · simp only [Act.put, List.setIfInBounds_toArray, List.set_cons_zero, List.set_cons_succ, i64_w, i32_w]
                  rfl
                refine take_ (i := 1) (N := some 18) (v := ?_) (a' := ?_) #[true, true, false, false, false, false, false, false, false, false, false, false, false, false, false, false, false, false] rfl rfl (take_ofW HT_.out HW_.out (by kernel_rfl)) (fun _ _ _ h => h) (Or.inl ⟨by rfl, ?_⟩) hHeld ?_ ?_
                rotate_left
                · rintro w' ⟨s0, s1⟩
                  go_simp
                  with_reducible rfl
                rotate_left
                · simp only [Act.put, List.setIfInBounds_toArray, List.set_cons_zero, List.set_cons_succ, i64_w, i32_w]
                  rfl
                refine one_ (i := 2) (N := some 19) #[true, true, true, false, false, false, false, false, false, false, false, false, false, false, false, false, false, false] rfl rfl (one_of HT_.out (by kernel_rfl)) (by decide) (fun K hK => ?_)
                refine goes_ Try.func93 (by kernel_rfl) rfl #[.int .i64 a0, .agg #[.int .i64 ((rd_T47 l1 x12_1).f0), .int .i64 ((rd_T47 l1 x12_1).f1)]] (by rfl) rfl rfl (by (try simp only [List.map_toArray, List.map_cons, List.map_nil]); first | done | rfl | (simp only [List.length_drop, List.length_take]; rfl)) ?_
                with_reducible refine (impl_isChord.calls a0 ((rd_T47 l1 x12_1).f0) ((rd_T47 l1 x12_1).f1) false _ A8.out).mono ?_
                rintro e w37 ⟨rfl, hb⟩
                refine ⟨_, rfl, ?_⟩
                have n0_ := Aside0.mk (blk_below (g := gb221) (o := .cells #[.int .i64 ((rd_T47 l1 x12_1).f0), .int .i64 ((rd_T47 l1 x12_1).f1)] 47 (0, 0)) (by (with_reducible repeat (first | refine blk_drewN ?_ _ | refine blk_drew ?_ | refine blk_alloc ?_ _)); exact BK221.out) hb)
                have n1_ := Aside0.mk (below_step (by repeat (first | (with_reducible first | exact HB.out | apply below_alloc | apply pw_below_drewN | apply below_drew1 | refine below_set ?_ GE221.out) | exact HB.out)) hb)
                clear BK221
                clear HB
                have BK221 := n0_
                have HB := n1_
                clear n0_ n1_
                (try clear hb)
                (try clear hb2)
                (try clear hk)
                (try clear hi)
                refine hK.out _ _ ⟨(blk_cell BK221.out 0).trans rfl, (blk_cell BK221.out 1).trans rfl⟩ (fun hHeld => ?_)
                clear hK K
                refine norm_ (a' := ?_) ?_ ?_
                rotate_left
                · show Act.put _ (some 19) _ = _
                  simp only [Act.put, List.setIfInBounds_toArray, List.set_cons_zero, List.set_cons_succ, i64_w, i32_w]
                  rfl
                refine pure_ (i := 3) (N := some 20) (v := ?_) (a' := ?_) #[true, true, true, true, false, false, false, false, false, false, false, false, false, false, false, false, false, false] rfl rfl (any_of HT_.out (by kernel_rfl)) (fun _ _ _ h => h) (Or.inl ⟨by rfl, ?_⟩) ?_ ?_
                rotate_left
                · intro w'
                  go_simp
                  with_reducible rfl
                rotate_left
                · simp only [Act.put, List.setIfInBounds_toArray, List.set_cons_zero, List.set_cons_succ, i64_w, i32_w]
                  rfl
                refine pure_ (i := 4) (N := some 21) (v := ?_) (a' := ?_) #[true, true, true, true, true, false, false, false, false, false, false, false, false, false, false, false, false, false] rfl rfl (any_of HT_.out (by kernel_rfl)) (fun _ _ _ h => h) (Or.inl ⟨by rfl, ?_⟩) ?_ ?_
                rotate_left
                · intro w'
                  go_simp
                  with_reducible rfl
                rotate_left
                · simp only [Act.put, List.setIfInBounds_toArray, List.set_cons_zero, List.set_cons_succ, i64_w, i32_w]
                  rfl
                refine pure_ (i := 5) (N := some 22) (v := undef) (a' := ?_) #[true, true, true, true, true, true, false, false, false, false, false, false, false, false, false, false, false, false] rfl rfl (any_of HT_.out (by kernel_rfl)) (fun _ _ _ h => h) (Or.inr ⟨by rfl, rfl⟩) ?_ ?_
                rotate_left
                · simp only [Act.put, List.setIfInBounds_toArray, List.set_cons_zero, List.set_cons_succ, i64_w, i32_w]
                  rfl
                refine pure_ (i := 6) (N := some 23) (v := undef) (a' := ?_) #[true, true, true, true, true, true, true, false, false, false, false, false, false, false, false, false, false, false] rfl rfl (any_of HT_.out (by kernel_rfl)) (fun _ _ _ h => h) (Or.inr ⟨by rfl, rfl⟩) ?_ ?_
                rotate_left
                · simp only [Act.put, List.setIfInBounds_toArray, List.set_cons_zero, List.set_cons_succ, i64_w, i32_w]
                  rfl
                refine pure_ (i := 7) (N := some 24) (v := undef) (a' := ?_) #[true, true, true, true, true, true, true, true, false, false, false, false, false, false, false, false, false, false] rfl rfl (any_of HT_.out (by kernel_rfl)) (fun _ _ _ h => h) (Or.inr ⟨by rfl, rfl⟩) ?_ ?_
                rotate_left
                · simp only [Act.put, List.setIfInBounds_toArray, List.set_cons_zero, List.set_cons_succ, i64_w, i32_w]
                  rfl
                refine pure_ (i := 8) (N := some 25) (v := undef) (a' := ?_) #[true, true, true, true, true, true, true, true, true, false, false, false, false, false, false, false, false, false] rfl rfl (any_of HT_.out (by kernel_rfl)) (fun _ _ _ h => h) (Or.inr ⟨by rfl, rfl⟩) ?_ ?_
                rotate_left
                · simp only [Act.put, List.setIfInBounds_toArray, List.set_cons_zero, List.set_cons_succ, i64_w, i32_w]
                  rfl
                refine pure_ (i := 9) (N := some 26) (v := undef) (a' := ?_) #[true, true, true, true, true, true, true, true, true, true, false, false, false, false, false, false, false, false] rfl rfl (any_of HT_.out (by kernel_rfl)) (fun _ _ _ h => h) (Or.inr ⟨by rfl, rfl⟩) ?_ ?_
                rotate_left
                · simp only [Act.put, List.setIfInBounds_toArray, List.set_cons_zero, List.set_cons_succ, i64_w, i32_w]
                  rfl
                refine pure_ (i := 10) (N := some 27) (v := undef) (a' := ?_) #[true, true, true, true, true, true, true, true, true, true, true, false, false, false, false, false, false, false] rfl rfl (any_of HT_.out (by kernel_rfl)) (fun _ _ _ h => h) (Or.inr ⟨by rfl, rfl⟩) ?_ ?_
                rotate_left
                · simp only [Act.put, List.setIfInBounds_toArray, List.set_cons_zero, List.set_cons_succ, i64_w, i32_w]
                  rfl
                refine pure_ (i := 11) (N := some 28) (v := undef) (a' := ?_) #[true, true, true, true, true, true, true, true, true, true, true, true, false, false, false, false, false, false] rfl rfl (any_of HT_.out (by kernel_rfl)) (fun _ _ _ h => h) (Or.inr ⟨by rfl, rfl⟩) ?_ ?_
                rotate_left
                · simp only [Act.put, List.setIfInBounds_toArray, List.set_cons_zero, List.set_cons_succ, i64_w, i32_w]
                  rfl
                refine pure_ (i := 12) (N := some 29) (v := undef) (a' := ?_) #[true, true, true, true, true, true, true, true, true, true, true, true, true, false, false, false, false, false] rfl rfl (any_of HT_.out (by kernel_rfl)) (fun _ _ _ h => h) (Or.inr ⟨by rfl, rfl⟩) ?_ ?_
                rotate_left
                · simp only [Act.put, List.setIfInBounds_toArray, List.set_cons_zero, List.set_cons_succ, i64_w, i32_w]
                  rfl
                refine pure_ (i := 13) (N := some 30) (v := undef) (a' := ?_) #[true, true, true, true, true, true, true, true, true, true, true, true, true, true, false, false, false, false] rfl rfl (any_of HT_.out (by kernel_rfl)) (fun _ _ _ h => h) (Or.inr ⟨by rfl, rfl⟩) ?_ ?_
                rotate_left
                · simp only [Act.put, List.setIfInBounds_toArray, List.set_cons_zero, List.set_cons_succ, i64_w, i32_w]
                  rfl
                refine pure_ (i := 14) (N := some 31) (v := undef) (a' := ?_) #[true, true, true, true, true, true, true, true, true, true, true, true, true, true, true, false, false, false] rfl rfl (any_of HT_.out (by kernel_rfl)) (fun _ _ _ h => h) (Or.inr ⟨by rfl, rfl⟩) ?_ ?_
                rotate_left
                · simp only [Act.put, List.setIfInBounds_toArray, List.set_cons_zero, List.set_cons_succ, i64_w, i32_w]
                  rfl
                refine pure_ (i := 15) (N := some 32) (v := undef) (a' := ?_) #[true, true, true, true, true, true, true, true, true, true, true, true, true, true, true, true, false, false] rfl rfl (any_of HT_.out (by kernel_rfl)) (fun _ _ _ h => h) (Or.inr ⟨by rfl, rfl⟩) ?_ ?_
                rotate_left
                · simp only [Act.put, List.setIfInBounds_toArray, List.set_cons_zero, List.set_cons_succ, i64_w, i32_w]
                  rfl
                refine pure_ (i := 16) (N := some 33) (v := undef) (a' := ?_) #[true, true, true, true, true, true, true, true, true, true, true, true, true, true, true, true, true, false] rfl rfl (any_of HT_.out (by kernel_rfl)) (fun _ _ _ h => h) (Or.inr ⟨by rfl, rfl⟩) ?_ ?_
                rotate_left
                · simp only [Act.put, List.setIfInBounds_toArray, List.set_cons_zero, List.set_cons_succ, i64_w, i32_w]
                  rfl
                refine pure_ (i := 17) (N := some 34) (v := ?_) (a' := ?_) #[true, true, true, true, true, true, true, true, true, true, true, true, true, true, true, true, true, true] rfl rfl (any_of HT_.out (by kernel_rfl)) (fun _ _ _ h => h) (Or.inl ⟨by rfl, ?_⟩) ?_ ?_
                rotate_left
                · intro w'
                  go_simp
                  with_reducible rfl
                rotate_left
                · simp only [Act.put, List.setIfInBounds_toArray, List.set_cons_zero, List.set_cons_succ, i64_w, i32_w]
                  rfl
                refine done_ (done_of HT_.out (by kernel_rfl)) ?_
                try go_wp2
                go_ret
                exact ⟨by first | rfl | (simp [errW_none, errW_some] <;> rfl) | (simp [*, errW_none, errW_some] <;> rfl), by repeat (first | (with_reducible first | exact HB.out | apply below_alloc | apply pw_below_drewN | apply below_drew1 | refine below_set ?_ GE221.out) | exact HB.out)⟩
            · rw [if_neg c7] at H
              exact absurd H (by simp)
          · rw [if_neg c6] at H
            exact absurd H (by simp)
        · rw [if_neg c5] at H
          have c5b0 : decide (x12_1 < (l1.length : Int)) = false := decide_eq_false c5
          clear c5
          obtain rfl := Option.some.inj H
          go_wp2
          go_ret
          exact ⟨by first | rfl | (simp [errW_none, errW_some] <;> rfl) | (simp [*, errW_none, errW_some] <;> rfl), by repeat (first | (with_reducible first | exact HB.out | apply below_alloc | apply pw_below_drewN | apply below_drew1) | exact HB.out)⟩
  · replace c4 := Bool.eq_false_iff.mpr c4
    subst c4
    have H1 : (some false) = some r := by rw [if_neg (show ¬ (false = true) by decide)] at H; exact H
    clear H
    have H := H1
    clear H1
    obtain rfl := Option.some.inj H
    go_enter Try.func82, Try.ntmps82
    go_wp2_with (first | ((with_reducible refine gate_callee (f := 39) rfl ?_); refine goesL_ (some 8) rfl rfl Try.func39 (by kernel_rfl) rfl #[.int .i64 a0, .int .i64 3, .int .i64 60] rfl (by (try simp only [List.map_toArray, List.map_cons, List.map_nil]); first | done | rfl | (simp only [List.length_drop, List.length_take]; rfl)) ?_; (with_reducible refine (impl_within.calls a0 3 60 false _ A3.out).mono ?_); rintro e w' ⟨rfl, ⟨nd, rfl⟩⟩; refine ⟨_, rfl, ?_⟩))
    go_ret
    exact ⟨by first | rfl | (simp [errW_none, errW_some] <;> rfl) | (simp [*, errW_none, errW_some] <;> rfl), by repeat (first | (with_reducible first | exact HB.out | apply below_alloc | apply pw_below_drewN | apply below_drew1) | exact HB.out)⟩

end Go.Proofs.Ytdeenfpcmaadcaa.Pr

-- Written by a program for this claim.
namespace Go.Proofs.Ytdeenfpcmaadcaa.Pr
open Go.RowKit Go.Proofs.YtdeenfpcmaadcaaW.PrintWords Go.Proofs.YtdeenfpcmaadcaaW.PrintLast Go.Proofs.YtdeenfpcmaadcaaW.PrintMore
attribute [local go_sem] max2_int min2_int max_two min_two max_three min_three max_four min_four   -- for this text's walks alone
set_option linter.unusedVariables false
set_option linter.unusedSimpArgs false

/-! ### impl_isSet: function 61 -/
def impl_isSet.f (k : Nat) (a0 : Int) (l1 : List (S47)) : Option (Bool) := (impl_isCircle.f a0).bind fun t225 => (if t225 = true then ((impl_AreChords.f k a0 l1).bind fun t226 => (some t226)) else (some false))
theorem impl_isSet.mono : ∀ a0 a1 k, LeO (impl_isSet.f k a0 a1) (impl_isSet.f (k + 1) a0 a1) := by
  intro a0 a1 k
  unfold impl_isSet.f
  repeat' first
      | (with_reducible exact impl_AreChords.mono _ _ _)
      | (with_reducible exact LeO.refl _)
      | (with_reducible exact LeO.none _)
      | (with_reducible refine LeO.ite ?_ ?_)
      | (with_reducible refine LeO.bind ?_ (fun _ => ?_))
      | exact impl_AreChords.mono _ _ _
      | exact LeO.none _
      | refine LeO.ite ?_ ?_
      | refine LeO.bind ?_ (fun _ => ?_)
set_option maxHeartbeats 8000000 in
set_option maxRecDepth 100000 in
theorem impl_isSet.calls (k : Nat) (a0 : Int) (A1 : Option Addr) (c1 : Nat) (l1 : List (S47)) (r : Bool) (w : World) (hr1 : Kd.C k47 w A1 l1.length l1) (hc1 : l1.length ≤ c1) (h : impl_isSet.f k a0 l1 = some r) :
    Calls Try.prog 61 #[.int .i64 a0, .slice A1 l1.length c1] w fun e w' => e = .returned (.bool r) ∧ Below w.heap.size w w' := by
  have HR1 := Aside0.mk hr1
  have HC1 := Aside0.mk hc1
  clear hr1 hc1
  have HB := Aside0.mk (Below.refl w.heap.size w)
  have H : ((impl_isCircle.f a0).bind fun t225 => (if t225 = true then ((impl_AreChords.f k a0 l1).bind fun t226 => (some t226)) else (some false))) = some r := h
  clear h
  replace H := Option.bind_eq_some_iff.mp H
  obtain ⟨t225, A30, H⟩ := H
  replace H : (if t225 = true then ((impl_AreChords.f k a0 l1).bind fun t226 => (some t226)) else (some false)) = some r := H
  have A3 := Aside0.mk A30
  clear A30
  by_cases c4 : t225 = true
  · subst c4
    have H1 : ((impl_AreChords.f k a0 l1).bind fun t226 => (some t226)) = some r := by rw [if_pos rfl] at H; exact H
    clear H
    have H := H1
    clear H1
    replace H := Option.bind_eq_some_iff.mp H
    obtain ⟨t226, A50, H⟩ := H
    replace H : (some t226) = some r := H
    have A5 := Aside0.mk A50
    clear A50
    obtain rfl := Option.some.inj H
    go_enter Try.func61, Try.ntmps61
    go_wp2_with (first | ((with_reducible refine gate_callee (f := 81) rfl ?_); refine goesL_ (some 6) rfl rfl Try.func81 (by kernel_rfl) rfl #[.int .i64 a0] rfl (by (try simp only [List.map_toArray, List.map_cons, List.map_nil]); first | done | rfl | (simp only [List.length_drop, List.length_take]; rfl)) ?_; (with_reducible refine (impl_isCircle.calls a0 true _ A3.out).mono ?_); rintro e w' ⟨rfl, ⟨nd, rfl⟩⟩; refine ⟨_, rfl, ?_⟩) | (go_at_call 82; (with_reducible refine (impl_AreChords.calls k a0 _ _ l1 t226 _ ?side1 ?side2 A5.out).mono ?_); (case side1 => repeat (first | exact HR1.out | (with_reducible refine Kd.C_alloc ?_ _) | (with_reducible refine Kd.C_drewN ?_ _) | (with_reducible refine Kd.C_drew ?_))); (case side2 => exact HC1.out); rintro e w6 ⟨rfl, hb⟩; have n0_ := Aside0.mk (below_step (by repeat (first | (with_reducible first | exact HB.out | apply below_alloc | apply pw_below_drewN | apply below_drew1) | exact HB.out)) hb); clear HB; have HB := n0_; clear n0_; (try clear hb); (try clear hb2); (try clear hk); (try clear hi)))
    go_ret
    exact ⟨by first | rfl | (simp [errW_none, errW_some] <;> rfl) | (simp [*, errW_none, errW_some] <;> rfl), by repeat (first | (with_reducible first | exact HB.out | apply below_alloc | apply pw_below_drewN | apply below_drew1) | exact HB.out)⟩
  · replace c4 := Bool.eq_false_iff.mpr c4
    subst c4
    have H1 : (some false) = some r := by rw [if_neg (show ¬ (false = true) by decide)] at H; exact H
    clear H
    have H := H1
    clear H1
    obtain rfl := Option.some.inj H
    go_enter Try.func61, Try.ntmps61
    go_wp2_with (first | ((with_reducible refine gate_callee (f := 81) rfl ?_); refine goesL_ (some 6) rfl rfl Try.func81 (by kernel_rfl) rfl #[.int .i64 a0] rfl (by (try simp only [List.map_toArray, List.map_cons, List.map_nil]); first | done | rfl | (simp only [List.length_drop, List.length_take]; rfl)) ?_; (with_reducible refine (impl_isCircle.calls a0 false _ A3.out).mono ?_); rintro e w' ⟨rfl, ⟨nd, rfl⟩⟩; refine ⟨_, rfl, ?_⟩))
    go_ret
    exact ⟨by first | rfl | (simp [errW_none, errW_some] <;> rfl) | (simp [*, errW_none, errW_some] <;> rfl), by repeat (first | (with_reducible first | exact HB.out | apply below_alloc | apply pw_below_drewN | apply below_drew1) | exact HB.out)⟩

end Go.Proofs.Ytdeenfpcmaadcaa.Pr

-- Written by a program for this claim.
namespace Go.Proofs.Ytdeenfpcmaadcaa.Pr
open Go.RowKit Go.Proofs.YtdeenfpcmaadcaaW.PrintWords Go.Proofs.YtdeenfpcmaadcaaW.PrintLast Go.Proofs.YtdeenfpcmaadcaaW.PrintMore
attribute [local go_sem] max2_int min2_int max_two min_two max_three min_three max_four min_four   -- for this text's walks alone
set_option linter.unusedVariables false
set_option linter.unusedSimpArgs false

/-! ### impl_crossed: function 83 -/
def impl_crossed.l0 : Nat → Int → List (S47) → Int → Int → Int → Int → Option (Int)
  | 0, _, _, _, _, _, _ => none
  | k + 1, x5, x8, x9, x10, x228000, x228001 => if x10 < x9 then (if 0 ≤ x10 then (if x10 < (x8.length : Int) then ((impl_crossing.f x228000 x228001 ((rd_T47 x8 x10).f0) ((rd_T47 x8 x10).f1)).bind fun t230 => (if t230 = true then (impl_crossed.l0 k (wrap64 (x5 + 1)) x8 x9 (wrap64 (x10 + 1)) x228000 x228001) else (impl_crossed.l0 k x5 x8 x9 (wrap64 (x10 + 1)) x228000 x228001))) else (none)) else (none)) else (some x5)
def impl_crossed.f (k : Nat) (l0 : List (S47)) (a1_0 : Int) (a1_1 : Int) : Option (Int) := impl_crossed.l0 k 0 l0 (l0.length : Int) 0 a1_0 a1_1
theorem impl_crossed.mono_l : ∀ k, (∀ y0 y1 y2 y3 y4 y5, LeO (impl_crossed.l0 k y0 y1 y2 y3 y4 y5) (impl_crossed.l0 (k + 1) y0 y1 y2 y3 y4 y5))
  | 0 => fun _ _ _ _ _ _ r h => by simp [impl_crossed.l0] at h
  | k + 1 => by
    have ih0 := impl_crossed.mono_l k
    · intro y0 y1 y2 y3 y4 y5
      unfold impl_crossed.l0
      repeat' first
      | (with_reducible exact ih0 _ _ _ _ _ _)
      | (with_reducible exact LeO.refl _)
      | (with_reducible exact LeO.none _)
      | (with_reducible refine LeO.ite ?_ ?_)
      | (with_reducible refine LeO.bind ?_ (fun _ => ?_))
      | exact ih0 _ _ _ _ _ _
      | exact LeO.none _
      | refine LeO.ite ?_ ?_
      | refine LeO.bind ?_ (fun _ => ?_)
theorem impl_crossed.mono : ∀ a0 a1 a2 k, LeO (impl_crossed.f k a0 a1 a2) (impl_crossed.f (k + 1) a0 a1 a2) := by
  intro a0 a1 a2 k
  have ih0 := impl_crossed.mono_l k
  unfold impl_crossed.f
  repeat' first
      | (with_reducible exact ih0 _ _ _ _ _ _)
      | (with_reducible exact LeO.refl _)
      | (with_reducible exact LeO.none _)
      | (with_reducible refine LeO.ite ?_ ?_)
      | (with_reducible refine LeO.bind ?_ (fun _ => ?_))
      | exact ih0 _ _ _ _ _ _
      | exact LeO.none _
      | refine LeO.ite ?_ ?_
      | refine LeO.bind ?_ (fun _ => ?_)
set_option maxHeartbeats 8000000 in
set_option maxRecDepth 100000 in
theorem impl_crossed.calls (k : Nat) (A0 : Option Addr) (c0 : Nat) (l0 : List (S47)) (a1_0 : Int) (a1_1 : Int) (r : Int) (w : World) (hr0 : Kd.C k47 w A0 l0.length l0) (hc0 : l0.length ≤ c0) (h : impl_crossed.f k l0 a1_0 a1_1 = some r) :
    Calls Try.prog 83 #[.slice A0 l0.length c0, .agg #[.int .i64 a1_0, .int .i64 a1_1]] w fun e w' => e = .returned (.int .i64 r) ∧ Below w.heap.size w w' := by
  have hu47 := Try.underlying47
  have HR0 := Aside0.mk hr0
  have HC0 := Aside0.mk hc0
  clear hr0 hc0
  have HB := Aside0.mk (Below.refl w.heap.size w)
  have H : (impl_crossed.l0 k 0 l0 (l0.length : Int) 0 a1_0 a1_1) = some r := h
  clear h
  have H' := Aside0.mk H
  clear H
  go_enter Try.func83, Try.ntmps83
  go_wp2_with (first | ((with_reducible refine gate_dst (N := 3) rfl ?_); refine box_event ?hg (N := 3) ?hd (cs := #[.int .i64 a1_0, .int .i64 a1_1]) (t := 47) ?hr ?_; (case hd => rfl); (case hg => rfl); (case hr => first | (go_simp; done) | (go_simp; rfl)); intro gb227 hg w3 hbox hb; have n0_ := Aside0.mk (below_step (by repeat (first | (with_reducible first | exact HB.out | apply below_alloc | apply pw_below_drewN | apply below_drew1) | exact HB.out)) hb); have n1_ := Aside0.mk (hbox); have n2_ := Aside0.mk ((by rw [hg]; exact (below_size (by repeat (first | (with_reducible first | exact HB.out | apply below_alloc | apply pw_below_drewN | apply below_drew1) | exact HB.out))) : w.heap.size ≤ gb227)); have n3_ := Aside0.mk ((by rw [hg]; exact (below_size (by repeat (first | (with_reducible first | exact HB.out | apply below_alloc | apply pw_below_drewN | apply below_drew1) | exact HB.out))) : w.heap.size ≤ gb227)); clear HB; have HB := n0_; have BK227 := n1_; have GW227 := n2_; have GE227 := n3_; clear n0_ n1_ n2_ n3_; clear hb hbox hg))
  go_loopg [5, 10] k (fun kq v5 v10 w' => ∃ (x5_1 : Int) (x10_1 : Int), v5 = .int .i64 x5_1 ∧ v10 = .int .i64 x10_1 ∧ Aside0 (impl_crossed.l0 kq x5_1 l0 (l0.length : Int) x10_1 a1_0 a1_1 = some r) ∧ Aside0 (kq ≤ k) ∧ Aside0 (w'.heap[gb227]? = some (.cells #[.int .i64 a1_0, .int .i64 a1_1] 47 (0, 0))) ∧ Aside0 (Below w.heap.size w w'))
  case atStart => exact ⟨(0), (0), (by first | rfl | (simp; done) | (simp [*]; done)), (by first | rfl | (simp; done) | (simp [*]; done)), H', ⟨Nat.le_refl _⟩, ⟨by (with_reducible repeat (first | refine blk_drewN ?_ _ | refine blk_drew ?_ | refine blk_alloc ?_ _)); exact BK227.out⟩, ⟨by repeat (first | (with_reducible first | exact HB.out | apply below_alloc | apply pw_below_drewN | apply below_drew1 | refine below_set ?_ GE227.out) | exact HB.out)⟩⟩
  case round =>
    clear H'
    try clear p2
    obtain ⟨x5_1, x10_1, rfl, rfl, HA, HK1, BK227, HB⟩ := hrel
    cases gk with
    | zero => exact absurd HA.out (by simp [impl_crossed.l0])
    | succ k1 =>
      have H := HA.out
      clear HA
      simp only [impl_crossed.l0] at H
      by_cases c4 : x10_1 < (l0.length : Int)
      · rw [if_pos c4] at H
        have c4b0 : decide (x10_1 < (l0.length : Int)) = true := decide_eq_true c4
        clear c4
        by_cases c5 : 0 ≤ x10_1
        · rw [if_pos c5] at H
          have c5b0 : decide (0 ≤ x10_1) = true := decide_eq_true c5
          clear c5
          by_cases c6 : x10_1 < (l0.length : Int)
          · rw [if_pos c6] at H
            have c6b0 : decide (x10_1 < (l0.length : Int)) = true := decide_eq_true c6
            clear c6
            replace H := Option.bind_eq_some_iff.mp H
            obtain ⟨t230, A70, H⟩ := H
            replace H : (if t230 = true then (impl_crossed.l0 k1 (wrap64 (x5_1 + 1)) l0 (l0.length : Int) (wrap64 (x10_1 + 1)) a1_0 a1_1) else (impl_crossed.l0 k1 x5_1 l0 (l0.length : Int) (wrap64 (x10_1 + 1)) a1_0 a1_1)) = some r := H
            have A7 := Aside0.mk A70
            clear A70
            by_cases c8 : t230 = true
            · subst c8
              have H1 : (impl_crossed.l0 k1 (wrap64 (x5_1 + 1)) l0 (l0.length : Int) (wrap64 (x10_1 + 1)) a1_0 a1_1) = some r := by rw [if_pos rfl] at H; exact H
              clear H
              have H := H1
              clear H1
              have H' := Aside0.mk H
              clear H
              have p228 : 0 ≤ (x10_1 : Int) := of_decide_eq_true (by first | (with_reducible assumption) | assumption)
              have q228 : x10_1 < (l0.length : Int) := of_decide_eq_true (by first | (with_reducible assumption) | assumption)
              obtain ⟨ad228, e228, hx228_0, hx228_1⟩ := at_T47 HR0.out x10_1 p228 q228
              cases e228
              replace hx228_0 := (HB.out.cell (World.block_lt_of_cell? w _ hx228_0)).trans hx228_0
              replace hx228_1 := (HB.out.cell (World.block_lt_of_cell? w _ hx228_1)).trans hx228_1
              replace p228 := eq_true p228
              replace q228 := eq_true q228
              go_wp2_with (first | ((with_reducible refine gate_dst (N := 7) rfl ?_); refine box_event ?hg (N := 7) ?hd (cs := #[.int .i64 0, .int .i64 0]) (t := 47) ?hr ?_; (case hd => rfl); (case hg => rfl); (case hr => first | (go_simp; done) | (go_simp; rfl)); intro gb229 hg w9 hbox hb; have n0_ := Aside0.mk (blk_below (g := gb227) (o := .cells #[.int .i64 a1_0, .int .i64 a1_1] 47 (0, 0)) (by (with_reducible repeat (first | refine blk_drewN ?_ _ | refine blk_drew ?_ | refine blk_alloc ?_ _)); exact BK227.out) hb); have n1_ := Aside0.mk (below_step (by repeat (first | (with_reducible first | exact HB.out | apply below_alloc | apply pw_below_drewN | apply below_drew1 | refine below_set ?_ GE227.out) | exact HB.out)) hb); have n2_ := Aside0.mk (hbox); have n3_ := Aside0.mk ((by rw [hg]; exact (below_size (by repeat (first | (with_reducible first | exact HB.out | apply below_alloc | apply pw_below_drewN | apply below_drew1 | refine below_set ?_ GE227.out) | exact HB.out))) : w.heap.size ≤ gb229)); have n4_ := Aside0.mk ((by rw [hg]; exact (below_size (by repeat (first | (with_reducible first | exact HB.out | apply below_alloc | apply pw_below_drewN | apply below_drew1 | refine below_set ?_ GE227.out) | exact HB.out))) : w.heap.size ≤ gb229)); have n5_ := Aside0.mk ((by rw [hg]; exact Nat.ne_of_lt (blk_lt (g := gb227) (o := .cells #[.int .i64 a1_0, .int .i64 a1_1] 47 (0, 0)) (by (with_reducible repeat (first | refine blk_drewN ?_ _ | refine blk_drew ?_ | refine blk_alloc ?_ _)); exact BK227.out)) : gb227 ≠ gb229)); have n6_ := Aside0.mk ((by rw [hg]; exact Nat.ne_of_gt (blk_lt (g := gb227) (o := .cells #[.int .i64 a1_0, .int .i64 a1_1] 47 (0, 0)) (by (with_reducible repeat (first | refine blk_drewN ?_ _ | refine blk_drew ?_ | refine blk_alloc ?_ _)); exact BK227.out)) : gb229 ≠ gb227)); clear BK227; clear HB; have BK227 := n0_; have HB := n1_; have BK229 := n2_; have GW229 := n3_; have GE229 := n4_; have NB227_229 := n5_; have NB229_227 := n6_; clear n0_ n1_ n2_ n3_ n4_ n5_ n6_; clear hb hbox hg; have hnb10 := NB229_227.out; have hnc10 := NB227_229.out; have hcz11_0 : w9.cell? ⟨gb229, 0, none⟩ = some (.int .i64 0) := (blk_cell BK229.out 0).trans rfl; have hcz11_1 : w9.cell? ⟨gb229, 1, none⟩ = some (.int .i64 0) := (blk_cell BK229.out 1).trans rfl; have hfz11_0 := blk_frozen BK229.out 0; have hfz11_1 := blk_frozen BK229.out 1; have hcz12_0 : w9.cell? ⟨gb227, 0, none⟩ = some (.int .i64 a1_0) := (blk_cell BK227.out 0).trans rfl; have hcz12_1 : w9.cell? ⟨gb227, 1, none⟩ = some (.int .i64 a1_1) := (blk_cell BK227.out 1).trans rfl; have hfz12_0 := blk_frozen BK227.out 0; have hfz12_1 := blk_frozen BK227.out 1) | ((with_reducible refine gate_callee (f := 94) rfl ?_); refine goesL_ (some 16) rfl rfl Try.func94 (by kernel_rfl) rfl #[.agg #[.int .i64 a1_0, .int .i64 a1_1], .agg #[.int .i64 ((rd_T47 l0 x10_1).f0), .int .i64 ((rd_T47 l0 x10_1).f1)]] rfl (by (try simp only [List.map_toArray, List.map_cons, List.map_nil]); first | done | rfl | (simp only [List.length_drop, List.length_take]; rfl)) ?_; (with_reducible refine (impl_crossing.calls a1_0 a1_1 ((rd_T47 l0 x10_1).f0) ((rd_T47 l0 x10_1).f1) true _ A7.out).mono ?_); rintro e w13 ⟨rfl, hb⟩; refine ⟨_, rfl, ?_⟩; have n0_ := Aside0.mk (blk_below (g := gb227) (o := .cells #[.int .i64 a1_0, .int .i64 a1_1] 47 (0, 0)) (by (with_reducible repeat (first | refine blk_drewN ?_ _ | refine blk_drew ?_ | refine blk_alloc ?_ _)); refine blk_far ?_ NB227_229.out _; (with_reducible repeat (first | refine blk_drewN ?_ _ | refine blk_drew ?_ | refine blk_alloc ?_ _)); refine blk_far ?_ NB227_229.out _; (with_reducible repeat (first | refine blk_drewN ?_ _ | refine blk_drew ?_ | refine blk_alloc ?_ _)); exact BK227.out) hb); have n1_ := Aside0.mk (blk_below (g := gb229) (o := .cells #[.int .i64 ((rd_T47 l0 x10_1).f0), .int .i64 ((rd_T47 l0 x10_1).f1)] 47 (0, 0)) (by (with_reducible repeat (first | refine blk_drewN ?_ _ | refine blk_drew ?_ | refine blk_alloc ?_ _)); refine blk_put (cs := #[.int .i64 ((rd_T47 l0 x10_1).f0), .int .i64 0]) ?_ 1 _ rfl; (with_reducible repeat (first | refine blk_drewN ?_ _ | refine blk_drew ?_ | refine blk_alloc ?_ _)); refine blk_put (cs := #[.int .i64 0, .int .i64 0]) ?_ 0 _ rfl; (with_reducible repeat (first | refine blk_drewN ?_ _ | refine blk_drew ?_ | refine blk_alloc ?_ _)); exact BK229.out) hb); have n2_ := Aside0.mk (below_step (by repeat (first | (with_reducible first | exact HB.out | apply below_alloc | apply pw_below_drewN | apply below_drew1 | refine below_set ?_ GE227.out | refine below_set ?_ GE229.out) | exact HB.out)) hb); clear BK227; clear BK229; clear HB; have BK227 := n0_; have BK229 := n1_; have HB := n2_; clear n0_ n1_ n2_; (try clear hb); (try clear hb2); (try clear hk); (try clear hi)))
              go_roundg k1
              case measure => have := HK1.out; omega
              case rel => exact ⟨(wrap64 (x5_1 + 1)), (wrap64 (x10_1 + 1)), (by first | rfl | (simp; done) | (simp [*]; done)), (by first | rfl | (simp; done) | (simp [*]; done)), H', ⟨by have := HK1.out; omega⟩, ⟨by (with_reducible repeat (first | refine blk_drewN ?_ _ | refine blk_drew ?_ | refine blk_alloc ?_ _)); exact BK227.out⟩, ⟨by repeat (first | (with_reducible first | exact HB.out | apply below_alloc | apply pw_below_drewN | apply below_drew1 | refine below_set ?_ GE227.out | refine below_set ?_ GE229.out) | exact HB.out)⟩⟩
            · replace c8 := Bool.eq_false_iff.mpr c8
              subst c8
              have H1 : (impl_crossed.l0 k1 x5_1 l0 (l0.length : Int) (wrap64 (x10_1 + 1)) a1_0 a1_1) = some r := by rw [if_neg (show ¬ (false = true) by decide)] at H; exact H
              clear H
              have H := H1
              clear H1
              have H' := Aside0.mk H
              clear H
              have p228 : 0 ≤ (x10_1 : Int) := of_decide_eq_true (by first | (with_reducible assumption) | assumption)
              have q228 : x10_1 < (l0.length : Int) := of_decide_eq_true (by first | (with_reducible assumption) | assumption)
              obtain ⟨ad228, e228, hx228_0, hx228_1⟩ := at_T47 HR0.out x10_1 p228 q228
              cases e228
              replace hx228_0 := (HB.out.cell (World.block_lt_of_cell? w _ hx228_0)).trans hx228_0
              replace hx228_1 := (HB.out.cell (World.block_lt_of_cell? w _ hx228_1)).trans hx228_1
              replace p228 := eq_true p228
              replace q228 := eq_true q228
              go_wp2_with (first | ((with_reducible refine gate_dst (N := 7) rfl ?_); refine box_event ?hg (N := 7) ?hd (cs := #[.int .i64 0, .int .i64 0]) (t := 47) ?hr ?_; (case hd => rfl); (case hg => rfl); (case hr => first | (go_simp; done) | (go_simp; rfl)); intro gb229 hg w14 hbox hb; have n0_ := Aside0.mk (blk_below (g := gb227) (o := .cells #[.int .i64 a1_0, .int .i64 a1_1] 47 (0, 0)) (by (with_reducible repeat (first | refine blk_drewN ?_ _ | refine blk_drew ?_ | refine blk_alloc ?_ _)); exact BK227.out) hb); have n1_ := Aside0.mk (below_step (by repeat (first | (with_reducible first | exact HB.out | apply below_alloc | apply pw_below_drewN | apply below_drew1 | refine below_set ?_ GE227.out) | exact HB.out)) hb); have n2_ := Aside0.mk (hbox); have n3_ := Aside0.mk ((by rw [hg]; exact (below_size (by repeat (first | (with_reducible first | exact HB.out | apply below_alloc | apply pw_below_drewN | apply below_drew1 | refine below_set ?_ GE227.out) | exact HB.out))) : w.heap.size ≤ gb229)); have n4_ := Aside0.mk ((by rw [hg]; exact (below_size (by repeat (first | (with_reducible first | exact HB.out | apply below_alloc | apply pw_below_drewN | apply below_drew1 | refine below_set ?_ GE227.out) | exact HB.out))) : w.heap.size ≤ gb229)); have n5_ := Aside0.mk ((by rw [hg]; exact Nat.ne_of_lt (blk_lt (g := gb227) (o := .cells #[.int .i64 a1_0, .int .i64 a1_1] 47 (0, 0)) (by (with_reducible repeat (first | refine blk_drewN ?_ _ | refine blk_drew ?_ | refine blk_alloc ?_ _)); exact BK227.out)) : gb227 ≠ gb229)); have n6_ := Aside0.mk ((by rw [hg]; exact Nat.ne_of_gt (blk_lt (g := gb227) (o := .cells #[.int .i64 a1_0, .int .i64 a1_1] 47 (0, 0)) (by (with_reducible repeat (first | refine blk_drewN ?_ _ | refine blk_drew ?_ | refine blk_alloc ?_ _)); exact BK227.out)) : gb229 ≠ gb227)); clear BK227; clear HB; have BK227 := n0_; have HB := n1_; have BK229 := n2_; have GW229 := n3_; have GE229 := n4_; have NB227_229 := n5_; have NB229_227 := n6_; clear n0_ n1_ n2_ n3_ n4_ n5_ n6_; clear hb hbox hg; have hnb15 := NB229_227.out; have hnc15 := NB227_229.out; have hcz16_0 : w14.cell? ⟨gb229, 0, none⟩ = some (.int .i64 0) := (blk_cell BK229.out 0).trans rfl; have hcz16_1 : w14.cell? ⟨gb229, 1, none⟩ = some (.int .i64 0) := (blk_cell BK229.out 1).trans rfl; have hfz16_0 := blk_frozen BK229.out 0; have hfz16_1 := blk_frozen BK229.out 1; have hcz17_0 : w14.cell? ⟨gb227, 0, none⟩ = some (.int .i64 a1_0) := (blk_cell BK227.out 0).trans rfl; have hcz17_1 : w14.cell? ⟨gb227, 1, none⟩ = some (.int .i64 a1_1) := (blk_cell BK227.out 1).trans rfl; have hfz17_0 := blk_frozen BK227.out 0; have hfz17_1 := blk_frozen BK227.out 1) | ((with_reducible refine gate_callee (f := 94) rfl ?_); refine goesL_ (some 16) rfl rfl Try.func94 (by kernel_rfl) rfl #[.agg #[.int .i64 a1_0, .int .i64 a1_1], .agg #[.int .i64 ((rd_T47 l0 x10_1).f0), .int .i64 ((rd_T47 l0 x10_1).f1)]] rfl (by (try simp only [List.map_toArray, List.map_cons, List.map_nil]); first | done | rfl | (simp only [List.length_drop, List.length_take]; rfl)) ?_; (with_reducible refine (impl_crossing.calls a1_0 a1_1 ((rd_T47 l0 x10_1).f0) ((rd_T47 l0 x10_1).f1) false _ A7.out).mono ?_); rintro e w18 ⟨rfl, hb⟩; refine ⟨_, rfl, ?_⟩; have n0_ := Aside0.mk (blk_below (g := gb227) (o := .cells #[.int .i64 a1_0, .int .i64 a1_1] 47 (0, 0)) (by (with_reducible repeat (first | refine blk_drewN ?_ _ | refine blk_drew ?_ | refine blk_alloc ?_ _)); refine blk_far ?_ NB227_229.out _; (with_reducible repeat (first | refine blk_drewN ?_ _ | refine blk_drew ?_ | refine blk_alloc ?_ _)); refine blk_far ?_ NB227_229.out _; (with_reducible repeat (first | refine blk_drewN ?_ _ | refine blk_drew ?_ | refine blk_alloc ?_ _)); exact BK227.out) hb); have n1_ := Aside0.mk (blk_below (g := gb229) (o := .cells #[.int .i64 ((rd_T47 l0 x10_1).f0), .int .i64 ((rd_T47 l0 x10_1).f1)] 47 (0, 0)) (by (with_reducible repeat (first | refine blk_drewN ?_ _ | refine blk_drew ?_ | refine blk_alloc ?_ _)); refine blk_put (cs := #[.int .i64 ((rd_T47 l0 x10_1).f0), .int .i64 0]) ?_ 1 _ rfl; (with_reducible repeat (first | refine blk_drewN ?_ _ | refine blk_drew ?_ | refine blk_alloc ?_ _)); refine blk_put (cs := #[.int .i64 0, .int .i64 0]) ?_ 0 _ rfl; (with_reducible repeat (first | refine blk_drewN ?_ _ | refine blk_drew ?_ | refine blk_alloc ?_ _)); exact BK229.out) hb); have n2_ := Aside0.mk (below_step (by repeat (first | (with_reducible first | exact HB.out | apply below_alloc | apply pw_below_drewN | apply below_drew1 | refine below_set ?_ GE227.out | refine below_set ?_ GE229.out) | exact HB.out)) hb); clear BK227; clear BK229; clear HB; have BK227 := n0_; have BK229 := n1_; have HB := n2_; clear n0_ n1_ n2_; (try clear hb); (try clear hb2); (try clear hk); (try clear hi)))
              go_roundg k1
              case measure => have := HK1.out; omega
              case rel => exact ⟨(x5_1), (wrap64 (x10_1 + 1)), (by first | rfl | (simp; done) | (simp [*]; done)), (by first | rfl | (simp; done) | (simp [*]; done)), H', ⟨by have := HK1.out; omega⟩, ⟨by (with_reducible repeat (first | refine blk_drewN ?_ _ | refine blk_drew ?_ | refine blk_alloc ?_ _)); exact BK227.out⟩, ⟨by repeat (first | (with_reducible first | exact HB.out | apply below_alloc | apply pw_below_drewN | apply below_drew1 | refine below_set ?_ GE227.out | refine below_set ?_ GE229.out) | exact HB.out)⟩⟩
          · rw [if_neg c6] at H
            exact absurd H (by simp)
        · rw [if_neg c5] at H
          exact absurd H (by simp)
      · rw [if_neg c4] at H
        have c4b0 : decide (x10_1 < (l0.length : Int)) = false := decide_eq_false c4
        clear c4
        obtain rfl := Option.some.inj H
        go_wp2
        go_ret
        exact ⟨by first | rfl | (simp [errW_none, errW_some] <;> rfl) | (simp [*, errW_none, errW_some] <;> rfl), by repeat (first | (with_reducible first | exact HB.out | apply below_alloc | apply pw_below_drewN | apply below_drew1 | refine below_set ?_ GE227.out) | exact HB.out)⟩

end Go.Proofs.Ytdeenfpcmaadcaa.Pr

-- Written by a program for this claim.
namespace Go.Proofs.Ytdeenfpcmaadcaa.Pr
open Go.RowKit Go.Proofs.YtdeenfpcmaadcaaW.PrintWords Go.Proofs.YtdeenfpcmaadcaaW.PrintLast Go.Proofs.YtdeenfpcmaadcaaW.PrintMore
attribute [local go_sem] max2_int min2_int max_two min_two max_three min_three max_four min_four   -- for this text's walks alone
set_option linter.unusedVariables false
set_option linter.unusedSimpArgs false

/-! ### impl_crossings: function 62 -/
def impl_crossings.l0 : Nat → List (S47) → Int → List (S47) → Int → Int → Option (Int)
  | 0, _, _, _, _, _ => none
  | k + 1, x0, x3, x6, x7, x8 => if x8 < x7 then (if 0 ≤ x8 then (if x8 < (x6.length : Int) then (if x8 ≤ (x0.length : Int) then ((impl_crossed.f k (x0.take (x8 : Int).toNat) ((rd_T47 x6 x8).f0) ((rd_T47 x6 x8).f1)).bind fun t237 => (impl_crossings.l0 k x0 (wrap64 (x3 + t237)) x6 x7 (wrap64 (x8 + 1)))) else (none)) else (none)) else (none)) else (some x3)
def impl_crossings.f (k : Nat) (l0 : List (S47)) : Option (Int) := impl_crossings.l0 k l0 0 l0 (l0.length : Int) 0
theorem impl_crossings.mono_l : ∀ k, (∀ y0 y1 y2 y3 y4, LeO (impl_crossings.l0 k y0 y1 y2 y3 y4) (impl_crossings.l0 (k + 1) y0 y1 y2 y3 y4))
  | 0 => fun _ _ _ _ _ r h => by simp [impl_crossings.l0] at h
  | k + 1 => by
    have ih0 := impl_crossings.mono_l k
    · intro y0 y1 y2 y3 y4
      unfold impl_crossings.l0
      repeat' first
      | (with_reducible exact ih0 _ _ _ _ _)
      | (with_reducible exact impl_crossed.mono _ _ _ _)
      | (with_reducible exact LeO.refl _)
      | (with_reducible exact LeO.none _)
      | (with_reducible refine LeO.ite ?_ ?_)
      | (with_reducible refine LeO.bind ?_ (fun _ => ?_))
      | exact ih0 _ _ _ _ _
      | exact impl_crossed.mono _ _ _ _
      | exact LeO.none _
      | refine LeO.ite ?_ ?_
      | refine LeO.bind ?_ (fun _ => ?_)
theorem impl_crossings.mono : ∀ a0 k, LeO (impl_crossings.f k a0) (impl_crossings.f (k + 1) a0) := by
  intro a0 k
  have ih0 := impl_crossings.mono_l k
  unfold impl_crossings.f
  repeat' first
      | (with_reducible exact ih0 _ _ _ _ _)
      | (with_reducible exact impl_crossed.mono _ _ _ _)
      | (with_reducible exact LeO.refl _)
      | (with_reducible exact LeO.none _)
      | (with_reducible refine LeO.ite ?_ ?_)
      | (with_reducible refine LeO.bind ?_ (fun _ => ?_))
      | exact ih0 _ _ _ _ _
      | exact impl_crossed.mono _ _ _ _
      | exact LeO.none _
      | refine LeO.ite ?_ ?_
      | refine LeO.bind ?_ (fun _ => ?_)
def impl_crossings.T5 : Bool × List (List Nat × List Nat) := (true, [([], []), ([], []), ([], []), ([1, 2], [1, 2]), ([], []), ([3, 4], [3, 4]), ([0, 5], [0, 5]), ([6, 5, 0, 1, 2, 3, 4, 5, 6], [0, 6])])
def impl_crossings.B5 : List Nat := [0, 0, 0, 6, 0, 30, 63, 127]
theorem impl_crossings.tab5 : rtab .any (opsOf Try.f62 5) = impl_crossings.T5 := by kernel_rfl
theorem impl_crossings.bits5 : waitsOk impl_crossings.T5.2 impl_crossings.B5 = true := by kernel_rfl
set_option maxHeartbeats 8000000 in
set_option maxRecDepth 100000 in
theorem impl_crossings.calls (k : Nat) (A0 : Option Addr) (c0 : Nat) (l0 : List (S47)) (r : Int) (w : World) (hr0 : Kd.C k47 w A0 l0.length l0) (hc0 : l0.length ≤ c0) (h : impl_crossings.f k l0 = some r) :
    Calls Try.prog 62 #[.slice A0 l0.length c0] w fun e w' => e = .returned (.int .i64 r) ∧ Below w.heap.size w w' := by
  have hu47 := Try.underlying47
  have HR0 := Aside0.mk hr0
  have HC0 := Aside0.mk hc0
  clear hr0 hc0
  have HB := Aside0.mk (Below.refl w.heap.size w)
  have H : (impl_crossings.l0 k l0 0 l0 (l0.length : Int) 0) = some r := h
  clear h
  have H' := Aside0.mk H
  clear H
  go_enter Try.func62, Try.ntmps62
  go_wp2
  go_loopg [3, 8] k (fun kq v3 v8 w' => ∃ (x3_1 : Int) (x8_1 : Int), v3 = .int .i64 x3_1 ∧ v8 = .int .i64 x8_1 ∧ Aside0 (impl_crossings.l0 kq l0 x3_1 l0 (l0.length : Int) x8_1 = some r) ∧ Aside0 (kq ≤ k) ∧ Aside0 (Below w.heap.size w w'))
  case atStart => exact ⟨(0), (0), (by first | rfl | (simp; done) | (simp [*]; done)), (by first | rfl | (simp; done) | (simp [*]; done)), H', ⟨Nat.le_refl _⟩, ⟨by repeat (first | (with_reducible first | exact HB.out | apply below_alloc | apply pw_below_drewN | apply below_drew1) | exact HB.out)⟩⟩
  case round =>
    clear H'
    obtain ⟨x3_1, x8_1, rfl, rfl, HA, HK1, HB⟩ := hrel
    cases gk with
    | zero => exact absurd HA.out (by simp [impl_crossings.l0])
    | succ k1 =>
      have H := HA.out
      clear HA
      simp only [impl_crossings.l0] at H
      by_cases c2 : x8_1 < (l0.length : Int)
      · rw [if_pos c2] at H
        have c2b0 : decide (x8_1 < (l0.length : Int)) = true := decide_eq_true c2
        clear c2
        by_cases c3 : 0 ≤ x8_1
        · rw [if_pos c3] at H
          have c3b0 : decide (0 ≤ x8_1) = true := decide_eq_true c3
          clear c3
          by_cases c4 : x8_1 < (l0.length : Int)
          · rw [if_pos c4] at H
            have c4b0 : decide (x8_1 < (l0.length : Int)) = true := decide_eq_true c4
            clear c4
            have c5b0 := eq_true (of_decide_eq_true (by first | (with_reducible assumption) | assumption) : 0 ≤ x8_1)
            by_cases c6 : x8_1 ≤ (l0.length : Int)
            · rw [if_pos c6] at H
              have c6b0 := eq_true c6
              have c6b1 : decide (x8_1 ≤ (l0.length : Int)) = true := decide_eq_true c6
              clear c6
              obtain ⟨y233, hy233⟩ : ∃ y_ : List (S47), y_ = (l0.take (x8_1 : Int).toNat) := ⟨_, rfl⟩
              replace H : ((impl_crossed.f k1 y233 ((rd_T47 l0 x8_1).f0) ((rd_T47 l0 x8_1).f1)).bind fun t237 => (impl_crossings.l0 k1 l0 (wrap64 (x3_1 + t237)) l0 (l0.length : Int) (wrap64 (x8_1 + 1)))) = some r := by first | (rw [hy233]; with_reducible exact H) | (have H2_ := (Option.bind_some _ _).symm.trans H; rw [hy233]; with_reducible exact H2_) | (have H2_ := (Option.bind_some _ _).symm.trans H; with_reducible exact H2_) | with_reducible exact H | (rw [hy233]; exact H) | exact H
              have Ny233 := Aside0.mk hy233
              clear hy233
              replace H := Option.bind_eq_some_iff.mp H
              obtain ⟨t237, A70, H⟩ := H
              replace H : (impl_crossings.l0 k1 l0 (wrap64 (x3_1 + t237)) l0 (l0.length : Int) (wrap64 (x8_1 + 1))) = some r := H
              have A7 := Aside0.mk A70
              clear A70
              have H' := Aside0.mk H
              clear H
              have p231 : 0 ≤ (x8_1 : Int) := of_decide_eq_true (by first | (with_reducible assumption) | assumption)
              have q231 : x8_1 < (l0.length : Int) := of_decide_eq_true (by first | (with_reducible assumption) | assumption)
              obtain ⟨ad231, e231, hx231_0, hx231_1⟩ := at_T47 HR0.out x8_1 p231 q231
              cases e231
              replace hx231_0 := (HB.out.cell (World.block_lt_of_cell? w _ hx231_0)).trans hx231_0
              replace hx231_1 := (HB.out.cell (World.block_lt_of_cell? w _ hx231_1)).trans hx231_1
              replace p231 := eq_true p231
              replace q231 := eq_true q231
              try go_wp2_with (first | ((with_reducible refine gate_dst (N := 5) rfl ?_); refine box_event ?hg (N := 5) ?hd (cs := #[.int .i64 0, .int .i64 0]) (t := 47) ?hr ?_; (case hd => rfl); (case hg => rfl); (case hr => first | (go_simp; done) | (go_simp; rfl)); intro gb232 hg w8 hbox hb; have n0_ := Aside0.mk (below_step (by repeat (first | (with_reducible first | exact HB.out | apply below_alloc | apply pw_below_drewN | apply below_drew1) | exact HB.out)) hb); have n1_ := Aside0.mk (hbox); have n2_ := Aside0.mk ((by rw [hg]; exact (below_size (by repeat (first | (with_reducible first | exact HB.out | apply below_alloc | apply pw_below_drewN | apply below_drew1) | exact HB.out))) : w.heap.size ≤ gb232)); have n3_ := Aside0.mk ((by rw [hg]; exact (below_size (by repeat (first | (with_reducible first | exact HB.out | apply below_alloc | apply pw_below_drewN | apply below_drew1) | exact HB.out))) : w.heap.size ≤ gb232)); clear HB; have HB := n0_; have BK232 := n1_; have GW232 := n2_; have GE232 := n3_; clear n0_ n1_ n2_ n3_; clear hb hbox hg; have hcz9_0 : w8.cell? ⟨gb232, 0, none⟩ = some (.int .i64 0) := (blk_cell BK232.out 0).trans rfl; have hcz9_1 : w8.cell? ⟨gb232, 1, none⟩ = some (.int .i64 0) := (blk_cell BK232.out 1).trans rfl; have hfz9_0 := blk_frozen BK232.out 0; have hfz9_1 := blk_frozen BK232.out 1))
              have n0_ : Aside0 (((w8.setCell ⟨gb232, 0, none⟩ (.int .i64 ((rd_T47 l0 x8_1).f0))).setCell ⟨gb232, 1, none⟩ (.int .i64 ((rd_T47 l0 x8_1).f1))).heap[gb232]? = some (.cells #[.int .i64 ((rd_T47 l0 x8_1).f0), .int .i64 ((rd_T47 l0 x8_1).f1)] 47 (0, 0))) := ⟨by (with_reducible repeat (first | refine blk_drewN ?_ _ | refine blk_drew ?_ | refine blk_alloc ?_ _)); refine blk_put (cs := #[.int .i64 ((rd_T47 l0 x8_1).f0), .int .i64 0]) ?_ 1 _ rfl; (with_reducible repeat (first | refine blk_drewN ?_ _ | refine blk_drew ?_ | refine blk_alloc ?_ _)); refine blk_put (cs := #[.int .i64 0, .int .i64 0]) ?_ 0 _ rfl; (with_reducible repeat (first | refine blk_drewN ?_ _ | refine blk_drew ?_ | refine blk_alloc ?_ _)); exact BK232.out⟩
              have n1_ : Aside0 (Below w.heap.size w ((w8.setCell ⟨gb232, 0, none⟩ (.int .i64 ((rd_T47 l0 x8_1).f0))).setCell ⟨gb232, 1, none⟩ (.int .i64 ((rd_T47 l0 x8_1).f1)))) := ⟨by repeat (first | (with_reducible first | exact HB.out | apply below_alloc | apply pw_below_drewN | apply below_drew1 | refine below_set ?_ GE232.out) | exact HB.out)⟩
              (try clear BK232)
              (try clear HB)
              generalize ((w8.setCell ⟨gb232, 0, none⟩ (.int .i64 ((rd_T47 l0 x8_1).f0))).setCell ⟨gb232, 1, none⟩ (.int .i64 ((rd_T47 l0 x8_1).f1))) = w10 at n0_ n1_ ⊢
              have BK232 := n0_
              have HB := n1_
              clear n0_ n1_
              have n0_ := Aside0.mk (blk_drew BK232.out)
              have n1_ := Aside0.mk (below_drew1 HB.out)
              clear BK232
              clear HB
              have BK232 := n0_
              have HB := n1_
              clear n0_ n1_
              have q12 : (x8_1 : Int) ≤ ((l0.length : Int) : Int) := of_decide_eq_true (by first | (with_reducible assumption) | assumption)
              obtain ⟨i012, hi012, _, hsz12, _⟩ := info_parts info47
              have hroom12 : l0.length ≤ c0 := HC0.out
              have hC12 : Kd.C k47 _ (some ad231) l0.length l0 := HR0.out
              have hcut12 := cut_to (P := Try.prog) 27 47 .i64 Try.underlying27 hi012 (some ad231) l0.length c0 x8_1 (of_decide_eq_true (by first | (with_reducible assumption) | assumption)) q12 hroom12
              have hr12 := Kd.C_take (m := (x8_1 : Int).toNat) hC12 (by omega)
              have hy12 : y233.length = (x8_1 : Int).toNat := (by rw [Ny233.out, List.length_take]; omega)
              rw [← Ny233.out] at hr12
              rw [← hy12] at hcut12
              have HR236 := Aside0.mk hr12
              have HC236 := Aside0.mk (show y233.length ≤ c0 from by omega)
              clear hr12 hC12 hroom12 hi012 hsz12
              have KY12 := Aside0.mk hy12
              clear hy12
              replace q12 := eq_true q12
              refine start_ (n := 8) (S := fun w' => w'.cell? ⟨gb232, 0, none⟩ = some (.int .i64 ((rd_T47 l0 x8_1).f0)) ∧ w'.cell? ⟨gb232, 1, none⟩ = some (.int .i64 ((rd_T47 l0 x8_1).f1))) (ds := []) #[false, false, false, false, false, false, false, false] (by kernel_rfl) rfl rfl ⟨(blk_cell BK232.out 0).trans rfl, (blk_cell BK232.out 1).trans rfl⟩ (fun hHeld => ?_); refine with_tabW impl_crossings.tab5 impl_crossings.bits5 (fun HT_ HW_ => ?_)
              generalize w10.drew = w11 at BK232 HB HR236 hHeld ⊢
              refine pure_ (i := 0) (N := some 13) (v := ?_) (a' := ?_) #[true, false, false, false, false, false, false, false] rfl rfl (any_of HT_.out (by kernel_rfl)) (fun _ _ _ h => h) (Or.inl ⟨by rfl, ?_⟩) ?_ ?_
              rotate_left
              · intro w'
                go_simp
                with_reducible rfl
              rotate_left
              · simp only [Act.put, List.setIfInBounds_toArray, List.set_cons_zero, List.set_cons_succ, i64_w, i32_w]
                rfl
              refine pure_ (i := 1) (N := some 14) (v := ?_) (a' := ?_) #[true, true, false, false, false, false, false, false] rfl rfl (any_of HT_.out (by kernel_rfl)) (fun _ _ _ h => h) (Or.inl ⟨by rfl, ?_⟩) ?_ ?_
              rotate_left
              · intro w'
                go_simp
                with_reducible rfl
              rotate_left
              · simp only [Act.put, List.setIfInBounds_toArray, List.set_cons_zero, List.set_cons_succ, i64_w, i32_w]
                rfl
              refine pure_ (i := 2) (N := some 15) (v := ?_) (a' := ?_) #[true, true, true, false, false, false, false, false] rfl rfl (any_of HT_.out (by kernel_rfl)) (fun _ _ _ h => h) (Or.inl ⟨by rfl, ?_⟩) ?_ ?_
              rotate_left
              · intro w'
                go_simp
                with_reducible rfl
              rotate_left
              · simp only [Act.put, List.setIfInBounds_toArray, List.set_cons_zero, List.set_cons_succ, i64_w, i32_w]
                rfl
              refine pure_ (i := 3) (N := some 16) (v := ?_) (a' := ?_) #[true, true, true, true, false, false, false, false] rfl rfl (any_of HT_.out (by kernel_rfl)) (fun _ _ _ h => h) (Or.inl ⟨by rfl, ?_⟩) ?_ ?_
              rotate_left
              · intro w'
                go_simp
                with_reducible rfl
              rotate_left
              · simp only [Act.put, List.setIfInBounds_toArray, List.set_cons_zero, List.set_cons_succ, i64_w, i32_w]
                rfl
              refine take_ (i := 4) (N := some 17) (v := ?_) (a' := ?_) #[true, true, true, true, true, false, false, false] rfl rfl (take_ofW HT_.out HW_.out (by kernel_rfl)) (fun _ _ _ h => h) (Or.inl ⟨by rfl, ?_⟩) hHeld ?_ ?_
              rotate_left
              · rintro w' ⟨s0, s1⟩
                go_simp
                with_reducible rfl
              rotate_left
              · simp only [Act.put, List.setIfInBounds_toArray, List.set_cons_zero, List.set_cons_succ, i64_w, i32_w]
                rfl
              refine one_ (i := 5) (N := some 18) #[true, true, true, true, true, true, false, false] rfl rfl (one_of HT_.out (by kernel_rfl)) (by decide) (fun K hK => ?_)
              refine goes_ Try.func83 (by kernel_rfl) rfl #[.slice (some ad231) y233.length c0, .agg #[.int .i64 ((rd_T47 l0 x8_1).f0), .int .i64 ((rd_T47 l0 x8_1).f1)]] (by rfl) rfl rfl (by (try simp only [List.map_toArray, List.map_cons, List.map_nil]); first | done | rfl | (simp only [List.length_drop, List.length_take]; rfl)) ?_
              with_reducible refine (impl_crossed.calls k1 _ _ y233 ((rd_T47 l0 x8_1).f0) ((rd_T47 l0 x8_1).f1) t237 _ ?side1 ?side2 A7.out).mono ?_
              (case side1 => repeat (first | exact (Kd.C_below HR236.out HB.out) | (with_reducible refine Kd.C_alloc ?_ _) | (with_reducible refine Kd.C_drewN ?_ _) | (with_reducible refine Kd.C_drew ?_)))
              (case side2 => exact HC236.out)
              rintro e w13 ⟨rfl, hb⟩
              refine ⟨_, rfl, ?_⟩
              have n0_ := Aside0.mk (blk_below (g := gb232) (o := .cells #[.int .i64 ((rd_T47 l0 x8_1).f0), .int .i64 ((rd_T47 l0 x8_1).f1)] 47 (0, 0)) (by (with_reducible repeat (first | refine blk_drewN ?_ _ | refine blk_drew ?_ | refine blk_alloc ?_ _)); exact BK232.out) hb)
              have n1_ := Aside0.mk (below_step (by repeat (first | (with_reducible first | exact HB.out | apply below_alloc | apply pw_below_drewN | apply below_drew1 | refine below_set ?_ GE232.out) | exact HB.out)) hb)
              clear BK232
              clear HB
              have BK232 := n0_
              have HB := n1_
              clear n0_ n1_
              (try clear hb)
              (try clear hb2)
              (try clear hk)
              (try clear hi)
              refine hK.out _ _ ⟨(blk_cell BK232.out 0).trans rfl, (blk_cell BK232.out 1).trans rfl⟩ (fun hHeld => ?_)
              clear hK K
              refine norm_ (a' := ?_) ?_ ?_
              rotate_left
              · show Act.put _ (some 18) _ = _
                simp only [Act.put, List.setIfInBounds_toArray, List.set_cons_zero, List.set_cons_succ, i64_w, i32_w]
                rfl
              refine pure_ (i := 6) (N := some 19) (v := ?_) (a' := ?_) #[true, true, true, true, true, true, true, false] rfl rfl (any_of HT_.out (by kernel_rfl)) (fun _ _ _ h => h) (Or.inl ⟨by rfl, ?_⟩) ?_ ?_
              rotate_left
              · intro w'
                go_simp
                with_reducible rfl
              rotate_left
              · simp only [Act.put, List.setIfInBounds_toArray, List.set_cons_zero, List.set_cons_succ, i64_w, i32_w]
                rfl
              refine pure_ (i := 7) (N := some 3) (v := ?_) (a' := ?_) #[true, true, true, true, true, true, true, true] rfl rfl (any_of HT_.out (by kernel_rfl)) (fun _ _ _ h => h) (Or.inl ⟨by rfl, ?_⟩) ?_ ?_
              rotate_left
              · intro w'
                go_simp
                with_reducible rfl
              rotate_left
              · simp only [Act.put, List.setIfInBounds_toArray, List.set_cons_zero, List.set_cons_succ, i64_w, i32_w]
                rfl
              refine done_ (done_of HT_.out (by kernel_rfl)) ?_
              try go_wp2
              go_roundg k1
              case measure => have := HK1.out; omega
              case rel => exact ⟨(wrap64 (x3_1 + t237)), (wrap64 (x8_1 + 1)), (by first | rfl | (simp; done) | (simp [*]; done)), (by first | rfl | (simp; done) | (simp [*]; done)), H', ⟨by have := HK1.out; omega⟩, ⟨by repeat (first | (with_reducible first | exact HB.out | apply below_alloc | apply pw_below_drewN | apply below_drew1 | refine below_set ?_ GE232.out) | exact HB.out)⟩⟩
            · rw [if_neg c6] at H
              exact absurd H (by simp)
          · rw [if_neg c4] at H
            exact absurd H (by simp)
        · rw [if_neg c3] at H
          exact absurd H (by simp)
      · rw [if_neg c2] at H
        have c2b0 : decide (x8_1 < (l0.length : Int)) = false := decide_eq_false c2
        clear c2
        obtain rfl := Option.some.inj H
        go_wp2
        go_ret
        exact ⟨by first | rfl | (simp [errW_none, errW_some] <;> rfl) | (simp [*, errW_none, errW_some] <;> rfl), by repeat (first | (with_reducible first | exact HB.out | apply below_alloc | apply pw_below_drewN | apply below_drew1) | exact HB.out)⟩

end Go.Proofs.Ytdeenfpcmaadcaa.Pr

-- Written by a program for this claim.
namespace Go.Proofs.Ytdeenfpcmaadcaa.Pr
open Go.RowKit Go.Proofs.YtdeenfpcmaadcaaW.PrintWords Go.Proofs.YtdeenfpcmaadcaaW.PrintLast Go.Proofs.YtdeenfpcmaadcaaW.PrintMore
attribute [local go_sem] max2_int min2_int max_two min_two max_three min_three max_four min_four   -- for this text's walks alone
set_option linter.unusedVariables false
set_option linter.unusedSimpArgs false

theorem eqA47 (d : Nat) (w : World) (x0 y0 : Int) (x1 y1 : Int) :
    (Op.equalIn (d + 2) 47 (.agg #[.int .i64 x0, .int .i64 x1]) (.agg #[.int .i64 y0, .int .i64 y1])).run Try.prog w = .ok (x0 == y0 && (x1 == y1)) w := by
  refine eqA_of Try.underlying47 (by kernel_rfl) ?_
  refine eqf_cons (by rfl) (by go_simp; rfl) (by go_simp; rfl) (by go_simp) ?_
  exact eqf_last (by rfl) (by go_simp; rfl) (by go_simp; rfl) (by go_simp)
end Go.Proofs.Ytdeenfpcmaadcaa.Pr
