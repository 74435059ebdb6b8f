/- The program's CountPieces returns what the reference's returns, for all arguments. Condition: none. -/
import Derived.Deep.Slices
import Derived.Deep.Fields
import Derived.ChangeSame
import Derived.ChangeShapes
import Derived.Below
import Derived.Carry
import Derived.Lib.SmallJoins
import Derived.RowKit
import Derived.OpenShut
import Derived.Test.YtijhoifcpijeiaaWWords
import Derived.Test.YtijhoifcpijeiaaRows
import Derived.WalkKit
import Derived.ProofKit
import Derived.ShutString
import Derived.ChangeOld
import Derived.SizedLaws
import Derived.ChangeSlices
import Derived.Test.YtijhoifcpijeiaaKFnExactCountPieces0
import Derived.Test.YtijhoifcpijeiaaKFnExactCountPieces1
import Derived.Test.YtijhoifcpijeiaaKFnExactCountPieces2
/- The program's CountPieces returns what the reference's returns, for all arguments: the sum of the pieces of all chords is the chords and twice the pairs that cross. -/
namespace Go.Proofs.Ytijhoifcpijeiaa.Pure
open Go.RowKit Go.Proofs.Ytijhoifcpijeiaa.Pr Go.Proofs.Ytijhoifcpijeiaa.M Go.Proofs.YtijhoifcpijeiaaW.PrintWords Go.Proofs.YtijhoifcpijeiaaW.PrintLast
set_option linter.unusedVariables false
set_option linter.unusedSimpArgs false

theorem crB_self (c : Ch) : ¬ crB c c = true := by
  unfold crB
  simp only [decide_eq_true_eq]
  omega
theorem withN_front (c : Ch) (l : List Ch) : ∀ r : List Ch, withN (c :: l) r = withN l r + cnt c r
  | [] => rfl
  | d :: r => by
    have ih := withN_front c l r
    unfold withN at *
    simp only [List.map_cons, List.sum_cons, ih]
    by_cases h : crB c d = true
    · rw [cnt_pos _ h, cnt_pos (c := d) (d := c) _ (by rw [crB_comm]; exact h)]; omega
    · rw [cnt_neg _ h, cnt_neg (c := d) (d := c) _ (by rw [crB_comm]; exact h)]; omega
theorem withN_self : ∀ l : List Ch, withN l l = 2 * pairsN l
  | [] => rfl
  | c :: r => by
    have ih := withN_self r
    rw [pairsN]
    have : withN (c :: r) (c :: r) = cnt c (c :: r) + withN (c :: r) r := by simp [withN]
    rw [this, withN_front, cnt_neg _ (crB_self c), ih]
    omega
def sumP (l : List Ch) (r : List Ch) : Int := r.length + (withN l r : Int)
theorem sumP_cons (l : List Ch) (c : Ch) (r : List Ch) : sumP l (c :: r) = (1 + (cnt c l : Int)) + sumP l r := by
  unfold sumP withN
  simp only [List.map_cons, List.sum_cons, List.length_cons]
  omega

def piecesAll (p : Int) (l : List Ch) : Int × Bool := if goodB p l = true then ((l.length : Int) + 2 * (pairsN l : Int), true) else (0, false)
theorem all_spec (p : Int) (l : List Ch) (hl : l.length ≤ 1048576) : Ev (fun k => spec_CountPieces.f k p l) (piecesAll p l) := by
  unfold spec_CountPieces.f
  refine Ev.bindk (cdGood_ev p l (by omega)) ?_
  by_cases hg : goodB p l = true
  · obtain ⟨hp, h40, hv⟩ := good_ok hg
    refine Ev.pos hg ?_
    have e := Ev.scan0 (fun k i (acc : Int) => spec_CountPieces.l0 k l acc (l.length : Int) i) l (fun rest acc => (acc + sumP l rest, true)) (fun i acc => 0 ≤ acc ∧ acc ≤ i * 41)
      (fun acc hp => by
        refine Ev.step (fun k => by rw [spec_CountPieces.l0]) ?_
        exact Ev.neg (by omega) (Ev.val (by simp [sumP, withN])))
      (fun i h acc hp => by
        have hc := cnt_le l[i] l
        refine .inl ⟨acc + (1 + (cnt l[i] l : Int)), ⟨by omega, by omega⟩, by rw [sumP_cons]; simp only [Prod.mk.injEq, and_true]; omega, fun r hr2 => ?_⟩
        refine Ev.step (fun k => by rw [spec_CountPieces.l0]) ?_
        refine Ev.pos (by omega) (Ev.bindk (rePieces_ev l i h h40 (fun c hc => (hv c hc).2.1)) ?_)
        rw [w64 (x := (i : Int) + 1) (by omega) (by omega), w64 (by omega) (by omega)]
        exact hr2)
      0 ⟨by omega, by omega⟩
    rw [piecesAll, if_pos hg]
    have e2 : sumP l l = (l.length : Int) + 2 * (pairsN l : Int) := by
      unfold sumP
      rw [withN_self]
      omega
    rw [e2, Int.zero_add] at e
    exact e
  · refine Ev.neg hg (Ev.val ?_)
    rw [piecesAll, if_neg hg]
theorem all_impl (p : Int) (l : List Ch) (hl : l.length ≤ 1048576) : Ev (fun k => impl_CountPieces.f k p l) (piecesAll p l) := by
  unfold impl_CountPieces.f
  refine Ev.bindk (isSet_ev p l (by omega)) ?_
  by_cases hg : goodB p l = true
  · obtain ⟨hp, h40, hv⟩ := good_ok hg
    have hn := pairsN_le l
    have : l.length * l.length ≤ 40 * 40 := Nat.mul_le_mul h40 h40
    refine Ev.pos hg (Ev.bindk (crossings_ev l h40) (Ev.val ?_))
    rw [w64 (x := 2 * (pairsN l : Int)) (by omega) (by omega), w64 (by omega) (by omega), piecesAll, if_pos hg]
  · refine Ev.neg hg (Ev.val ?_)
    rw [piecesAll, if_neg hg]

theorem FnExactCountPieces : ∀ (a0 : Int) (l1 : List S62), (Lit.int .i64 a0).wf = true → l1.length ≤ maxLen → (∀ x ∈ l1, (Lit.int .i64 x.f0).wf = true ∧ (Lit.int .i64 x.f1).wf = true) → ∃ k, laws_FnExactCountPieces.f k a0 l1 = some true := by
  intro a0 l _ hm _
  refine Ev.rounds ?_
  unfold laws_FnExactCountPieces.f
  by_cases hl : l.length ≤ 1048576
  · have hml : (l.map toC).length ≤ 1048576 := by simpa using hl
    refine Ev.bindc (szC_small l hl) (Ev.neg (by omega) ?_)
    refine Ev.bindk (toC_ev l hl) (Ev.bindk (all_spec a0 _ hml) (Ev.bindk (toC_ev l hl) (Ev.bindk (all_impl a0 _ hml) ?_)))
    refine Ev.pos rfl ?_
    refine Ev.step (fun k => by rw [laws_FnExactCountPieces.j0]) ?_
    refine Ev.neg (by simp) (Ev.bindk (toC_ev l hl) (Ev.bindk (eqC_ev _ (by omega)) (Ev.pos rfl (Ev.now true))))
  · exact Ev.bindc (szC_big l (by omega) hm) (Ev.pos (by omega) (Ev.now true))
end Go.Proofs.Ytijhoifcpijeiaa.Pure

/- Shared steps of the rows: an argument that is a slice of structs of whole numbers, read as a list of lists of numbers. -/
namespace Go.Proofs.Ytijhoifcpijeiaa.RowA
open Go.ChangeShapes Go.WideShapes Go.Deep Go.RowKit Go.Proofs.YtijhoifcpijeiaaW.PrintWords
section
variable {H : Type} {enc : TypeId × Value → H} {P : Program} {w : World} {base : Nat} {spare : Nat → Bool} {held : Bool}

/-- A slice of structs whose fields are one cell each: nil, or an address with, for each element and each field, the cell and the field's own reading. -/
theorem open_cells {t e : TypeId} {fs : Array Field} {fuel : Nat} {cs : List Value} {x : DataW H × List MemPlace} (ht : P.underlying t = some (.slice e)) (he : P.underlying e = some (.struct fs))
    (hone : oneCellFields P fs = true) (hC : P.cellsOf e = fs.size) (h : DataW.trod enc P w base spare held fuel t cs = some x) :
    cs = [.slice none 0 0] ∨
    ∃ (a : Addr) (len cap : Nat), cs = [.slice (some a) len cap] ∧ len ≤ cap ∧ cap ≤ maxLen ∧
      ∀ i, i < len → ∃ n, ∀ (j : Nat) (f : Field), fs[j]? = some f → ∃ (v : Value) (y : DataW H × List MemPlace), w.cell? (a.add (i * fs.size + j)) = some v ∧ DataW.trod enc P w base spare held n f.type [v] = some y := by
  rcases open_slice ht h with h0 | ⟨a, len, cap, m, n, D, Pl, hcs, hb, hl, hm, hmm, hx, hi⟩
  · exact .inl h0.1
  · refine .inr ⟨a, len, cap, hcs, hl, hm, fun i hil => ?_⟩
    have him : i < m := by
      rw [hmm]
      split
      · omega
      · exact hil
    obtain ⟨cs', hc, ht'⟩ := hi i him
    rw [hC] at hc
    obtain ⟨ys, n', hn', hy, hlen, hyl, hf⟩ := DataW.trod_struct he ht'
    obtain ⟨_, hcl, hat⟩ := World.cells?_some hc
    refine ⟨n', fun j f hj => ?_⟩
    obtain ⟨ho, hk⟩ := hone_of hone j f hj
    have hjl : j < fs.size := (Array.getElem?_eq_some_iff.1 hj).1
    have hcell := hat j hjl
    have hv : cs'[j]? = some (cs'[j]'(by omega)) := List.getElem?_eq_getElem (by omega)
    have h1 := hf j f hj
    rw [ho, hk] at h1
    have hone' : (cs'.drop j).take 1 = [cs'[j]'(by omega)] := by
      rw [List.drop_eq_getElem_cons (by omega)]
      rfl
    rw [hone'] at h1
    have hys : ys[j]? = some (ys[j]'(by omega)) := List.getElem?_eq_getElem (by omega)
    refine ⟨_, _, ?_, h1.trans hys⟩
    rw [← Go.Deep.add_add, hcell, hv]

/-- One whole number's reading. -/
theorem read_i64 {t : TypeId} {n : Nat} {v : Value} {y : DataW H × List MemPlace} (hu : P.underlying t = some (.int .i64)) (h : DataW.trod enc P w base spare held n t [v] = some y) :
    ∃ z : Int, v = .int .i64 z ∧ (Lit.int .i64 z).wf = true := by
  obtain ⟨z, hz, _, hw⟩ := DataW.trod_int hu h
  simp at hz
  exact ⟨z, hz, hw⟩

/-- A slice of structs of m whole numbers, as it is handed over: the numbers by element and field. -/
theorem open_nums {t e : TypeId} {fs : Array Field} {a : Option Addr} {len cap : Nat} {d : DataW H} {ps : List MemPlace} (ht : P.underlying t = some (.slice e)) (he : P.underlying e = some (.struct fs))
    (hone : oneCellFields P fs = true) (hC : P.cellsOf e = fs.size) (hi : ∀ (j : Nat) (f : Field), fs[j]? = some f → P.underlying f.type = some (.int .i64))
    (h : DataW.Trod enc P w base spare held t (.slice a len cap) d ps) :
    len ≤ cap ∧ len ≤ maxLen ∧ ∃ z : Nat → Nat → Int, (∀ i j, i < len → j < fs.size → (Lit.int .i64 (z i j)).wf = true) ∧
      (0 < len → ∃ ad, a = some ad ∧ ∀ i j, i < len → j < fs.size → w.cell? (ad.add (i * fs.size + j)) = some (.int .i64 (z i j))) := by
  obtain ⟨fuel, hf⟩ := h
  rcases open_cells ht he hone hC hf with hcs | ⟨x, l, c, hcs, hl, hm, hcell⟩
  · simp [Value.cells] at hcs
    obtain ⟨rfl, rfl, rfl⟩ := hcs
    exact ⟨Nat.le_refl _, Nat.zero_le _, fun _ _ => 0, fun i j h => absurd h (Nat.not_lt_zero _), fun h => absurd h (Nat.not_lt_zero _)⟩
  · simp [Value.cells] at hcs
    obtain ⟨rfl, rfl, rfl⟩ := hcs
    refine ⟨hl, Nat.le_trans hl hm, ?_⟩
    have hz : ∀ i j, ∃ z : Int, i < len → j < fs.size → w.cell? (x.add (i * fs.size + j)) = some (.int .i64 z) ∧ (Lit.int .i64 z).wf = true := by
      intro i j
      by_cases h1 : i < len
      · by_cases h2 : j < fs.size
        · obtain ⟨n, hn⟩ := hcell i h1
          obtain ⟨v, y, hv, hy⟩ := hn j fs[j] (Array.getElem?_eq_getElem h2)
          obtain ⟨z, rfl, hw⟩ := read_i64 (hi j fs[j] (Array.getElem?_eq_getElem h2)) hy
          exact ⟨z, fun _ _ => ⟨hv, hw⟩⟩
        · exact ⟨0, fun _ h => absurd h h2⟩
      · exact ⟨0, fun h _ => absurd h h1⟩
    exact ⟨fun i j => (hz i j).choose, fun i j h1 h2 => ((hz i j).choose_spec h1 h2).2, fun _ => ⟨x, rfl, fun i j h1 h2 => ((hz i j).choose_spec h1 h2).1⟩⟩
end
end Go.Proofs.Ytijhoifcpijeiaa.RowA

/- The row of the law FnExactCountPieces: The program's CountPieces returns what the reference's returns, for all arguments. -/
namespace Go.Proofs.Ytijhoifcpijeiaa.fnExactCountPieces
open Go.ChangeShapes Go.WideShapes Go.ChangeAt Go.RowKit Go.Proofs.Ytijhoifcpijeiaa.Pr Go.Proofs.YtijhoifcpijeiaaW.PrintWords
open Go.ChangeMaps (open_string shut_string)
set_option linter.unusedVariables false
theorem own : ownKnob Try.prog.godebug = none := by kernel_rfl
theorem laidOut : laidOutB Try.prog = true := by kernel_rfl
theorem rows62 {W : World} {a : Option Addr} {len cap : Nat} {z : Nat → Nat → Int} (hm : len ≤ maxLen) (hz : 0 < len → ∃ ad, a = some ad ∧ ∀ i j, i < len → j < 2 → W.cell? (ad.add (i * 2 + j)) = some (.int .i64 (z i j)))
    (hw : ∀ i j, i < len → j < 2 → (Lit.int .i64 (z i j)).wf = true) : ∃ l : List S62, l.length = len ∧ Kd.C k62 W a l.length l ∧ ∀ x ∈ l, (Lit.int .i64 x.f0).wf = true ∧ (Lit.int .i64 x.f1).wf = true := by
  have hl : ((List.range len).map fun i => (⟨z i 0, z i 1⟩ : S62)).length = len := by simp
  refine ⟨(List.range len).map fun i => (⟨z i 0, z i 1⟩ : S62), hl, ⟨rfl, by rw [hl]; unfold maxLen at hm; omega, fun hn => ?_⟩, fun x hx => ?_⟩
  · obtain ⟨ad, e, hc⟩ := hz (by rw [hl] at hn; exact hn)
    refine ⟨ad, e, fun j p hj => ?_⟩
    have hjl : j < len := by have := (List.getElem?_eq_some_iff.1 hj).1; rw [hl] at this; exact this
    have hp : p = (⟨z j 0, z j 1⟩ : S62) := by
      rw [List.getElem?_map, List.getElem?_range hjl] at hj
      exact (Option.some.inj hj).symm
    subst hp
    refine ⟨[.int .i64 (z j 0), .int .i64 (z j 1)], rfl, k62_mk W (⟨z j 0, z j 1⟩ : S62), fun i u hi => ?_⟩
    have hi2 : i < 2 := by have := (List.getElem?_eq_some_iff.1 hi).1; exact this
    have hcell := hc j i hjl hi2
    match i, hi2, hi with
    | 0, _, hi => (obtain rfl := Option.some.inj hi; exact hcell)
    | 1, _, hi => (obtain rfl := Option.some.inj hi; exact hcell)
  · obtain ⟨i, hi, rfl⟩ := List.mem_map.1 hx
    have hil := List.mem_range.1 hi
    exact ⟨hw i 0 hil (by decide), hw i 1 hil (by decide)⟩
set_option maxRecDepth 100000 in
theorem lifted (os : Os) (started : os.Started) (H : Type) (enc : TypeId × Value → H) :
    ReturnsInHanded {} Try.checked os 9 .any (Rows.fnExactCountPiecesSpec.pre6 enc Try.prog Try.f9 Rows.fnExactCountPiecesRow.domain false) (Rows.fnExactCountPiecesSpec.post enc Try.prog Try.f9 false true false false) := by
  refine returnsInHanded_of_change_sized (C := Try.checked) own started (by kernel_rfl) Try.func9
    (ChangeSpec.witness6 (enc := enc) (C := Try.checked) false ⟨#[], #[.int .i64 0, .slice none 0 0], []⟩ 8 (by kernel_rfl) (by kernel_rfl) (by kernel_rfl) (by kernel_rfl)) ?_
  intro W base args ds gs before hval0 hW hcnd hsz0 _
  have hsz : (DataW.weightsEach Try.prog (Try.f9.params.toList ++ Rows.fnExactCountPiecesSpec.plain.varTypes Try.prog) (ds ++ gs)).all (· ≤ reachBytes) = true := hsz0
  have hval : ∀ (j : Nat) t v, Try.f9.params[j]? = some t → args[j]? = some v → Value.okWide Try.prog W .any base t v := hval0
  have hW' := hW
  obtain ⟨p, q, hA0, hV, rfl, hfz, hnd⟩ := hW
  have hA : DataW.TrodAll enc Try.prog W 0 (fun _ => true) true Try.f9.params.toList args.toList ds p := hA0
  rw [Try.params9] at hA hval hsz
  obtain ⟨v0, vs0, d0, ds0, p0, q0, hargs, rfl, rfl, h0, r0⟩ := trodAll_cons hA
  obtain ⟨v1, vs1, d1, ds1, p1, q1, rfl, rfl, rfl, h1, r1⟩ := trodAll_cons r0
  obtain ⟨rfl, rfl, rfl⟩ := trodAll_nil r1
  obtain rfl : args = #[v0, v1] := by cases args; simp_all
  obtain ⟨rfl, rfl⟩ := trodVars_none hV
  obtain ⟨a0, rfl, rfl, rfl, w0⟩ := open_int Try.underlying3 (hval 0 3 v0 rfl rfl) h0
  obtain ⟨b1, len1, cap1, rfl⟩ := okWide_slice Try.underlying25 (hval 1 25 v1 rfl rfl)
  have lt1 : ∀ x ∈ p1, x.block < W.heap.size := by obtain ⟨m, hm⟩ := h1; exact DataW.trod_lt m _ _ _ hm
  obtain ⟨hl1, hm1, z1, hw1, hz1⟩ := RowA.open_nums Try.underlying25 Try.underlying62 (by kernel_rfl) (by kernel_rfl) (fun j f hj => by first | (match j, hj with | 0, hj => (cases hj; exact Try.underlying3) | 1, hj => (cases hj; exact Try.underlying3) | j + 2, hj => simp at hj) | skip) h1
  obtain ⟨l1, hn1, hr1, hf1⟩ := rows62 (cap := cap1) hm1 hz1 hw1
  subst hn1
  clear hA0 hval0 hsz0 hsz
  obtain ⟨k, hk⟩ := Pure.FnExactCountPieces a0 l1 w0 hm1 hf1
  refine (laws_FnExactCountPieces.calls k a0 _ _ l1 true W hr1 hl1 hk).mono fun e W' he => ?_
  obtain ⟨he, bel0⟩ := he
  have bel : Below W.heap.size W W' := bel0
  subst he
  exact ⟨_, rfl, _, _, _, [], _, [], hW', trodAll_mk1 (shut_bool Try.underlying4 _), (trodAll_cons_mk (shut_int Try.underlying3 w0) (trodAll_cons_mk (Below.trod laidOut (by kernel_rfl) (of_decide_eq_true (by kernel_rfl)) h1 bel lt1) trodAll_mk0)), rfl, bel.frame _, fun h => by cases h⟩
theorem over : Rows.fnExactCountPiecesRow.holds Try.pinned (OpenSpec.ofChange Rows.fnExactCountPiecesSpec) :=
  OpenClaim.holds_of_wide 9 Try.f9 rfl rfl rfl rfl rfl rfl rfl ⟨rfl, rfl, rfl, rfl, rfl⟩ rfl rfl rfl rfl rfl (by kernel_rfl) Try.func9 (by kernel_rfl)
    (of_decide_eq_true (by kernel_rfl)) (by unfold Func.isWrapper; first | (rw [if_pos (by decide +kernel)]; kernel_rfl) | (rw [if_neg (by decide +kernel)]; exact ⟨rfl, rfl⟩))
    (fun os started H enc _ => lifted os started H enc)
theorem proved : Rows.FnExactCountPiecesSaid := over
end Go.Proofs.Ytijhoifcpijeiaa.fnExactCountPieces
namespace Go.Proofs.Ytijhoifcpijeiaa
/-- The row, under a short name, for the claim. -/
theorem fnExactCountPieces_holds : Rows.FnExactCountPiecesSaid := fnExactCountPieces.proved
#print axioms fnExactCountPieces_holds
end Go.Proofs.Ytijhoifcpijeiaa
