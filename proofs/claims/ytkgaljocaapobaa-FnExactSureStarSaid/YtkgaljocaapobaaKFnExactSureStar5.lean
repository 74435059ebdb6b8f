/- The program's SureStar returns what the reference's returns, for all arguments. Condition: none. -/
import Derived.Test.YtkgaljocaapobaaRows
import Derived.WalkKit
import Derived.ProofKit
import Derived.OpenShut
import Derived.ShutString
import Derived.ChangeOld
import Derived.Below
import Derived.Carry
import Derived.SizedLaws
import Derived.ChangeSlices
import Derived.Lib.SmallJoins
import Derived.Test.YtkgaljocaapobaaKFnExactSureStar0
import Derived.Test.YtkgaljocaapobaaKFnExactSureStar1
import Derived.Test.YtkgaljocaapobaaKFnExactSureStar2
import Derived.Test.YtkgaljocaapobaaKFnExactSureStar3
import Derived.Test.YtkgaljocaapobaaKFnExactSureStar4
set_option linter.unusedVariables false
set_option linter.unusedSimpArgs false
/- The row of the law FnExactSureStar: The program's SureStar returns what the reference's returns, for all arguments. -/
namespace Go.Proofs.Ytkgaljocaapobaa.fnExactSureStar
open Go.ChangeShapes Go.WideShapes Go.ChangeAt Go.RowKit Go.Proofs.Ytkgaljocaapobaa.Pr Go.Proofs.YtkgaljocaapobaaW.PrintWords
open Go.ChangeMaps (open_string shut_string)
theorem own : ownKnob Try.prog.godebug = none := by kernel_rfl
theorem laidOut : laidOutB Try.prog = true := by kernel_rfl
theorem rows72 {W : World} {a : Option Addr} {len cap : Nat} {z : Nat → Nat → Int} (hm : len ≤ maxLen) (hz : 0 < len → ∃ ad, a = some ad ∧ ∀ i j, i < len → j < 3 → W.cell? (ad.add (i * 3 + j)) = some (.int .i64 (z i j)))
    (hw : ∀ i j, i < len → j < 3 → (Lit.int .i64 (z i j)).wf = true) : ∃ l : List S72, l.length = len ∧ Kd.C k72 W a l.length l ∧ ∀ x ∈ l, (Lit.int .i64 x.f0).wf = true ∧ (Lit.int .i64 x.f1).wf = true ∧ (Lit.int .i64 x.f2).wf = true := by
  have hl : ((List.range len).map fun i => (⟨z i 0, z i 1, z i 2⟩ : S72)).length = len := by simp
  refine ⟨(List.range len).map fun i => (⟨z i 0, z i 1, z i 2⟩ : S72), hl, ⟨rfl, by rw [hl]; unfold maxLen at hm; omega, fun hn => ?_⟩, fun x hx => ?_⟩
  · obtain ⟨ad, e, hc⟩ := hz (by rw [hl] at hn; exact hn)
    refine ⟨ad, e, fun j p hj => ?_⟩
    have hjl : j < len := by have := (List.getElem?_eq_some_iff.1 hj).1; rw [hl] at this; exact this
    have hp : p = (⟨z j 0, z j 1, z j 2⟩ : S72) := by
      rw [List.getElem?_map, List.getElem?_range hjl] at hj
      exact (Option.some.inj hj).symm
    subst hp
    refine ⟨[.int .i64 (z j 0), .int .i64 (z j 1), .int .i64 (z j 2)], rfl, k72_mk W (⟨z j 0, z j 1, z j 2⟩ : S72), fun i u hi => ?_⟩
    have hi2 : i < 3 := by have := (List.getElem?_eq_some_iff.1 hi).1; exact this
    have hcell := hc j i hjl hi2
    match i, hi2, hi with
    | 0, _, hi => (obtain rfl := Option.some.inj hi; exact hcell)
    | 1, _, hi => (obtain rfl := Option.some.inj hi; exact hcell)
    | 2, _, hi => (obtain rfl := Option.some.inj hi; exact hcell)
  · obtain ⟨i, hi, rfl⟩ := List.mem_map.1 hx
    have hil := List.mem_range.1 hi
    exact ⟨hw i 0 hil (by decide), hw i 1 hil (by decide), hw i 2 hil (by decide)⟩
set_option maxRecDepth 100000 in
theorem lifted (os : Os) (started : os.Started) (H : Type) (enc : TypeId × Value → H) :
    ReturnsInHanded {} Try.checked os 6 .any (Rows.fnExactSureStarSpec.pre6 enc Try.prog Try.f6 Rows.fnExactSureStarRow.domain false) (Rows.fnExactSureStarSpec.post enc Try.prog Try.f6 false true false false) := by
  refine returnsInHanded_of_change_sized (C := Try.checked) own started (by kernel_rfl) Try.func6
    (ChangeSpec.witness6 (enc := enc) (C := Try.checked) false ⟨#[], #[.agg #[.slice none 0 0]], []⟩ 8 (by kernel_rfl) (by kernel_rfl) (by kernel_rfl) (by kernel_rfl)) ?_
  intro W base args ds gs before hval0 hW hcnd hsz0 _
  have hsz : (DataW.weightsEach Try.prog (Try.f6.params.toList ++ Rows.fnExactSureStarSpec.plain.varTypes Try.prog) (ds ++ gs)).all (· ≤ reachBytes) = true := hsz0
  have hval : ∀ (j : Nat) t v, Try.f6.params[j]? = some t → args[j]? = some v → Value.okWide Try.prog W .any base t v := hval0
  have hW' := hW
  obtain ⟨p, q, hA0, hV, rfl, hfz, hnd⟩ := hW
  have hA : DataW.TrodAll enc Try.prog W 0 (fun _ => true) true Try.f6.params.toList args.toList ds p := hA0
  rw [Try.params6] at hA hval hsz
  obtain ⟨v0, vs0, d0, ds0, p0, q0, hargs, rfl, rfl, h0, r0⟩ := trodAll_cons hA
  obtain ⟨rfl, rfl, rfl⟩ := trodAll_nil r0
  obtain rfl : args = #[v0] := by cases args; simp_all
  obtain ⟨rfl, rfl⟩ := trodVars_none hV
  have lt0 : ∀ x ∈ p0, x.block < W.heap.size := by obtain ⟨m, hm⟩ := h0; exact DataW.trod_lt m _ _ _ hm
  have hh0 := h0
  obtain ⟨b0, len0, cap0, y0, n0, rfl, g0⟩ := RowA.open_one Try.underlying24 Try.underlying22 (by kernel_rfl) (by kernel_rfl) (hval 0 24 v0 rfl rfl) h0
  obtain ⟨hl0, hm0, z0, hw0, hz0⟩ := RowA.open_nums_at Try.underlying22 Try.underlying72 (by kernel_rfl) (by kernel_rfl) (fun j f hj => by first | (match j, hj with | 0, hj => (cases hj; exact Try.underlying3) | 1, hj => (cases hj; exact Try.underlying3) | 2, hj => (cases hj; exact Try.underlying3) | j + 3, hj => simp at hj) | skip) g0
  obtain ⟨l0, hn0, hr0, hf0⟩ := rows72 (cap := cap0) hm0 hz0 hw0
  subst hn0
  clear hA0 hval0 hsz0 hsz
  obtain ⟨k, hk⟩ := Pure.FnExactSureStar l0 hm0 hf0
  refine (laws_FnExactSureStar.calls k _ _ l0 true W hr0 hl0 hk).mono fun e W' he => ?_
  obtain ⟨he, bel0⟩ := he
  have bel : Below W.heap.size W W' := bel0
  subst he
  exact ⟨_, rfl, _, _, _, [], _, [], hW', trodAll_mk1 (shut_bool Try.underlying4 _), (trodAll_cons_mk (Below.trod laidOut (by kernel_rfl) (of_decide_eq_true (by kernel_rfl)) hh0 bel lt0) trodAll_mk0), rfl, bel.frame _, fun h => by cases h⟩
theorem over : Rows.fnExactSureStarRow.holds Try.pinned (OpenSpec.ofChange Rows.fnExactSureStarSpec) :=
  OpenClaim.holds_of_wide 6 Try.f6 rfl rfl rfl rfl rfl rfl rfl ⟨rfl, rfl, rfl, rfl, rfl⟩ rfl rfl rfl rfl rfl (by kernel_rfl) Try.func6 (by kernel_rfl)
    (of_decide_eq_true (by kernel_rfl)) (by unfold Func.isWrapper; first | (rw [if_pos (by decide +kernel)]; kernel_rfl) | (rw [if_neg (by decide +kernel)]; exact ⟨rfl, rfl⟩))
    (fun os started H enc _ => lifted os started H enc)
theorem proved : Rows.FnExactSureStarSaid := over
end Go.Proofs.Ytkgaljocaapobaa.fnExactSureStar
namespace Go.Proofs.Ytkgaljocaapobaa
/-- The row, under a short name, for the claim. -/
theorem fnExactSureStar_holds : Rows.FnExactSureStarSaid := fnExactSureStar.proved
#print axioms fnExactSureStar_holds
end Go.Proofs.Ytkgaljocaapobaa
