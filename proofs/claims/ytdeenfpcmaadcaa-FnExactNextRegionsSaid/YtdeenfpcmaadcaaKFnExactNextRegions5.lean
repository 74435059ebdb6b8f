/- The program's NextRegions returns what the reference's returns, for all arguments. Condition: none. -/
import Derived.Deep.CutRange
import Derived.Deep.Slices
import Derived.Deep.Fields
import Derived.ChangeSame
import Derived.ChangeShapes
import Derived.Below
import Derived.Carry
import Derived.Lib.SmallJoins
import Derived.RowKit
import Derived.OpenShut
import Derived.Test.YtdeenfpcmaadcaaRows
import Derived.WalkKit
import Derived.ProofKit
import Derived.ShutString
import Derived.ChangeOld
import Derived.SizedLaws
import Derived.ChangeSlices
import Derived.Test.YtdeenfpcmaadcaaKFnExactNextRegions0
import Derived.Test.YtdeenfpcmaadcaaKFnExactNextRegions1
import Derived.Test.YtdeenfpcmaadcaaKFnExactNextRegions2
import Derived.Test.YtdeenfpcmaadcaaKFnExactNextRegions3
import Derived.Test.YtdeenfpcmaadcaaKFnExactNextRegions4
/- The program's planeRegions, by hand: all regions of a plane set, in the order of the points. -/
namespace Go.Proofs.Ytdeenfpcmaadcaa.Pr
open Go.RowKit Go.Proofs.YtdeenfpcmaadcaaW.PrintWords Go.Proofs.YtdeenfpcmaadcaaW.PrintLast Go.Proofs.YtdeenfpcmaadcaaW.PrintMore
set_option linter.unusedVariables false
set_option linter.unusedSimpArgs false
abbrev CH := S47
def mkR (q : List Int × List CH × List Int) : SR := ⟨q.1, q.2.1, q.2.2⟩
def allR (k : Nat) (l : List CH) : List CH → Option (List SR)
  | [] => some []
  | c :: cs => (impl_regionInside.f k l c.f0 c.f1 true).bind fun q => (allR k l cs).bind fun rs => some (mkR q :: rs)
theorem allR_mono (l : List CH) (k : Nat) : ∀ cs, LeO (allR k l cs) (allR (k + 1) l cs)
  | [] => LeO.refl _
  | c :: cs => LeO.bind (impl_regionInside.mono _ _ _ _ _) (fun _ => LeO.bind (allR_mono l k cs) (fun _ => LeO.refl _))
def impl_planeRegions.f (k : Nat) (a0 : Int) (l1 : List CH) : Option ((List SR) × Bool) :=
  (impl_isSet.f k a0 l1).bind fun s => if s = true then (impl_crossings.f k l1).bind fun n => if n > 0 then some ([], false) else
    if 0 ≤ a0 ∧ a0 ≤ 1000 ∧ l1.length ≤ 1000 then (impl_regionInside.f k l1 0 (a0 - 1) false).bind fun q => (allR k l1 l1).bind fun rs =>
      if ((mkR q :: rs).map (·.f0)).Nodup ∧ (∀ x ∈ mkR q :: rs, x.f0.length ≤ 1000000) then some (sortR (mkR q :: rs), true) else none
    else none
  else some ([], false)
theorem impl_planeRegions.mono : ∀ a0 a1 k, LeO (impl_planeRegions.f k a0 a1) (impl_planeRegions.f (k + 1) a0 a1) := by
  intro a0 a1 k
  unfold impl_planeRegions.f
  exact LeO.bind (impl_isSet.mono _ _ _) (fun _ => LeO.ite (LeO.bind (impl_crossings.mono _ _) (fun _ => LeO.ite (LeO.refl _) (LeO.ite (LeO.bind (impl_regionInside.mono _ _ _ _ _) (fun _ => LeO.bind (allR_mono _ _ _) (fun _ => LeO.refl _))) (LeO.refl _)))) (LeO.refl _))
section
variable {w W w3 : World} {base : Nat} {v v0 v1 v2 : Value} {xs : List SR} {r1 : List Int} {r2 : List CH} {r3 : List Int} {P0 P1 P2 : Nat → Prop}
theorem reg_M (hb : base ≤ W.heap.size) (h0 : (Kd.int .i64).R 3 w3 W.heap.size P0 v0 r1) (h1 : k47.R 47 w3 W.heap.size P1 v1 r2) (h2 : (Kd.int .i64).R 3 w3 W.heap.size P2 v2 r3) : k54.M w3 base (fun k => W.heap.size ≤ k) (mkR (r1, r2, r3)) [v0, v1, v2] :=
  k54_mkM w3 base _ (mkR (r1, r2, r3)) (Kd.R_mono (Kd.R_bound (Kd.R_lower h0 (Nat.le_refl _))) (fun k hk => hk.2.1) |> fun h => Kd.R_lower h hb) (Kd.R_mono (Kd.R_bound h1) (fun k hk => hk.2.1) |> fun h => Kd.R_lower h hb) (Kd.R_mono (Kd.R_bound h2) (fun k hk => hk.2.1) |> fun h => Kd.R_lower h hb)
theorem S_one {x : SR} {ok : Nat → Prop} (hb : base ≤ W.heap.size) (h : k54.M W base ok x [v0, v1, v2]) : Kd.S k54 54 (W.alloc (.cells #[v0, v1, v2] 54)) base (fun _ => True) (.slice (some ⟨W.heap.size, 0, none⟩) 1 1) [x] := by
  have hb1 : (W.alloc (.cells #[v0, v1, v2] 54)).heap[W.heap.size]? = some (.cells #[v0, v1, v2] 54 (0, 0)) := by
    show (W.heap.push _)[W.heap.size]? = _
    exact Array.getElem?_push_size
  exact S_shut (d := k54) (e := 54) (W := W.alloc (.cells #[v0, v1, v2] 54)) (base := base) (g := W.heap.size) (cap := 1) (cur := #[v0, v1, v2]) (cs := [([v0, v1, v2], (x, 0))]) (f := fun _ => 0) trivial hb hb1 (Nat.le_refl 1) (by unfold maxLen; omega) rfl (by simp)
    (fun c hc => by
      rw [List.mem_singleton.1 hc]
      exact Kd.M_below (k54.M_mono (fun k hk => ⟨⟨trivial, by have := hk.2.2.1; omega⟩, rfl⟩) (k54.M_bound h)) (below_alloc (Below.refl _ _) _))
    (fun j hj i hi => by
      obtain rfl : j = 0 := by simpa using hj
      rw [blk_cell hb1]
      simp)
/-- A region that was made, beside those that were there. -/
structure PB (w w3 : World) (N : Nat) (v : Value) (xs : List SR) (v0 v1 v2 : Value) (x : SR) : Prop where
  so : Kd.S k54 54 w3 w.heap.size (fun k => True ∧ ¬ (N ≤ k)) v xs
  m : k54.M w3 w.heap.size (fun k => N ≤ k) x [v0, v1, v2]
  ne : ∀ k, N ≤ k → True ∧ some k ≠ v.ownBlock
  bl : Below w.heap.size w w3
theorem PB.of {o : Obj} (hB : Below w.heap.size w W) (hS : Kd.S k54 54 W w.heap.size (fun _ => True) v xs) (hb : Below (W.alloc o).heap.size (W.alloc o) w3)
    (h0 : (Kd.int .i64).R 3 w3 (W.alloc o).heap.size P0 v0 r1) (h1 : k47.R 47 w3 (W.alloc o).heap.size P1 v1 r2) (h2 : (Kd.int .i64).R 3 w3 (W.alloc o).heap.size P2 v2 r3) : PB w w3 (W.alloc o).heap.size v xs v0 v1 v2 (mkR (r1, r2, r3)) := by
  have hs : (W.alloc o).heap.size = W.heap.size + 1 := by simp
  have hb2 : Below W.heap.size W w3 := (below_alloc (Below.refl _ _) o).trans (hb.mono (by omega))
  refine ⟨Kd.S_mono (Kd.S_old hS hb2) (fun k hk => ⟨trivial, by omega⟩), reg_M (by have := hB.size; omega) h0 h1 h2, fun k hk => ⟨trivial, fun e => ?_⟩, below_step hB hb2⟩
  have := Kd.S_lt hS k e.symm
  omega
end
set_option maxHeartbeats 4000000 in
set_option maxRecDepth 100000 in
theorem impl_planeRegions.calls (k : Nat) (a0 : Int) (A1 : Option Addr) (c1 : Nat) (l1 : List CH) (r1 : List SR) (r2 : Bool) (w : World) (hr1 : Kd.C k47 w A1 l1.length l1) (hc1 : l1.length ≤ c1) (h : impl_planeRegions.f k a0 l1 = some (r1, r2)) :
    Calls Try.prog 35 #[.int .i64 a0, .slice A1 l1.length c1] w fun e w' => ∃ v0_ : Value, e = .returned (.tuple #[v0_, .bool r2]) ∧ Kd.S k54 54 w' w.heap.size (fun _ => True) v0_ r1 ∧ Below w.heap.size w w' := by
  obtain ⟨s, hs, h⟩ := Option.bind_eq_some_iff.mp h
  have HI := Aside0.mk (impl_isSet.calls k a0 A1 c1 l1 s w hr1 hc1 hs)
  have HR1 := Aside0.mk hr1
  have HC1 := Aside0.mk hc1
  clear hr1 hc1 hs
  cases s with
  | false =>
    rw [if_neg (by simp)] at h
    injection h with h
    injection h with h1 h2
    subst h1 h2
    go_enter Try.func35, Try.ntmps35
    go_wp2_with (go_at_call 61; refine HI.out.mono ?_; rintro e w' ⟨rfl, hb⟩)
    go_ret2
    exact ⟨_, rfl, Kd.S_nil _ _ _ _ _, hb⟩
  | true =>
    rw [if_pos rfl] at h
    obtain ⟨n, hn, h⟩ := Option.bind_eq_some_iff.mp h
    have HN := Aside0.mk (fun (W : World) (hb : Below w.heap.size w W) => impl_crossings.calls k A1 c1 l1 n W (Kd.C_below HR1.out hb) HC1.out hn)
    clear hn
    by_cases h0 : n > 0
    · rw [if_pos h0] at h
      injection h with h
      injection h with h1 h2
      subst h1 h2
      have e0 : decide (n > 0) = true := decide_eq_true h0
      have e1 : decide (0 < n) = true := decide_eq_true h0
      clear h0
      go_enter Try.func35, Try.ntmps35
      go_wp2_with (first | (go_at_call 61; refine HI.out.mono ?_; rintro e w' ⟨rfl, hb⟩; have HBa := Aside0.mk hb; clear hb) | (go_at_call 62; refine (HN.out _ HBa.out).mono ?_; rintro e w' ⟨rfl, hb⟩; have HBb := Aside0.mk (below_step HBa.out hb); clear hb))
      go_ret2
      exact ⟨_, rfl, Kd.S_nil _ _ _ _ _, HBb.out⟩
    · rw [if_neg h0] at h
      by_cases hr : 0 ≤ a0 ∧ a0 ≤ 1000 ∧ l1.length ≤ 1000
      rotate_left
      · rw [if_neg hr] at h; cases h
      rw [if_pos hr] at h
      obtain ⟨q, hq, h⟩ := Option.bind_eq_some_iff.mp h
      obtain ⟨rs, hrs, h⟩ := Option.bind_eq_some_iff.mp h
      split at h
      rotate_left
      · cases h
      rename_i hok
      injection h with h
      injection h with h1 h2
      subst h1 h2
      have e0 : decide (n > 0) = false := decide_eq_false h0
      have e1 : decide (0 < n) = false := decide_eq_false h0
      have e2 : IntKind.i64.wrap (a0 - 1) = a0 - 1 := by
        rw [i64_w]
        exact M.w64 (by omega) (by omega)
      obtain ⟨q1, q2, q3⟩ := q
      have HQ := Aside0.mk (fun (W : World) (hb : Below w.heap.size w W) => impl_regionInside.calls k A1 c1 l1 0 (a0 - 1) false q1 q2 q3 W (Kd.C_below HR1.out hb) HC1.out hq)
      obtain ⟨al, hal⟩ : ∃ al, al = mkR (q1, q2, q3) :: rs := ⟨_, rfl⟩
      rw [← hal] at hok ⊢
      have HOK := Aside0.mk hok
      have HAL := Aside0.mk (show (allR k l1 (l1.drop 0)).bind (fun rs => some ([mkR (q1, q2, q3)] ++ rs)) = some al by rw [List.drop_zero, hrs, hal]; rfl)
      have HL := Aside0.mk hr
      have hlen : l1.length ≤ 1000 := hr.2.2
      clear h0 hq hrs hok hal hr
      go_enter Try.func35, Try.ntmps35
      go_wp2_with (first | (go_at_call 61; refine HI.out.mono ?_; rintro e w' ⟨rfl, hb⟩; have HBa := Aside0.mk hb; clear hb) | (go_at_call 62; refine (HN.out _ HBa.out).mono ?_; rintro e w' ⟨rfl, hb⟩; have HBb := Aside0.mk (below_step HBa.out hb); clear hb) | (go_at_call 63; refine (HQ.out _ HBb.out).mono ?_; rintro e w3 ⟨v0, v1, v2, rfl, g0, g1, g2, hb⟩; have HBc := Aside0.mk (below_alloc (below_step HBb.out hb) (.cells #[v0, v1, v2] 54)); have HS := Aside0.mk (S_one (Nat.le_trans HBb.out.size hb.size) (reg_M HBb.out.size g0 g1 g2)); clear hb g0 g1 g2))
      clear e0 e1 e2
      obtain ⟨N, hN⟩ : ∃ N, N = l1.length := ⟨_, rfl⟩
      go_loopg [6, 26] N (fun gg v6 v26 W => ∃ (j : Nat) (xs : List SR), v26 = .int .i64 j ∧ Aside0 (j + gg = N) ∧ Aside0 (Below w.heap.size w W) ∧ Aside0 (Kd.S k54 54 W w.heap.size (fun _ => True) v6 xs) ∧ Aside0 (xs.length = j + 1) ∧ Aside0 ((allR k l1 (l1.drop j)).bind (fun rs => some (xs ++ rs)) = some al))
      case atStart => exact ⟨0, [mkR (q1, q2, q3)], by first | rfl | (simp; done), ⟨by omega⟩, HBc, HS, ⟨rfl⟩, HAL⟩
      case round =>
        clear HBc HS HAL HI HN HQ HBa HBb
        obtain ⟨j, xs, rfl, HG, HB, HS, HXL, HA⟩ := hrel
        have hN2 : (N : Int) = (l1.length : Int) := by omega
        by_cases hj : j < N
        · have hjl : j < l1.length := by omega
          have e1 : decide ((j : Int) < (l1.length : Int)) = true := decide_eq_true (by omega)
          have e2 : IntKind.i64.wrap ((j : Int) + 1) = ((j + 1 : Nat) : Int) := by
            rw [i64_w]
            exact M.w64 (by omega) (by omega)
          obtain ⟨gm, rfl⟩ : ∃ gm, gk = gm + 1 := ⟨gk - 1, by have := HG.out; omega⟩
          obtain ⟨c, hc⟩ : ∃ c, c = l1[j] := ⟨_, rfl⟩
          have hA := HA.out
          rw [List.drop_eq_getElem_cons hjl, ← hc, allR] at hA
          obtain ⟨rs', hA, hA2⟩ := Option.bind_eq_some_iff.mp hA
          obtain ⟨⟨p1, p2, p3⟩, hp, hA⟩ := Option.bind_eq_some_iff.mp hA
          obtain ⟨rs2, hA3, hA⟩ := Option.bind_eq_some_iff.mp hA
          injection hA with hA
          subst hA
          have HA2 := Aside0.mk (show (allR k l1 (l1.drop (j + 1))).bind (fun rs => some ((xs ++ [mkR (p1, p2, p3)]) ++ rs)) = some al by
            rw [hA3, ← hA2]
            simp)
          have HP := Aside0.mk (fun (W : World) (hb : Below w.heap.size w W) => impl_regionInside.calls k A1 c1 l1 c.f0 c.f1 true p1 p2 p3 W (Kd.C_below HR1.out hb) HC1.out hp)
          obtain ⟨ad, ea, x0, x1⟩ := at_T47 (Kd.C_below HR1.out HB.out) (j : Int) (by omega) (by omega)
          rw [M.rd_ch l1 j hjl, ← hc] at x0 x1
          rw [Int.toNat_natCast] at x0 x1
          cases ea
          clear hc hA2 hA3 hp HA
          go_wp2_with (first | (go_at_call 63; refine (HP.out _ (below_alloc HB.out _)).mono ?_; rintro e w3 ⟨v0, v1, v2, rfl, g0, g1, g2, hb⟩; have HPB := Aside0.mk (PB.of HB.out HS.out hb g0 g1 g2); clear hb g0 g1 g2) | ((with_reducible refine gate_builtin (b := .append) (xs := #[.tmp 30, .tmp 34]) rfl ?_); at_builtin; refine Kd.S_append k54 (w0 := w) w.heap.size rfl (.tmp 30) (.tmp 34) 50 54 (.agg #[.slice none 0 0, .slice none 0 0, .slice none 0 0]) 72 rfl Try.underlying50 info54 rfl (by decide) (by omega) _ xs (mkR (p1, p2, p3)) [v0, v1, v2] (fun _ => True) _ rfl rfl HPB.out.m HPB.out.ne (fun _ _ => trivial) HPB.out.so HPB.out.bl HPB.out.bl.size ?hl1 ?_; (case hl1 => have := HXL.out; omega); intro v7 w7 hs7 hb7 hg7 hat7; have HS7 := Aside0.mk hs7; have HB7 := Aside0.mk hb7; clear hs7 hb7 hg7 hat7))
          go_roundg gm
          case measure => omega
          case rel => exact ⟨j + 1, xs ++ [mkR (p1, p2, p3)], by first | rfl | (simp; done), ⟨by have := HG.out; omega⟩, HB7, HS7, ⟨by rw [List.length_append, HXL.out]; rfl⟩, HA2⟩
        · have hA := HA.out
          have e1 : decide ((j : Int) < (l1.length : Int)) = false := decide_eq_false (by omega)
          have e1' : decide (j < l1.length) = false := decide_eq_false (by omega)
          have hxl : xs.length ≤ 1000000 := by have := HXL.out; have := HG.out; omega
          have hxn : xs ≠ [] := fun e => by have := HXL.out; rw [e] at this; simp at this
          rw [List.drop_eq_nil_of_le (by omega), allR, Option.bind_some, List.append_nil] at hA
          injection hA with hA
          subst hA
          have HX := Aside0.mk (show xs.length ≤ 1000000 ∧ xs ≠ [] from ⟨hxl, hxn⟩)
          clear HA hj hxl hxn
          go_wp2_with (go_at_call 64; refine (sort_region w.heap.size (fun _ => True) _ xs _ HS.out HB.out.size HX.out.2 HX.out.1 HOK.out.2 HOK.out.1).mono ?_; rintro e w8 ⟨rfl, hs8, hb8⟩; have HS8 := Aside0.mk hs8; have HB8 := Aside0.mk (HB.out.trans hb8); clear hs8 hb8)
          go_ret2
          exact ⟨_, by first | rfl | (simp; done), HS8.out, HB8.out⟩
end Go.Proofs.Ytdeenfpcmaadcaa.Pr

-- Written by a program for this claim.
namespace Go.Proofs.Ytdeenfpcmaadcaa.Pr
open Go.RowKit Go.Proofs.YtdeenfpcmaadcaaW.PrintWords Go.Proofs.YtdeenfpcmaadcaaW.PrintLast Go.Proofs.YtdeenfpcmaadcaaW.PrintMore
attribute [local go_sem] max2_int min2_int max_two min_two max_three min_three max_four min_four   -- for this text's walks alone
set_option linter.unusedVariables false
set_option linter.unusedSimpArgs false

/-! ### impl_NextRegions: function 31 -/
def impl_NextRegions.f (k : Nat) (a0 : Int) (l1 : List (S47)) : Option ((List (List Int)) × Bool) := (impl_planeRegions.f k a0 l1).bind fun bt240 => (if bt240.2 = true then ((impl_neighbours.f bt240.1).bind fun t244 => (some (t244, true))) else (some (([] : List (List Int)), false)))
theorem impl_NextRegions.mono : ∀ a0 a1 k, LeO (impl_NextRegions.f k a0 a1) (impl_NextRegions.f (k + 1) a0 a1) := by
  intro a0 a1 k
  unfold impl_NextRegions.f
  repeat' first
      | (with_reducible exact impl_planeRegions.mono _ _ _)
      | (with_reducible exact LeO.refl _)
      | (with_reducible exact LeO.none _)
      | (with_reducible refine LeO.ite ?_ ?_)
      | (with_reducible refine LeO.bind ?_ (fun _ => ?_))
      | exact impl_planeRegions.mono _ _ _
      | exact LeO.none _
      | refine LeO.ite ?_ ?_
      | refine LeO.bind ?_ (fun _ => ?_)
set_option maxHeartbeats 8000000 in
set_option maxRecDepth 100000 in
theorem impl_NextRegions.calls (k : Nat) (a0 : Int) (A1 : Option Addr) (c1 : Nat) (l1 : List (S47)) (r1 : List (List Int)) (r2 : Bool) (w : World) (hr1 : Kd.C k47 w A1 l1.length l1) (hc1 : l1.length ≤ c1) (h : impl_NextRegions.f k a0 l1 = some (r1, r2)) :
    Calls Try.prog 31 #[.int .i64 a0, .slice A1 l1.length c1] w fun e w' => ∃ v0_ : Value, e = .returned (.tuple #[v0_, .bool r2]) ∧ Kd.S (Kd.slice 3 (Kd.int .i64)) 24 w' w.heap.size (fun _ => True) v0_ r1 ∧ Below w.heap.size w w' := by
  have HR1 := Aside0.mk hr1
  have HC1 := Aside0.mk hc1
  clear hr1 hc1
  have HB := Aside0.mk (Below.refl w.heap.size w)
  have H : ((impl_planeRegions.f k a0 l1).bind fun bt240 => (if bt240.2 = true then ((impl_neighbours.f bt240.1).bind fun t244 => (some (t244, true))) else (some (([] : List (List Int)), false)))) = some (r1, r2) := h
  clear h
  replace H := Option.bind_eq_some_iff.mp H
  obtain ⟨⟨t240, t241⟩, A30, H⟩ := H
  replace H : (if t241 = true then ((impl_neighbours.f t240).bind fun t244 => (some (t244, true))) else (some (([] : List (List Int)), false))) = some (r1, r2) := H
  have A3 := Aside0.mk A30
  clear A30
  by_cases c4 : t241 = true
  · subst c4
    have H1 : ((impl_neighbours.f t240).bind fun t244 => (some (t244, true))) = some (r1, r2) := by rw [if_pos rfl] at H; exact H
    clear H
    have H := H1
    clear H1
    replace H := Option.bind_eq_some_iff.mp H
    obtain ⟨t244, A50, H⟩ := H
    replace H : (some (t244, true)) = some (r1, r2) := H
    have A5 := Aside0.mk A50
    clear A50
    simp only [Option.some.injEq, Prod.mk.injEq] at H
    obtain ⟨rfl, rfl⟩ := H
    go_enter Try.func31, Try.ntmps31
    go_wp2_with (first | ((with_reducible refine gate_callee (f := 35) rfl ?_); refine goesL_ (some 11) rfl rfl Try.func35 (by kernel_rfl) rfl #[.int .i64 a0, .slice A1 l1.length c1] rfl (by (try simp only [List.map_toArray, List.map_cons, List.map_nil]); first | done | rfl | (simp only [List.length_drop, List.length_take]; rfl)) ?_; (with_reducible refine (impl_planeRegions.calls k a0 _ _ l1 t240 true _ ?side1 ?side2 A3.out).mono ?_); (case side1 => repeat (first | exact HR1.out | (with_reducible refine Kd.C_alloc ?_ _) | (with_reducible refine Kd.C_drewN ?_ _) | (with_reducible refine Kd.C_drew ?_))); (case side2 => exact HC1.out); rintro e w6 ⟨v242, rfl, ho0, hb⟩; refine ⟨_, rfl, ?_⟩; have n0_ := Aside0.mk (Kd.S_lower ho0 (below_size (by repeat (first | (with_reducible first | exact HB.out | apply below_alloc | apply pw_below_drewN | apply below_drew1) | exact HB.out)))); have n1_ := Aside0.mk (below_step (by repeat (first | (with_reducible first | exact HB.out | apply below_alloc | apply pw_below_drewN | apply below_drew1) | exact HB.out)) hb); clear HB; have HO243 := n0_; have HB := n1_; clear n0_ n1_; (try clear hb); (try clear hb2); (try clear hk); (try clear hi); (try clear ho0); obtain ⟨Ao7, co7, eo7⟩ := Kd.S_slice HO243.out; subst eo7) | ((with_reducible refine gate_callee (f := 57) rfl ?_); refine goesL_ (some 17) rfl rfl Try.func57 (by kernel_rfl) rfl #[.slice Ao7 t240.length co7] rfl (by (try simp only [List.map_toArray, List.map_cons, List.map_nil]); first | done | rfl | (simp only [List.length_drop, List.length_take]; rfl)) ?_; (with_reducible refine (impl_neighbours.calls _ _ t240 t244 _ ?side1 ?side2 A5.out).mono ?_); (case side1 => repeat (first | exact (Kd.S_reads' HO243.out).2.2 | (with_reducible refine Kd.C_alloc ?_ _) | (with_reducible refine Kd.C_drewN ?_ _) | (with_reducible refine Kd.C_drew ?_))); (case side2 => exact (Kd.S_reads' HO243.out).2.1); rintro e w8 ⟨v245, rfl, ho0, hb⟩; refine ⟨_, rfl, ?_⟩; have n0_ := Aside0.mk (Kd.S_below (by (with_reducible repeat (first | apply Kd.S_alloc | apply Kd.S_drewN | apply Kd.S_drew)); exact HO243.out) hb); have n1_ := Aside0.mk (Kd.S_lower ho0 (below_size (by repeat (first | (with_reducible first | exact HB.out | apply below_alloc | apply pw_below_drewN | apply below_drew1) | exact HB.out)))); have n2_ := Aside0.mk (below_step (by repeat (first | (with_reducible first | exact HB.out | apply below_alloc | apply pw_below_drewN | apply below_drew1) | exact HB.out)) hb); clear HO243; clear HB; have HO243 := n0_; have HO246 := n1_; have HB := n2_; clear n0_ n1_ n2_; (try clear hb); (try clear hb2); (try clear hk); (try clear hi); (try clear ho0)))
    go_ret2
    exact ⟨_, by first | rfl | (simp [errW_none, errW_some] <;> rfl) | (simp [*, errW_none, errW_some] <;> rfl), by (with_reducible repeat (first | apply Kd.S_alloc | apply Kd.S_drewN | apply Kd.S_drew)); exact HO246.out, by repeat (first | (with_reducible first | exact HB.out | apply below_alloc | apply pw_below_drewN | apply below_drew1) | exact HB.out)⟩
  · replace c4 := Bool.eq_false_iff.mpr c4
    subst c4
    have H1 : (some (([] : List (List Int)), false)) = some (r1, r2) := by rw [if_neg (show ¬ (false = true) by decide)] at H; exact H
    clear H
    have H := H1
    clear H1
    simp only [Option.some.injEq, Prod.mk.injEq] at H
    obtain ⟨rfl, rfl⟩ := H
    go_enter Try.func31, Try.ntmps31
    go_wp2_with (first | ((with_reducible refine gate_callee (f := 35) rfl ?_); refine goesL_ (some 11) rfl rfl Try.func35 (by kernel_rfl) rfl #[.int .i64 a0, .slice A1 l1.length c1] rfl (by (try simp only [List.map_toArray, List.map_cons, List.map_nil]); first | done | rfl | (simp only [List.length_drop, List.length_take]; rfl)) ?_; (with_reducible refine (impl_planeRegions.calls k a0 _ _ l1 t240 false _ ?side1 ?side2 A3.out).mono ?_); (case side1 => repeat (first | exact HR1.out | (with_reducible refine Kd.C_alloc ?_ _) | (with_reducible refine Kd.C_drewN ?_ _) | (with_reducible refine Kd.C_drew ?_))); (case side2 => exact HC1.out); rintro e w9 ⟨v242, rfl, ho0, hb⟩; refine ⟨_, rfl, ?_⟩; have n0_ := Aside0.mk (Kd.S_lower ho0 (below_size (by repeat (first | (with_reducible first | exact HB.out | apply below_alloc | apply pw_below_drewN | apply below_drew1) | exact HB.out)))); have n1_ := Aside0.mk (below_step (by repeat (first | (with_reducible first | exact HB.out | apply below_alloc | apply pw_below_drewN | apply below_drew1) | exact HB.out)) hb); clear HB; have HO243 := n0_; have HB := n1_; clear n0_ n1_; (try clear hb); (try clear hb2); (try clear hk); (try clear hi); (try clear ho0)))
    go_ret2
    exact ⟨_, by first | rfl | (simp [errW_none, errW_some] <;> rfl) | (simp [*, errW_none, errW_some] <;> rfl), by first | exact Kd.S_nil _ _ _ _ _ | exact Kd.N_nil _ _ _ _ _ | exact Kd.V_nil _ _ _ _ _ | exact Kd.Q_nil _ _ _ _ _ | exact Kd.R_nil _ _ _ _ _, by repeat (first | (with_reducible first | exact HB.out | apply below_alloc | apply pw_below_drewN | apply below_drew1) | exact HB.out)⟩

end Go.Proofs.Ytdeenfpcmaadcaa.Pr

/- What the law of NextRegions computes: true, where each test holds. -/
namespace Go.Proofs.Ytdeenfpcmaadcaa.Pr
open Go.RowKit Go.Proofs.YtdeenfpcmaadcaaW.PrintWords Go.Proofs.YtdeenfpcmaadcaaW.PrintLast Go.Proofs.YtdeenfpcmaadcaaW.PrintMore
set_option linter.unusedVariables false
set_option linter.unusedSimpArgs false
abbrev LC := S49
def laws_FnExactNextRegions.f (k : Nat) (a0 : Int) (l1 : List LC) : Option Bool :=
  (laws_szChordS.f l1 1048576).bind fun s => if s < 0 then some true else (laws_toChordS.f k l1).bind fun c => (spec_NextRegions.f k a0 c).bind fun v => (impl_NextRegions.f k a0 c).bind fun g =>
    if g = v ∧ g.1.length ≤ 1000000 ∧ M.totS g.1 ≤ 1000000000 then (laws_eqIntSS.f k g.1 g.1).bind fun e1 => (laws_eqChordS.f k c c).bind fun e2 => (laws_markChordS.f k c 1).bind fun m1 => (laws_heldIntSS.f k (M.upS 1 g.1) 1).bind fun h =>
      if e1 = true ∧ e2 = true ∧ ¬ m1.1 < 0 ∧ h = 1 + (M.totS g.1 : Int) then some true else none
    else none
theorem laws_FnExactNextRegions.mono : ∀ a0 a1 k, LeO (laws_FnExactNextRegions.f k a0 a1) (laws_FnExactNextRegions.f (k + 1) a0 a1) := by
  intro a0 a1 k
  unfold laws_FnExactNextRegions.f
  exact LeO.bind (LeO.refl _) (fun _ => LeO.ite (LeO.refl _) (LeO.bind (laws_toChordS.mono _ _) (fun _ => LeO.bind (spec_NextRegions.mono _ _ _) (fun _ => LeO.bind (impl_NextRegions.mono _ _ _) (fun _ =>
    LeO.ite (LeO.bind (laws_eqIntSS.mono _ _ _) (fun _ => LeO.bind (laws_eqChordS.mono _ _ _) (fun _ => LeO.bind (laws_markChordS.mono _ _ _) (fun _ => LeO.bind (laws_heldIntSS.mono _ _ _) (fun _ => LeO.refl _))))) (LeO.refl _))))))
/-- What is held: the reference's rows, the chords, the program's rows, one made behind the other. -/
structure LSS (w W : World) (n1 n2 n3 : Nat) (Aw : Option Addr) (cw : Nat) (ws : List (List Int)) (vx : Value) (xs : List CH) (vg : Value) (gs : List (List Int)) : Prop where
  bl : Below w.heap.size w W
  n : n3 ≤ W.heap.size
  n12 : n1 ≤ n2
  ws : Kd.S KRw 24 W w.heap.size (fun k => k < n1) (.slice Aw ws.length cw) ws
  xs : Kd.R k47 47 W w.heap.size (fun k => n1 ≤ k ∧ k < n2) vx xs
  gs : Kd.S KRw 24 W w.heap.size (fun k => n2 ≤ k ∧ k < n3) vg gs
section
variable {w W W' W1 W2 W3 W4 : World} {n1 n2 n3 : Nat} {Aw : Option Addr} {cw : Nat} {ws : List (List Int)} {vw vx : Value} {xs : List CH} {vg : Value} {gs : List (List Int)}
theorem LSS.go (h : LSS w W n1 n2 n3 Aw cw ws vx xs vg gs) (hb : Below W.heap.size W W') : LSS w W' n1 n2 n3 Aw cw ws vx xs vg gs :=
  ⟨below_step h.bl hb, Nat.le_trans h.n hb.size, h.n12, Kd.S_below h.ws hb, Kd.R_below h.xs hb, Kd.S_below h.gs hb⟩
theorem LSS.new (h1 : Below w.heap.size w W1) (hs : Kd.S KRw 24 W2 W1.heap.size (fun _ => True) (.slice Aw ws.length cw) ws) (h2 : Below W1.heap.size W1 W2)
    (hx : Kd.R k47 47 W3 W2.heap.size (fun _ => True) vx xs) (h3 : Below W2.heap.size W2 W3) (hg : Kd.S KRw 24 W4 W3.heap.size (fun _ => True) vg gs) (h4 : Below W3.heap.size W3 W4) : LSS w W4 W2.heap.size W3.heap.size W4.heap.size Aw cw ws vx xs vg gs := by
  have b2 := below_step h1 h2
  have b3 := below_step b2 h3
  refine ⟨below_step b3 h4, Nat.le_refl _, h3.size, Kd.S_below (Kd.S_below (Kd.S_lower (Kd.S_mono (Kd.S_bound hs) (fun k hk => hk.2.2.1)) h1.size) h3) h4, Kd.R_below (Kd.R_lower (Kd.R_mono (Kd.R_bound hx) (fun k hk => ⟨hk.2.1, hk.2.2.1⟩)) b2.size) h4, Kd.S_lower (Kd.S_mono (Kd.S_bound hg) (fun k hk => ⟨hk.2.1, hk.2.2.1⟩)) b3.size⟩
theorem LSS.markC (h : LSS w W n1 n2 n3 Aw cw ws vx xs vg gs) {ys : List CH} {P : Nat → Prop} (hr : Kd.R k47 47 W' w.heap.size P vx ys) (hb : Below w.heap.size w W') (hk : Kept W W' (fun k => n1 ≤ k ∧ k < n2)) : LSS w W' n1 n2 n3 Aw cw ws vx ys vg gs :=
  ⟨hb, Nat.le_trans h.n hk.1, h.n12, Kd.S_kept h.ws hk (fun k h1 h2 => by have := h.n12; omega), Kd.R_mono (Kd.R_tight rfl hr) (fun k hk => h.xs.1 k hk.symm), Kd.S_kept h.gs hk (fun k h1 h2 => by omega)⟩
theorem LSS.markG (h : LSS w W n1 n2 n3 Aw cw ws vx xs vg gs) {ys : List (List Int)} (hr : Kd.S KRw 24 W' w.heap.size (fun k => n2 ≤ k ∧ k < n3) vg ys) (hb : Below w.heap.size w W') (hk : Kept W W' (fun k => n2 ≤ k ∧ k < n3)) : LSS w W' n1 n2 n3 Aw cw ws vx xs vg ys :=
  ⟨hb, Nat.le_trans h.n hk.1, h.n12, Kd.S_kept h.ws hk (fun k h1 h2 => by have := h.n12; omega), Kd.R_kept h.xs hk (fun k h1 h2 => by omega), hr⟩
end
theorem ss_drawn {f : Nat} {vs : Array Value} {W : World} {v : Value} (h : Calls Try.prog f vs W fun e w' => e = .returned v ∧ Drawn0 W w') : Calls Try.prog f vs W fun e w' => e = .returned v ∧ Below W.heap.size W w' :=
  h.mono fun _ _ h => ⟨h.1, by obtain ⟨n, rfl⟩ := h.2.out; exact pw_below_drewN (Below.refl _ _) n⟩
theorem ss_if {c : Prop} [Decidable c] {α : Type} {x : Option α} {r : α} (h : (if c then x else none) = some r) : c ∧ x = some r := by
  split at h
  · exact ⟨by assumption, h⟩
  · cases h
set_option maxHeartbeats 4000000 in
set_option maxRecDepth 100000 in
theorem laws_FnExactNextRegions.calls (k : Nat) (a0 : Int) (A1 : Option Addr) (c1 : Nat) (l1 : List LC) (r : Bool) (w : World) (hr1 : Kd.C k49 w A1 l1.length l1) (hc1 : l1.length ≤ c1) (h : laws_FnExactNextRegions.f k a0 l1 = some r) :
    Calls Try.prog 8 #[.int .i64 a0, .slice A1 l1.length c1] w fun e w' => e = .returned (.bool r) ∧ Below w.heap.size w w' := by
  unfold laws_FnExactNextRegions.f at h
  obtain ⟨s, hs, h⟩ := Option.bind_eq_some_iff.mp h
  have HS := Aside0.mk (ss_drawn (laws_szChordS.calls A1 c1 l1 1048576 s w hr1 hc1 hs))
  clear hs
  by_cases h0 : s < 0
  · rw [if_pos h0] at h
    obtain rfl := Option.some.inj h
    have e0 : decide (s < 0) = true := decide_eq_true h0
    clear h hr1 h0
    go_enter Try.func8, Try.ntmps8
    go_wp2_with (go_at_call 9; refine HS.out.mono ?_; rintro e w1 ⟨rfl, hb1⟩)
    go_ret
    exact ⟨rfl, hb1⟩
  · rw [if_neg h0] at h
    obtain ⟨c, hc, h⟩ := Option.bind_eq_some_iff.mp h
    obtain ⟨⟨gs, gb⟩, hv, h⟩ := Option.bind_eq_some_iff.mp h
    obtain ⟨g, hg, h⟩ := Option.bind_eq_some_iff.mp h
    obtain ⟨⟨q1, q2, q3⟩, h⟩ := ss_if h
    subst q1
    obtain ⟨e1, he1, h⟩ := Option.bind_eq_some_iff.mp h
    obtain ⟨e2, he2, h⟩ := Option.bind_eq_some_iff.mp h
    obtain ⟨⟨m1, ys⟩, hm1, h⟩ := Option.bind_eq_some_iff.mp h
    obtain ⟨hh, hh1, h⟩ := Option.bind_eq_some_iff.mp h
    obtain ⟨⟨q4, q5, q6, q7⟩, h⟩ := ss_if h
    obtain rfl := Option.some.inj h
    subst q4 q5 q7
    dsimp only at q2 q3 q6 he1 hh1
    have CT := Aside0.mk (fun (W : World) (hb : Below w.heap.size w W) => laws_toChordS.calls k A1 c1 l1 c W (Kd.C_below hr1 hb) hc1 hc)
    have CV := Aside0.mk (fun (A : Option Addr) (d : Nat) (W : World) (hC : Kd.C k47 W A c.length c) (hd : c.length ≤ d) => spec_NextRegions.calls k a0 A d c gs gb W hC hd hv)
    have CG := Aside0.mk (fun (A : Option Addr) (d : Nat) (W : World) (hC : Kd.C k47 W A c.length c) (hd : c.length ≤ d) => impl_NextRegions.calls k a0 A d c gs gb W hC hd hg)
    have CE := Aside0.mk (fun (A : Option Addr) (d : Nat) (B : Option Addr) (d2 : Nat) (W : World) (hC : Kd.C KRw W A gs.length gs) (hd : gs.length ≤ d) (hC2 : Kd.C KRw W B gs.length gs) (hd2 : gs.length ≤ d2) => ss_drawn (laws_eqIntSS.calls k A d gs B d2 gs true W hC hd hC2 hd2 he1))
    have CC := Aside0.mk (fun (A : Option Addr) (d : Nat) (B : Option Addr) (d2 : Nat) (W : World) (hC : Kd.C k47 W A c.length c) (hd : c.length ≤ d) (hC2 : Kd.C k47 W B c.length c) (hd2 : c.length ≤ d2) => laws_eqChordS.calls k A d c B d2 c true W hC hd hC2 hd2 he2)
    have CM := Aside0.mk (fun (P : Nat → Prop) (v : Value) (W : World) (hB : Below w.heap.size w W) (ho : Kd.R k47 47 W w.heap.size P v c) => laws_markChordS.calls k P v c 1 m1 ys w W hB ho hm1)
    have CS := Aside0.mk (fun (P : Nat → Prop) (v : Value) (W : World) (hB : Below w.heap.size w W) (ho : Kd.S KRw 24 W w.heap.size P v gs) => markSS_calls P v gs 1 w W hB ho (by omega) q2 (by omega))
    have CH_ := Aside0.mk (fun (A : Option Addr) (d : Nat) (W : World) (hC : Kd.C KRw W A gs.length (M.upS 1 gs)) (hd : gs.length ≤ d) => (show Calls Try.prog 24 #[.slice A gs.length d, .int .i64 1] W fun e w' => e = .returned (.int .i64 (1 + (M.totS gs : Int))) ∧ Below W.heap.size W w' by
      have e := ss_drawn (laws_heldIntSS.calls k A d (M.upS 1 gs) 1 (1 + (M.totS gs : Int)) W (by rw [M.upS_length]; exact hC) (by rw [M.upS_length]; exact hd) hh1)
      rwa [M.upS_length] at e))
    have e0 : decide (s < 0) = false := decide_eq_false h0
    have e3 : decide (m1 < 0) = false := decide_eq_false q6
    have e4 : decide (1 + (M.totS gs : Int) < 0) = false := decide_eq_false (by omega)
    have HR1 := Aside0.mk hr1
    clear hc hv hg he1 he2 hm1 hh1 h h0 q2 q3 q6 hr1 hc1
    go_enter Try.func8, Try.ntmps8
    go_upto_region 8 with (first | (go_at_call 9; refine HS.out.mono ?_; rintro e w1 ⟨rfl, hb1⟩; have HB := Aside0.mk hb1; clear hb1 HS) | (go_at_call 11; refine (CT.out _ HB.out).mono ?_; rintro e w2 ⟨v0, rfl, hr2, hb2⟩; obtain ⟨Ax, cx, ev, hcx, hCx⟩ := Kd.R_reads hr2; subst ev; have HX := Aside0.mk hr2; have HXC := Aside0.mk hCx; have HXc := Aside0.mk hcx; have HXB := Aside0.mk hb2; have HB2 := Aside0.mk (below_step HB.out hb2); have HBo := HB; clear HB hr2 hb2 hCx hcx; have HB := HB2; clear HB2) | (go_at_call 30; refine (CV.out _ _ _ HXC.out HXc.out).mono ?_; rintro e w3 ⟨v1, rfl, hs3, hb3⟩; obtain ⟨Aw, cw, ev⟩ := Kd.S_slice hs3; subst ev; have HV := Aside0.mk hs3; have HVB := Aside0.mk hb3; have HBv := HB; have HB2 := Aside0.mk (below_step HB.out hb3); clear HB hs3 hb3 HX HXC HXc HXB HBo; have HB := HB2; clear HB2) | (go_at_call 31; refine (CG.out _ _ _ HXC.out HXc.out).mono ?_; rintro e w4 ⟨v2, rfl, hs4, hb4⟩; obtain ⟨Ag, cg, ev⟩ := Kd.S_slice hs4; subst ev; have HL := Aside0.mk (LSS.new HBv.out HV.out HVB.out HX.out HXB.out hs4 hb4); clear HB hs4 hb4 HX HXC HXc HXB HBo HV HVB HBv))
    go_upto_region 13 with (first | (go_at_call 22; refine (CE.out _ _ _ _ _ (Kd.S_reads' HL.out.gs).2.2 (Kd.S_reads' HL.out.gs).2.1 (Kd.S_reads' HL.out.ws).2.2 (Kd.S_reads' HL.out.ws).2.1).mono ?_; rintro e w5 ⟨rfl, hb⟩; have HL2 := Aside0.mk (HL.out.go hb); clear HL hb; have HL := HL2; clear HL2) | (go_at_call 11; refine (CT.out _ HL.out.bl).mono ?_; rintro e w6 ⟨v6, rfl, hr6, hb⟩; obtain ⟨Ay, cy, ev, hcy, hCy⟩ := Kd.R_reads hr6; subst ev; have HYC := Aside0.mk hCy; have HYc := Aside0.mk hcy; clear hr6 hCy hcy; have HL2 := Aside0.mk (HL.out.go hb); clear HL hb; have HL := HL2; clear HL2) | (go_at_call 14; refine (CC.out _ _ _ _ _ (Kd.R_reads' HL.out.xs).2.2 (Kd.R_reads' HL.out.xs).2.1 HYC.out HYc.out).mono ?_; rintro e w7 ⟨rfl, hb⟩; clear HYC HYc; have HL2 := Aside0.mk (HL.out.go hb); clear HL hb; have HL := HL2; clear HL2))
    go_upto_region 24 with (first | (go_at_call 15; refine (CM.out _ _ _ HL.out.bl HL.out.xs).mono ?_; rintro e w8 ⟨rfl, hr8, hb8, hk8⟩; have HL2 := Aside0.mk (HL.out.markC hr8 hb8 hk8); clear HL hr8 hb8 hk8; have HL := HL2; clear HL2) | (go_at_call 22; refine (CE.out _ _ _ _ _ (Kd.S_reads' HL.out.gs).2.2 (Kd.S_reads' HL.out.gs).2.1 (Kd.S_reads' HL.out.ws).2.2 (Kd.S_reads' HL.out.ws).2.1).mono ?_; rintro e w5 ⟨rfl, hb⟩; have HL2 := Aside0.mk (HL.out.go hb); clear HL hb; have HL := HL2; clear HL2) | (go_at_call 23; refine (CS.out _ _ _ HL.out.bl HL.out.gs).mono ?_; rintro e w9 ⟨rfl, hr9, hb9, hk9⟩; have HL2 := Aside0.mk (HL.out.markG hr9 hb9 hk9); clear HL hr9 hb9 hk9; have HL := HL2; clear HL2) | (go_at_call 24; refine (CH_.out _ _ _ (by have e := (Kd.S_reads' HL.out.gs).2.2; rwa [M.upS_length] at e) (Kd.S_reads' HL.out.gs).2.1).mono ?_; rintro e w10 ⟨rfl, hb⟩; have HL2 := Aside0.mk (HL.out.go hb); clear HL hb; have HL := HL2; clear HL2))
    go_wp2_with (first | (go_at_call 11; refine (CT.out _ HL.out.bl).mono ?_; rintro e w6 ⟨v6, rfl, hr6, hb⟩; obtain ⟨Ay, cy, ev, hcy, hCy⟩ := Kd.R_reads hr6; subst ev; have HYC := Aside0.mk hCy; have HYc := Aside0.mk hcy; clear hr6 hCy hcy; have HL2 := Aside0.mk (HL.out.go hb); clear HL hb; have HL := HL2; clear HL2) | (go_at_call 31; refine (CG.out _ _ _ HYC.out HYc.out).mono ?_; rintro e w4 ⟨v2, rfl, hs4, hb⟩; obtain ⟨Ah, ch, ev, hch, hCh⟩ := Kd.S_reads hs4; subst ev; have HHC := Aside0.mk hCh; have HHc := Aside0.mk hch; clear hs4 hCh hch HYC HYc; have HL2 := Aside0.mk (HL.out.go hb); clear HL hb; have HL := HL2; clear HL2) | (go_at_call 22; refine (CE.out _ _ _ _ _ HHC.out HHc.out (Kd.S_reads' HL.out.ws).2.2 (Kd.S_reads' HL.out.ws).2.1).mono ?_; rintro e w5 ⟨rfl, hb⟩; clear HHC HHc; have HL2 := Aside0.mk (HL.out.go hb); clear HL hb; have HL := HL2; clear HL2) | (go_at_call 24; refine (CH_.out _ _ _ (by have e := (Kd.S_reads' HL.out.gs).2.2; rwa [M.upS_length] at e) (Kd.S_reads' HL.out.gs).2.1).mono ?_; rintro e w10 ⟨rfl, hb⟩; have HL2 := Aside0.mk (HL.out.go hb); clear HL hb; have HL := HL2; clear HL2))
    go_ret
    exact ⟨by first | rfl | simp, HL.out.bl⟩
end Go.Proofs.Ytdeenfpcmaadcaa.Pr

/- The statements' own helpers on lists of chords: the size, the copies and the comparison. -/
namespace Go.Proofs.Ytdeenfpcmaadcaa.M
open Go.RowKit Go.Proofs.YtdeenfpcmaadcaaW.PrintWords Go.Proofs.Ytdeenfpcmaadcaa.Pr
set_option linter.unusedVariables false
set_option linter.unusedSimpArgs false

abbrev LCh := S49
def toC (c : LCh) : Ch := ⟨c.f0, c.f1⟩
theorem rd_lch (l : List LCh) (i : Nat) (h : i < l.length) : rd_T49 l (i : Int) = l[i] := by
  unfold rd_T49
  simp [List.getD_eq_getElem?_getD, List.getElem?_eq_getElem h]

theorem szC_small (l : List LCh) (h : l.length ≤ 1048576) : laws_szChordS.f l 1048576 = some (1048576 - (l.length : Int)) := by
  unfold laws_szChordS.f
  rw [w64 (by omega) (by omega), if_neg (by omega)]
theorem szC_big (l : List LCh) (h : 1048576 < l.length) (hm : l.length ≤ maxLen) : laws_szChordS.f l 1048576 = some (-1) := by
  unfold maxLen at hm
  unfold laws_szChordS.f
  rw [w64 (by omega) (by omega), if_pos (by omega)]

theorem toC_ev (l : List LCh) (hl : l.length ≤ 1048576) : Ev (fun k => laws_toChordS.f k l) (l.map toC) := by
  unfold laws_toChordS.f
  refine Ev.pos (by omega) (Ev.pos (by simp; omega) ?_)
  rw [Int.toNat_natCast]
  refine Ev.scan0 (fun k i acc => laws_toChordS.l0 k l acc i) l (fun rest acc => l.map toC) (fun i acc => acc = (l.take i).map toC ++ List.replicate (l.length - i) z47)
    (fun acc hp => by
      refine Ev.step (fun k => by rw [laws_toChordS.l0]) ?_
      refine Ev.neg (by omega) (Ev.val ?_)
      rw [hp]
      simp)
    (fun i h acc hp => by
      have hr := rd_lch l i h
      have hal : acc.length = l.length := by rw [hp]; simp; omega
      refine .inl ⟨acc.set i (toC l[i]), ?_, rfl, fun r hr2 => ?_⟩
      · rw [hp, List.take_succ_eq_append_getElem h, List.map_append, List.append_assoc]
        have ht : ((l.take i).map toC).length = i := by simp; omega
        rw [List.set_append_right i _ (by omega), ht, Nat.sub_self]
        congr 1
        obtain ⟨q, hq⟩ : ∃ q, l.length - i = q + 1 := ⟨l.length - i - 1, by omega⟩
        rw [hq, show l.length - (i + 1) = q by omega, List.replicate_succ, List.set_cons_zero]
        rfl
      · refine Ev.step (fun k => by rw [laws_toChordS.l0]) ?_
        refine Ev.pos (by omega) (Ev.pos (by omega) ?_)
        rw [hr]
        refine Ev.bindc (a := (l[i].f0, l[i].f1)) rfl (Ev.pos (by omega) ?_)
        rw [w64 (x := (i : Int) + 1) (by omega) (by omega), Int.toNat_natCast]
        exact hr2)
    _ (by simp)

theorem eqC_ev (l : List Ch) (hl : l.length ≤ 9223372036854775806) : Ev (fun k => laws_eqChordS.f k l l) true := by
  unfold laws_eqChordS.f
  refine Ev.pos rfl ?_
  have e := Ev.scan0 (fun k i (_ : Unit) => laws_eqChordS.l0 k l l i) l (fun _ _ => true) (fun _ _ => True)
    (fun acc _ => by
      refine Ev.step (fun k => by rw [laws_eqChordS.l0]) ?_
      exact Ev.neg (by omega) (Ev.now true))
    (fun i h acc _ => by
      refine .inl ⟨(), trivial, rfl, fun r hr2 => ?_⟩
      refine Ev.step (fun k => by rw [laws_eqChordS.l0]) ?_
      refine Ev.pos (by omega) (Ev.pos (by omega) (Ev.pos (by omega) ?_))
      refine Ev.bindc (a := true) (by unfold laws_eqChord.f; simp) (Ev.pos rfl ?_)
      rw [w64 (x := (i : Int) + 1) (by omega) (by omega)]
      exact hr2) () trivial
  exact e
end Go.Proofs.Ytdeenfpcmaadcaa.M

-- Written by a program for this claim.
namespace Go.Proofs.Ytdeenfpcmaadcaa.Pr
open Go.RowKit Go.Proofs.YtdeenfpcmaadcaaW.PrintWords Go.Proofs.YtdeenfpcmaadcaaW.PrintLast Go.Proofs.YtdeenfpcmaadcaaW.PrintMore
attribute [local go_sem] max2_int min2_int max_two min_two max_three min_three max_four min_four   -- for this text's walks alone
set_option linter.unusedVariables false
set_option linter.unusedSimpArgs false

/-! ### laws_heldChordS: function 27 -/
def laws_heldChordS.l0 : Nat → List (S47) → Int → Int → Option (Int)
  | 0, _, _, _ => none
  | k + 1, x0, x1, x5 => if x5 < (x0.length : Int) then (if 0 ≤ x5 then (if ((rd_T47 x0 x5).f0) = x1 then (if ((rd_T47 x0 x5).f1) = (wrap64 (x1 + 1)) then (laws_heldChordS.l0 k x0 (wrap64 ((wrap64 (x1 + 1)) + 1)) (wrap64 (x5 + 1))) else (some (-1))) else (some (-1))) else (none)) else (some x1)
def laws_heldChordS.f (k : Nat) (l0 : List (S47)) (a1 : Int) : Option (Int) := laws_heldChordS.l0 k l0 a1 0
theorem laws_heldChordS.mono_l : ∀ k, (∀ y0 y1 y2, LeO (laws_heldChordS.l0 k y0 y1 y2) (laws_heldChordS.l0 (k + 1) y0 y1 y2))
  | 0 => fun _ _ _ r h => by simp [laws_heldChordS.l0] at h
  | k + 1 => by
    have ih0 := laws_heldChordS.mono_l k
    · intro y0 y1 y2
      unfold laws_heldChordS.l0
      repeat' first
      | (with_reducible exact ih0 _ _ _)
      | (with_reducible exact LeO.refl _)
      | (with_reducible exact LeO.none _)
      | (with_reducible refine LeO.ite ?_ ?_)
      | (with_reducible refine LeO.bind ?_ (fun _ => ?_))
      | exact ih0 _ _ _
      | exact LeO.none _
      | refine LeO.ite ?_ ?_
      | refine LeO.bind ?_ (fun _ => ?_)
theorem laws_heldChordS.mono : ∀ a0 a1 k, LeO (laws_heldChordS.f k a0 a1) (laws_heldChordS.f (k + 1) a0 a1) := by
  intro a0 a1 k
  have ih0 := laws_heldChordS.mono_l k
  unfold laws_heldChordS.f
  repeat' first
      | (with_reducible exact ih0 _ _ _)
      | (with_reducible exact LeO.refl _)
      | (with_reducible exact LeO.none _)
      | (with_reducible refine LeO.ite ?_ ?_)
      | (with_reducible refine LeO.bind ?_ (fun _ => ?_))
      | exact ih0 _ _ _
      | exact LeO.none _
      | refine LeO.ite ?_ ?_
      | refine LeO.bind ?_ (fun _ => ?_)
set_option maxHeartbeats 8000000 in
set_option maxRecDepth 100000 in
theorem laws_heldChordS.calls (k : Nat) (A0 : Option Addr) (c0 : Nat) (l0 : List (S47)) (a1 : Int) (r : Int) (w : World) (hr0 : Kd.C k47 w A0 l0.length l0) (hc0 : l0.length ≤ c0) (h : laws_heldChordS.f k l0 a1 = some r) :
    Calls Try.prog 27 #[.slice A0 l0.length c0, .int .i64 a1] w fun e w' => e = .returned (.int .i64 r) ∧ Drawn0 w w' := by
  have HR0 := Aside0.mk hr0
  have HC0 := Aside0.mk hc0
  clear hr0 hc0
  have H : (laws_heldChordS.l0 k l0 a1 0) = some r := h
  clear h
  have H' := Aside0.mk H
  clear H
  go_enter Try.func27, Try.ntmps27
  go_wp2
  go_loopg [1, 5] k (fun kq v1 v5 w' => ∃ (x1_1 : Int) (x5_1 : Int), v1 = .int .i64 x1_1 ∧ v5 = .int .i64 x5_1 ∧ Aside0 (laws_heldChordS.l0 kq l0 x1_1 x5_1 = some r) ∧ Aside0 (kq ≤ k) ∧ Drawn0 w w')
  case atStart => exact ⟨(a1), (0), (by first | rfl | (simp; done) | (simp [*]; done)), (by first | rfl | (simp; done) | (simp [*]; done)), H', ⟨Nat.le_refl _⟩, by repeat (first | exact Drawn0.refl _ | apply Drawn0.step)⟩
  case round =>
    clear H'
    try clear c2
    try clear p2
    obtain ⟨x1_1, x5_1, rfl, rfl, HA, HK1, ⟨m1, rfl⟩⟩ := hrel
    cases gk with
    | zero => exact absurd HA.out (by simp [laws_heldChordS.l0])
    | succ k1 =>
      have H := HA.out
      clear HA
      simp only [laws_heldChordS.l0] at H
      by_cases c3 : x5_1 < (l0.length : Int)
      · rw [if_pos c3] at H
        have c3b0 : decide (x5_1 < (l0.length : Int)) = true := decide_eq_true c3
        clear c3
        by_cases c4 : 0 ≤ x5_1
        · rw [if_pos c4] at H
          have c4b0 : decide (0 ≤ x5_1) = true := decide_eq_true c4
          clear c4
          by_cases c5 : ((rd_T47 l0 x5_1).f0) = x1_1
          · rw [if_pos c5] at H
            have c5b0 : (((rd_T47 l0 x5_1).f0) == x1_1) = true := beq_iff_eq.mpr c5
            have c5b1 : (((rd_T47 l0 x5_1).f0) != x1_1) = false := bne_eq_false_iff_eq.mpr c5
            clear c5
            by_cases c6 : ((rd_T47 l0 x5_1).f1) = (wrap64 (x1_1 + 1))
            · rw [if_pos c6] at H
              have c6b0 : (((rd_T47 l0 x5_1).f1) == (wrap64 (x1_1 + 1))) = true := beq_iff_eq.mpr c6
              have c6b1 : (((rd_T47 l0 x5_1).f1) != (wrap64 (x1_1 + 1))) = false := bne_eq_false_iff_eq.mpr c6
              clear c6
              have H' := Aside0.mk H
              clear H
              have p149 : 0 ≤ (x5_1 : Int) := of_decide_eq_true (by first | (with_reducible assumption) | assumption)
              have q149 : x5_1 < (l0.length : Int) := of_decide_eq_true (by first | (with_reducible assumption) | assumption)
              obtain ⟨ad149, e149, hx149_0, hx149_1⟩ := at_T47 HR0.out x5_1 p149 q149
              cases e149
              replace p149 := eq_true p149
              replace q149 := eq_true q149
              have p150 : 0 ≤ (x5_1 : Int) := of_decide_eq_true (by first | (with_reducible assumption) | assumption)
              have q150 : x5_1 < (l0.length : Int) := of_decide_eq_true (by first | (with_reducible assumption) | assumption)
              obtain ⟨ad150, e150, hx150_0, hx150_1⟩ := at_T47 HR0.out x5_1 p150 q150
              obtain rfl : ad149 = ad150 := (by injection e150)
              replace p150 := eq_true p150
              replace q150 := eq_true q150
              go_wp2
              go_roundg k1
              case measure => have := HK1.out; omega
              case rel => exact ⟨(wrap64 ((wrap64 (x1_1 + 1)) + 1)), (wrap64 (x5_1 + 1)), (by first | rfl | (simp; done) | (simp [*]; done)), (by first | rfl | (simp; done) | (simp [*]; done)), H', ⟨by have := HK1.out; omega⟩, by repeat (first | exact Drawn0.refl _ | apply Drawn0.step)⟩
            · rw [if_neg c6] at H
              have c6b0 : (((rd_T47 l0 x5_1).f1) == (wrap64 (x1_1 + 1))) = false := beq_eq_false_iff_ne.mpr c6
              have c6b1 : (((rd_T47 l0 x5_1).f1) != (wrap64 (x1_1 + 1))) = true := bne_iff_ne.mpr c6
              obtain rfl := Option.some.inj H
              have p149 : 0 ≤ (x5_1 : Int) := of_decide_eq_true (by first | (with_reducible assumption) | assumption)
              have q149 : x5_1 < (l0.length : Int) := of_decide_eq_true (by first | (with_reducible assumption) | assumption)
              obtain ⟨ad149, e149, hx149_0, hx149_1⟩ := at_T47 HR0.out x5_1 p149 q149
              cases e149
              replace p149 := eq_true p149
              replace q149 := eq_true q149
              have p150 : 0 ≤ (x5_1 : Int) := of_decide_eq_true (by first | (with_reducible assumption) | assumption)
              have q150 : x5_1 < (l0.length : Int) := of_decide_eq_true (by first | (with_reducible assumption) | assumption)
              obtain ⟨ad150, e150, hx150_0, hx150_1⟩ := at_T47 HR0.out x5_1 p150 q150
              obtain rfl : ad149 = ad150 := (by injection e150)
              replace p150 := eq_true p150
              replace q150 := eq_true q150
              go_wp2
              go_ret
              exact ⟨by first | rfl | (simp; done) | (simp [*]; done), by repeat (first | exact Drawn0.refl _ | apply Drawn0.step)⟩
          · rw [if_neg c5] at H
            have c5b0 : (((rd_T47 l0 x5_1).f0) == x1_1) = false := beq_eq_false_iff_ne.mpr c5
            have c5b1 : (((rd_T47 l0 x5_1).f0) != x1_1) = true := bne_iff_ne.mpr c5
            obtain rfl := Option.some.inj H
            have p149 : 0 ≤ (x5_1 : Int) := of_decide_eq_true (by first | (with_reducible assumption) | assumption)
            have q149 : x5_1 < (l0.length : Int) := of_decide_eq_true (by first | (with_reducible assumption) | assumption)
            obtain ⟨ad149, e149, hx149_0, hx149_1⟩ := at_T47 HR0.out x5_1 p149 q149
            cases e149
            replace p149 := eq_true p149
            replace q149 := eq_true q149
            go_wp2
            go_ret
            exact ⟨by first | rfl | (simp; done) | (simp [*]; done), by repeat (first | exact Drawn0.refl _ | apply Drawn0.step)⟩
        · rw [if_neg c4] at H
          exact absurd H (by simp)
      · rw [if_neg c3] at H
        have c3b0 : decide (x5_1 < (l0.length : Int)) = false := decide_eq_false c3
        clear c3
        obtain rfl := Option.some.inj H
        go_wp2
        go_ret
        exact ⟨by first | rfl | (simp; done) | (simp [*]; done), by repeat (first | exact Drawn0.refl _ | apply Drawn0.step)⟩

end Go.Proofs.Ytdeenfpcmaadcaa.Pr

/- The statements' own helpers on lists of chords: marked and held. -/
namespace Go.Proofs.Ytdeenfpcmaadcaa.M
open Go.RowKit Go.Proofs.YtdeenfpcmaadcaaW.PrintWords Go.Proofs.Ytdeenfpcmaadcaa.Pr
set_option linter.unusedVariables false
set_option linter.unusedSimpArgs false

def upC (m : Int) (n : Nat) : List Ch := (List.range n).map fun (i : Nat) => ⟨m + 2 * (i : Int), m + 2 * (i : Int) + 1⟩
theorem upC_length (m : Int) (n : Nat) : (upC m n).length = n := by simp [upC]
theorem upC_succ (m : Int) (n : Nat) : upC m (n + 1) = upC m n ++ [⟨m + 2 * (n : Int), m + 2 * (n : Int) + 1⟩] := by
  unfold upC
  rw [List.range_succ, List.map_append]
  rfl
theorem upC_get (m : Int) (n i : Nat) (h : i < (upC m n).length) : (upC m n)[i] = ⟨m + 2 * (i : Int), m + 2 * (i : Int) + 1⟩ := by
  simp [upC]
theorem setC_mid (A : List Ch) (x v : Ch) (r : List Ch) : (A ++ x :: r).set A.length v = A ++ v :: r := by
  rw [List.set_append_right _ _ (Nat.le_refl _), Nat.sub_self, List.set_cons_zero]

theorem markC_ev (l : List Ch) (m : Int) (hm : 0 ≤ m) (hb : m + 2 * l.length ≤ 9223372036854775806) : Ev (fun k => laws_markChordS.f k l m) (m + 2 * (l.length : Int), upC m l.length) := by
  unfold laws_markChordS.f
  exact Ev.scan0 (fun k i (acc : List Ch × Int) => laws_markChordS.l0 k acc.1 acc.2 i) l (fun _ _ => (m + 2 * (l.length : Int), upC m l.length)) (fun i acc => acc = (upC m i ++ l.drop i, m + 2 * (i : Int)))
    (fun acc hp => by
      refine Ev.step (fun k => by rw [laws_markChordS.l0]) ?_
      rw [hp]
      refine Ev.neg (by simp [upC_length]) (Ev.val ?_)
      simp)
    (fun i h acc hp => by
      refine .inl ⟨(upC m (i + 1) ++ l.drop (i + 1), m + 2 * ((i + 1 : Nat) : Int)), rfl, rfl, fun r hr2 => ?_⟩
      refine Ev.step (fun k => by rw [laws_markChordS.l0]) ?_
      rw [hp]
      have hll : (upC m i ++ l.drop i).length = l.length := by simp [upC_length]; omega
      refine Ev.pos (by rw [hll]; omega) (Ev.pos (by omega) ?_)
      simp only [Option.bind_some]
      have h1 : ∀ v : Ch, (upC m i ++ l[i] :: l.drop (i + 1)).set i v = upC m i ++ v :: l.drop (i + 1) := by
        intro v
        have := setC_mid (upC m i) l[i] v (l.drop (i + 1))
        rwa [upC_length] at this
      have h2 : ∀ u v : Ch, (upC m i ++ u :: l.drop (i + 1)).set i v = upC m i ++ v :: l.drop (i + 1) := by
        intro u v
        have := setC_mid (upC m i) u v (l.drop (i + 1))
        rwa [upC_length] at this
      have hg : ∀ u : Ch, rd_T47 (upC m i ++ u :: l.drop (i + 1)) (i : Int) = u := by
        intro u
        have hlt : i < (upC m i ++ u :: l.drop (i + 1)).length := by simp [upC_length]
        rw [rd_ch _ i hlt, List.getElem_append_right (by rw [upC_length]; exact Nat.le_refl _)]
        simp [upC_length]
      rw [Int.toNat_natCast, List.drop_eq_getElem_cons h, h1, hg l[i], h2, hg]
      rw [w64 (x := (i : Int) + 1) (by omega) (by omega), w64 (x := m + 2 * (i : Int) + 1) (by omega) (by omega), w64 (x := m + 2 * (i : Int) + 1 + 1) (by omega) (by omega)]
      rw [upC_succ, List.append_assoc] at hr2
      have e2 : m + 2 * ((i + 1 : Nat) : Int) = m + 2 * (i : Int) + 1 + 1 := by omega
      rw [e2] at hr2
      exact hr2)
    (l, m) (by simp [upC])
theorem heldC_ev (n : Nat) (m : Int) (hm : 0 ≤ m) (hb : m + 2 * n ≤ 9223372036854775806) : Ev (fun k => laws_heldChordS.f k (upC m n) m) (m + 2 * (n : Int)) := by
  unfold laws_heldChordS.f
  have e := Ev.scan0 (fun k i (acc : Int) => laws_heldChordS.l0 k (upC m n) acc i) (upC m n) (fun _ _ => m + 2 * (n : Int)) (fun i acc => acc = m + 2 * (i : Int))
    (fun acc hp => by
      refine Ev.step (fun k => by rw [laws_heldChordS.l0]) ?_
      refine Ev.neg (by omega) (Ev.val ?_)
      rw [hp, upC_length])
    (fun i h acc hp => by
      refine .inl ⟨m + 2 * ((i + 1 : Nat) : Int), rfl, rfl, fun r hr2 => ?_⟩
      have hn : i < n := by rw [upC_length] at h; exact h
      refine Ev.step (fun k => by rw [laws_heldChordS.l0]) ?_
      refine Ev.pos (by omega) (Ev.pos (by omega) ?_)
      rw [rd_ch _ i h, upC_get, hp]
      rw [w64 (x := (i : Int) + 1) (by omega) (by omega), w64 (x := m + 2 * (i : Int) + 1) (by omega) (by omega), w64 (x := m + 2 * (i : Int) + 1 + 1) (by omega) (by omega)]
      refine Ev.pos rfl (Ev.pos rfl ?_)
      have e2 : m + 2 * ((i + 1 : Nat) : Int) = m + 2 * (i : Int) + 1 + 1 := by omega
      rw [e2] at hr2
      exact hr2)
    m (by simp)
  exact e
end Go.Proofs.Ytdeenfpcmaadcaa.M

/- What the program's regionInside computes: the walk along a region's edge. -/
namespace Go.Proofs.Ytdeenfpcmaadcaa.M
open Go.RowKit Go.Proofs.YtdeenfpcmaadcaaW.PrintWords Go.Proofs.Ytdeenfpcmaadcaa.Pr
set_option linter.unusedVariables false
set_option linter.unusedSimpArgs false
theorem nx_skip (a m : Int) (sel : Ch → Bool) (d : Ch) (rest : List Ch) (h : ¬ (sel d = true ∧ d.f0 = a ∧ m < d.f1)) : nxF a ((d :: rest).filter sel) m = nxF a (rest.filter sel) m := by
  rw [List.filter_cons]
  split
  · rename_i hs
    rw [nxF, if_neg (fun q => h ⟨hs, q⟩)]
  · rfl
theorem nx_take (a m : Int) (sel : Ch → Bool) (d : Ch) (rest : List Ch) (h : sel d = true ∧ d.f0 = a ∧ m < d.f1) : nxF a ((d :: rest).filter sel) m = nxF a (rest.filter sel) d.f1 := by
  rw [List.filter_cons, if_pos h.1, nxF, if_pos h.2]
/-- What is left to do behind one step of the walk. -/
def afterN (Q : List Ch) (b : Int) (n : Nat) (a : Int) (P : List Int) (C : List Ch) (A : List Int) (m : Int) : List Int × List Ch × List Int :=
  if m > a then ((P ++ [m]) ++ walkP Q b n m, (C ++ [⟨a, m⟩]) ++ walkC Q b n m, A ++ walkA Q b n m)
  else ((P ++ [a + 1]) ++ walkP Q b n (a + 1), C ++ walkC Q b n (a + 1), (A ++ [a]) ++ walkA Q b n (a + 1))
theorem inside_l0 (l : List Ch) (isC : Bool) (lo b : Int) (sel : Ch → Bool) (hsel : ∀ d ∈ l, lo ≤ d.f0 → (sel d = true ↔ d.f1 ≤ b ∧ ¬ (isC = true ∧ d.f0 = lo ∧ d.f1 = b))) (hlo : 0 ≤ lo) (hb : b ≤ 1000) (hll : l.length ≤ 1000) :
    ∀ (n : Nat) (a : Int) (P : List Int) (C : List Ch) (A : List Int), lo ≤ a → b ≤ a + n → P.length + n ≤ 100000 → C.length + n ≤ 100000 → A.length + n ≤ 100000 →
      Ev (fun k => impl_regionInside.l0 k l isC a lo b P C A) (P ++ walkP (l.filter sel) b n a, C ++ walkC (l.filter sel) b n a, A ++ walkA (l.filter sel) b n a)
  | 0, a, P, C, A, ha, hn, _, _, _ => by
    refine Ev.step (fun k => by rw [impl_regionInside.l0]) ?_
    refine Ev.neg (by omega) (Ev.val ?_)
    simp [walkP, walkC, walkA]
  | n + 1, a, P, C, A, ha, hn, hP, hC, hA => by
    refine Ev.step (fun k => by rw [impl_regionInside.l0]) ?_
    by_cases hab : a < b
    · refine Ev.pos hab ?_
      have e := Ev.scan0 (fun k i (m : Int) => impl_regionInside.l1 k l isC a m l (l.length : Int) i lo b P C A) l (fun rest m => afterN (l.filter sel) b n a P C A (nxF a (rest.filter sel) m)) (fun _ _ => True)
        (fun m _ => by
          refine Ev.step (fun k => by rw [impl_regionInside.l1]) ?_
          refine Ev.neg (by omega) ?_
          show Ev _ (afterN (l.filter sel) b n a P C A m)
          unfold afterN
          by_cases hm : m > a
          · rw [if_pos hm]
            refine Ev.pos hm (Ev.pos (by omega) (Ev.pos (by omega) ?_))
            exact inside_l0 l isC lo b sel hsel hlo hb hll n m (P ++ [m]) (C ++ [⟨a, m⟩]) A (by omega) (by omega) (by simp; omega) (by simp; omega) (by omega)
          · rw [if_neg hm]
            refine Ev.neg hm (Ev.pos (by omega) (Ev.pos (by omega) ?_))
            rw [w64 (by omega) (by omega)]
            exact inside_l0 l isC lo b sel hsel hlo hb hll n (a + 1) (P ++ [a + 1]) C (A ++ [a]) (by omega) (by omega) (by simp; omega) (by omega) (by simp; omega))
        (fun i h m _ => by
          have hd := hsel l[i] (List.getElem_mem h)
          by_cases hs : sel l[i] = true ∧ l[i].f0 = a ∧ m < l[i].f1
          · refine .inl ⟨l[i].f1, trivial, by rw [nx_take _ _ _ _ _ hs], fun r hr => ?_⟩
            have hq := (hd (by omega)).1 hs.1
            refine Ev.step (fun k => by rw [impl_regionInside.l1]) ?_
            refine Ev.pos (by omega) (Ev.pos (by omega) (Ev.pos (by omega) ?_))
            rw [rd_ch l i h, w64 (by omega) (by omega)]
            refine Ev.pos hs.2.1 (Ev.pos hq.1 (Ev.pos (by omega) ?_))
            by_cases hi : isC = true
            · refine Ev.pos hi (Ev.neg ?_ hr)
              intro e
              rw [Bool.and_eq_true, beq_iff_eq, beq_iff_eq] at e
              exact hq.2 ⟨hi, e.1, e.2⟩
            · exact Ev.neg hi hr
          · refine .inl ⟨m, trivial, by rw [nx_skip _ _ _ _ _ hs], fun r hr => ?_⟩
            refine Ev.step (fun k => by rw [impl_regionInside.l1]) ?_
            refine Ev.pos (by omega) (Ev.pos (by omega) (Ev.pos (by omega) ?_))
            rw [rd_ch l i h, w64 (by omega) (by omega)]
            by_cases h1 : l[i].f0 = a
            · refine Ev.pos h1 ?_
              by_cases h2 : l[i].f1 ≤ b
              · refine Ev.pos h2 ?_
                by_cases h3 : l[i].f1 > m
                · refine Ev.pos h3 ?_
                  have hns : ¬ sel l[i] = true := fun q => hs ⟨q, h1, h3⟩
                  rw [hd (by omega)] at hns
                  have hc : isC = true ∧ l[i].f0 = lo ∧ l[i].f1 = b := by
                    apply Classical.byContradiction
                    intro q
                    exact hns ⟨h2, q⟩
                  refine Ev.pos hc.1 (Ev.pos ?_ hr)
                  rw [Bool.and_eq_true, beq_iff_eq, beq_iff_eq]
                  exact hc.2
                · exact Ev.neg h3 hr
              · exact Ev.neg h2 hr
            · exact Ev.neg h1 hr)
        a trivial
      have e2 : afterN (l.filter sel) b n a P C A (nxF a (l.filter sel) a) = (P ++ walkP (l.filter sel) b (n + 1) a, C ++ walkC (l.filter sel) b (n + 1) a, A ++ walkA (l.filter sel) b (n + 1) a) := by
        unfold afterN
        rw [walkP, walkC, walkA, if_pos hab, if_pos hab, if_pos hab, nxt]
        by_cases hg : nxF a (l.filter sel) a > a
        · simp only [if_pos hg, List.append_assoc, List.singleton_append, List.nil_append]
        · simp only [if_neg hg, List.append_assoc, List.singleton_append, List.nil_append]
      rw [← e2]
      exact e
    · refine Ev.neg hab (Ev.val ?_)
      rw [walkP, walkC, walkA, if_neg hab, if_neg hab, if_neg hab]
      simp
section
variable {p : Int} {P : List Ch} (H : PlaneP p P)
include H
theorem inside_ev {c : Ch} (hc : c ∈ P) (hp : p ≤ 1000) (hl : P.length ≤ 1000) : Ev (fun k => impl_regionInside.f k P c.f0 c.f1 true) (ptsW p P c, chsW p P c, arcsW p P c) := by
  rcases edge_cases H (.inr hc) with ⟨e, _⟩ | ⟨_, hne, e1, e2, h1, h2, h3⟩
  · have := (H.ends c hc).1
    rw [e] at this
    exact absurd this (by show ¬ ((0 : Int) ≤ -1); omega)
  · unfold impl_regionInside.f
    refine Ev.bindc rfl (Ev.pos rfl (Ev.pos (by simp) ?_))
    have e := inside_l0 P true c.f0 c.f1 (selB c) (fun d hd hlo => by
      unfold selB
      rw [decide_eq_true_iff]
      constructor
      · rintro ⟨q1, q2, q3⟩
        exact ⟨q3, fun q => q1 (by cases c; cases d; simp_all)⟩
      · rintro ⟨q1, q2⟩
        exact ⟨fun q => q2 (by rw [q]; exact ⟨rfl, rfl, rfl⟩), hlo, q1⟩) (by omega) (by omega) hl (c.f1 - c.f0).toNat c.f0 [c.f0] [c] [] (Int.le_refl _) (by omega) (by simp; omega) (by simp; omega) (by simp; omega)
    unfold ptsW chsW arcsW qOf
    rw [e1, e2, if_neg hne, if_neg hne]
    refine Ev.step (fun k => by rw [impl_regionInside.j0]) ?_
    exact e
theorem outer_ev (hp : p ≤ 1000) (hl : P.length ≤ 1000) : Ev (fun k => impl_regionInside.f k P 0 (p - 1) false) (ptsW p P (outC p), chsW p P (outC p), arcsW p P (outC p)) := by
  have h3 := H.hp
  unfold impl_regionInside.f
  refine Ev.bindc rfl (Ev.neg (by decide) (Ev.pos (by simp) ?_))
  have e := inside_l0 P false 0 (p - 1) (selB (outC p)) (fun d hd hlo => by
    have := H.ends d hd
    unfold selB outC
    rw [decide_eq_true_iff]
    constructor
    · rintro ⟨q1, q2, q3⟩
      exact ⟨by omega, fun q => by cases q.1⟩
    · rintro ⟨q1, q2⟩
      exact ⟨fun q => by rw [q] at hlo; exact absurd hlo (by show ¬ ((0 : Int) ≤ -1); omega), by show (-1 : Int) ≤ d.f0; omega, by show d.f1 ≤ p; omega⟩) (Int.le_refl 0) (by omega) hl (p - 1 - 0).toNat 0 [0] [] [p - 1] (Int.le_refl _) (by omega) (by simp; omega) (by simp; omega) (by simp; omega)
  rcases edge_cases H (.inl rfl) with ⟨_, e1, e2⟩ | ⟨_, q, _⟩
  · unfold ptsW chsW arcsW qOf
    rw [e1, e2, if_pos rfl, if_pos rfl]
    refine Ev.step (fun k => by rw [impl_regionInside.j0]) ?_
    exact e
  · exact absurd rfl q
end
end Go.Proofs.Ytdeenfpcmaadcaa.M

/- The regions in order: the reference's rows are the program's. -/
namespace Go.Proofs.Ytdeenfpcmaadcaa.M
open Go.RowKit Go.Proofs.YtdeenfpcmaadcaaW.PrintWords Go.Proofs.Ytdeenfpcmaadcaa.Pr
set_option linter.unusedVariables false
set_option linter.unusedSimpArgs false
theorem backK_spec (r : List Int) (os : List (List Int)) : ∀ k, k ≤ os.length → (∀ i (hi : i < os.length), backK lexB r os k ≤ i → i < k → lexB r os[i] = true) ∧ (backK lexB r os k = 0 ∨ ∃ i, ∃ hi : i < os.length, backK lexB r os k = i + 1 ∧ lexB r os[i] = false)
  | 0, _ => ⟨fun i hi h1 h2 => by omega, .inl rfl⟩
  | k + 1, hk => by
    have ih := backK_spec r os k (by omega)
    have hg : os.getD k [] = os[k] := by rw [List.getD_eq_getElem?_getD, List.getElem?_eq_getElem (by omega)]; rfl
    rw [backK, hg]
    by_cases h : lexB r os[k] = true
    · rw [if_pos h]
      refine ⟨fun i hi h1 h2 => ?_, ih.2⟩
      by_cases e : i = k
      · subst e; exact h
      · exact ih.1 i hi h1 (by omega)
    · rw [if_neg h]
      exact ⟨fun i hi h1 h2 => by omega, .inr ⟨k, by omega, rfl, by simpa using h⟩⟩
theorem insB_perm (os : List (List Int)) (r : List Int) : (insB lexB os r).Perm (r :: os) := by
  unfold insB
  refine List.perm_middle.trans ?_
  rw [List.take_append_drop]
theorem insB_sorted (os : List (List Int)) (r : List Int) (h : LS os) : LS (insB lexB os r) := by
  obtain ⟨h1, h2⟩ := backK_spec r os os.length (Nat.le_refl _)
  have hle := backK_le lexB r os os.length
  unfold insB
  obtain ⟨K, hK⟩ : ∃ K, K = backK lexB r os os.length := ⟨_, rfl⟩
  rw [← hK] at h1 h2 hle ⊢
  have hp := List.pairwise_iff_getElem.1 h
  have hs : LS (os.take K ++ os.drop K) := by rw [List.take_append_drop]; exact h
  obtain ⟨s1, s2, s3⟩ := List.pairwise_append.1 hs
  refine List.pairwise_append.2 ⟨s1, List.pairwise_cons.2 ⟨fun y hy => ?_, s2⟩, fun x hx y hy => ?_⟩
  · obtain ⟨i, hi, rfl⟩ := List.getElem_of_mem hy
    rw [List.getElem_drop]
    rw [List.length_drop] at hi
    have ht := h1 (K + i) (by omega) (by omega) (by omega)
    cases e : lexB os[K + i] r with
    | false => rfl
    | true =>
      have := lexB_trans _ _ _ e ht
      rw [lexB_irrefl] at this
      cases this
  · rcases List.mem_cons.1 hy with rfl | hy
    · obtain ⟨i, hi, rfl⟩ := List.getElem_of_mem hx
      rw [List.getElem_take]
      rw [List.length_take] at hi
      rcases h2 with h2 | ⟨m, hm, e, hf⟩
      · omega
      · by_cases him : i = m
        · subst him; exact hf
        · exact lexB_ge_trans (hp i m (by omega) hm (by omega)) hf
    · exact s3 x hx y hy
theorem foldB_gen : ∀ (l acc : List (List Int)), LS acc → (l.foldl (insB lexB) acc).Perm (acc ++ l) ∧ LS (l.foldl (insB lexB) acc)
  | [], acc, h => ⟨by rw [List.append_nil]; exact List.Perm.refl _, h⟩
  | r :: l, acc, h => by
    obtain ⟨h1, h2⟩ := foldB_gen l (insB lexB acc r) (insB_sorted acc r h)
    refine ⟨h1.trans (((insB_perm acc r).append_right l).trans ?_), h2⟩
    exact List.perm_middle.symm
theorem ptsTo_nil (p : Int) (hp : 3 ≤ p) : regN p [] (outC p) = ptsTo p := by
  unfold regN
  rw [List.filter_eq_self.2 (fun x hx => by
    rw [inR_iff]
    have := mem_ptsTo.1 hx
    exact ⟨by show (-1 : Int) ≤ x; omega, by show x ≤ p; omega, fun d hd => by cases hd⟩)]
section
variable {p : Int} {P : List Ch} (H : PlaneP p P)
include H
/-- The reference's rows: a sorted permutation of the regions. -/
theorem ref_perm : ((foldR P [ptsTo p]).foldl (insB lexB) []).Perm ((outC p :: P).map (regN p P)) ∧ LS ((foldR P [ptsTo p]).foldl (insB lexB) []) := by
  obtain ⟨h1, h2⟩ := foldB_gen (foldR P [ptsTo p]) [] List.Pairwise.nil
  refine ⟨h1.trans ?_, h2⟩
  obtain ⟨ds, hd, e⟩ := foldR_regs P [] (by simpa using H.pl) (by simpa using H.ends) (by simpa using H.nd) [outC p] (List.Perm.refl _)
  rw [List.nil_append] at hd e
  rw [List.map_cons, List.map_nil, ptsTo_nil p H.hp] at e
  rw [List.nil_append, e]
  exact hd.map _
theorem regN_inj {c d : Ch} (hc : c = outC p ∨ c ∈ P) (hd : d = outC p ∨ d ∈ P) (e : regN p P c = regN p P d) : c = d := by
  have hm : ∀ x, ((0 ≤ x ∧ x < p) ∧ InR P c x) ↔ ((0 ≤ x ∧ x < p) ∧ InR P d x) := fun x => by rw [← mem_regN, ← mem_regN, e]
  have hm2 : ∀ x, (lowE c ≤ x ∧ x ≤ topE p c ∧ Free (qOf P c) x) ↔ (lowE d ≤ x ∧ x ≤ topE p d ∧ Free (qOf P d) x) := fun x => by rw [← free_iff H hc, ← free_iff H hd]; exact hm x
  have lc := low_le H hc
  have ld := low_le H hd
  have a1 := (hm2 (lowE c)).1 ⟨Int.le_refl _, by omega, low_free H hc⟩
  have a2 := (hm2 (lowE d)).2 ⟨Int.le_refl _, by omega, low_free H hd⟩
  have a3 := (hm2 (topE p c)).1 ⟨by omega, Int.le_refl _, top_free H hc⟩
  have a4 := (hm2 (topE p d)).2 ⟨by omega, Int.le_refl _, top_free H hd⟩
  have key : ∀ d : Ch, d ∈ P → d ≠ outC p → d.f0 = 0 → d.f1 = p - 1 → (∀ x, ((0 ≤ x ∧ x < p) ∧ InR P (outC p) x) ↔ ((0 ≤ x ∧ x < p) ∧ InR P d x)) → False := fun d hdP hdo e0 e1 hx => by
    have h3 := H.hp
    have hd : d = outC p ∨ d ∈ P := .inr hdP
    rcases edge_cases H hd with ⟨q, _⟩ | ⟨_, _, l1, l2, _⟩
    · exact hdo q
    have hlt := low_le H hd
    have g1 := nxt_gt (q_low H hd) (lowE d)
    have g2 := nxt_le (q_low H hd) hlt
    have g3 := nxt_free (q_low H hd) (q_no H) (low_free H hd)
    have g4 : nxt (qOf P d) (lowE d) ≠ p - 1 := fun q => by
      unfold nxt at q
      split at q
      · rcases nxF_mem (lowE d) (qOf P d) (lowE d) with e' | ⟨x, hxq, x0, x1⟩
        · omega
        · have hq := q_in H hxq
          exact hq.2.1 (by cases x; cases d; simp only [S47.mk.injEq] at *; omega)
      · omega
    have m1 := (hx (nxt (qOf P d) (lowE d))).2 ((free_iff H hd _).2 ⟨by omega, g2, g3⟩)
    exact m1.2.2.2 d hdP hdo (by show (-1 : Int) ≤ d.f0; omega) (by show d.f1 ≤ p; omega) ⟨by omega, by omega⟩
  rcases edge_cases H hc with ⟨rfl, c1, c2⟩ | ⟨hcP, hco, c1, c2, _⟩
  · rcases edge_cases H hd with ⟨rfl, d1, d2⟩ | ⟨hdP, hdo, d1, d2, _⟩
    · rfl
    · exact (key d hdP hdo (by omega) (by omega) hm).elim
  · rcases edge_cases H hd with ⟨rfl, d1, d2⟩ | ⟨hdP, hdo, d1, d2, _⟩
    · exact (key c hcP hco (by omega) (by omega) (fun x => (hm x).symm)).elim
    · cases c; cases d
      simp only [S47.mk.injEq] at *
      omega
theorem out_not : outC p ∉ P := fun h => by
  have := (H.ends _ h).1
  exact absurd this (by show ¬ ((0 : Int) ≤ -1); omega)
theorem regs_nodup : ((outC p :: P).map (regN p P)).Nodup := by
  have hn : (outC p :: P).Nodup := List.nodup_cons.2 ⟨out_not H, H.nd⟩
  unfold List.Nodup at *
  rw [List.pairwise_map]
  refine (List.pairwise_iff_forall_sublist.2 ?_)
  intro a b hab e
  have ha : a ∈ outC p :: P := hab.subset (by simp)
  have hb : b ∈ outC p :: P := hab.subset (by simp)
  have hne := List.pairwise_iff_forall_sublist.1 hn hab
  exact hne (regN_inj H (List.mem_cons.1 ha) (List.mem_cons.1 hb) e)
end
end Go.Proofs.Ytdeenfpcmaadcaa.M

/- What the functions on chords of the program and of the reference compute, in plain words: valid sets. -/
namespace Go.Proofs.Ytdeenfpcmaadcaa.M
open Go.RowKit Go.Proofs.YtdeenfpcmaadcaaW.PrintWords Go.Proofs.Ytdeenfpcmaadcaa.Pr
set_option linter.unusedVariables false
set_option linter.unusedSimpArgs false

theorem isChord_eq (p a b : Int) : impl_isChord.f p a b = some (okB p ⟨a, b⟩) := by
  unfold impl_isChord.f okB
  by_cases h : a ≥ 0
  · rw [if_pos h]
    by_cases h2 : a < b
    · rw [if_pos h2]; congr 1; rw [Bool.eq_iff_iff]; simp; omega
    · rw [if_neg h2]; congr 1; rw [Bool.eq_iff_iff]; simp; omega
  · rw [if_neg h]; congr 1; rw [Bool.eq_iff_iff]; simp; omega
theorem srIs_eq (p a b : Int) (hp : 3 ≤ p ∧ p ≤ 60) : spec_srIs.f p a b = some (okB p ⟨a, b⟩) := by
  unfold spec_srIs.f okB
  rw [w64 (by omega) (by omega), l1In_eq]
  simp only [Option.bind_some]
  by_cases h : inB a 0 (p - 1) = true
  · rw [if_pos h]
    have h' : 0 ≤ a ∧ a ≤ p - 1 := by simpa [inB] using h
    rw [w64 (by omega) (by omega), l1In_eq]
    simp only [Option.bind_some, inB]
    congr 1; rw [Bool.eq_iff_iff]; simp; omega
  · rw [if_neg h]
    have h' : ¬ (0 ≤ a ∧ a ≤ p - 1) := by simpa [inB] using h
    congr 1; rw [Bool.eq_iff_iff]; simp; omega
/-- A list of valid chords, each behind the one before. -/
def chain (p : Int) : Option Ch → List Ch → Bool
  | _, [] => true
  | prev, c :: r => okB p c && ((match prev with | none => true | some b => ltB b c) && chain p (some c) r)
def goodB (p : Int) (l : List Ch) : Bool := decide (3 ≤ p ∧ p ≤ 60) && (decide (l.length ≤ 40) && chain p none l)
/-- What stood before place i. -/
def before (l : List Ch) (i : Nat) (prev : Option Ch) : Prop := (i = 0 ∧ prev = none) ∨ ∃ h : i - 1 < l.length, 0 < i ∧ prev = some l[i - 1]
theorem before_next (l : List Ch) (i : Nat) (h : i < l.length) : before l (i + 1) (some l[i]) := .inr ⟨by simpa using h, by omega, by simp⟩

theorem areChords_ev (p : Int) (l : List Ch) (hl : l.length ≤ 9223372036854775807) : Ev (fun k => impl_AreChords.f k p l) (goodB p l) := by
  unfold impl_AreChords.f
  refine Ev.bindc (within_eq _ _ _) ?_
  by_cases hp : 3 ≤ p ∧ p ≤ 60
  · refine Ev.pos (by simpa [inB] using hp) ?_
    have e := Ev.scan0 (fun k i (_ : Option Ch) => impl_AreChords.l0 k p l l (l.length : Int) i) l (fun rest prev => chain p prev rest && decide (l.length ≤ 40)) (fun i prev => before l i prev)
      (fun prev _ => by
        refine Ev.step (fun k => by rw [impl_AreChords.l0]) ?_
        refine Ev.neg (by omega) (Ev.val ?_)
        rw [Bool.eq_iff_iff]
        simp only [chain, Bool.true_and, decide_eq_true_eq]
        omega)
      (fun i h prev hb => by
        have hr := rd_ch l i h
        by_cases hc : okB p l[i] = true
        · have hstep : ∀ r, (prev = none ∨ ∃ b, prev = some b ∧ ltB b l[i] = true) → Ev (fun k => impl_AreChords.l0 k p l l (l.length : Int) ((i : Int) + 1)) r → Ev (fun k => impl_AreChords.l0 k p l l (l.length : Int) (i : Int)) r := by
            intro r hpv hr2
            refine Ev.step (fun k => by rw [impl_AreChords.l0]) ?_
            refine Ev.pos (by omega) (Ev.pos (by omega) (Ev.pos (by omega) ?_))
            rw [hr]
            refine Ev.bindc (isChord_eq _ _ _) (Ev.pos hc ?_)
            rw [w64 (x := (i : Int) + 1) (by omega) (by omega)]
            rcases hb with ⟨hi0, hpn⟩ | ⟨h1, h0, hpn⟩
            · exact Ev.neg (by omega) hr2
            · have hx : wrap64 ((i : Int) - 1) = ((i - 1 : Nat) : Int) := by rw [w64 (by omega) (by omega)]; omega
              refine Ev.pos (by omega) ?_
              rw [hx, rd_ch l (i - 1) h1]
              refine Ev.pos (by omega) (Ev.pos (by omega) ?_)
              refine Ev.bindk (compareChords_ev _ _) ?_
              rcases hpv with hpv | ⟨b, hpv, hlt⟩
              · rw [hpv] at hpn; cases hpn
              · rw [hpv] at hpn
                obtain rfl := Option.some.inj hpn
                refine Ev.neg ?_ hr2
                rw [cmpC_ge, hlt]; simp
          cases prev with
          | none => exact .inl ⟨some l[i], before_next l i h, by simp [chain, hc], fun r hr2 => hstep r (.inl rfl) hr2⟩
          | some b =>
            by_cases hlt : ltB b l[i] = true
            · exact .inl ⟨some l[i], before_next l i h, by simp [chain, hc, hlt], fun r hr2 => hstep r (.inr ⟨b, rfl, hlt⟩) hr2⟩
            · refine .inr ?_
              rcases hb with ⟨hi0, hpn⟩ | ⟨h1, h0, hpn⟩
              · cases hpn
              · obtain rfl := Option.some.inj hpn
                refine Ev.step (fun k => by rw [impl_AreChords.l0]) ?_
                refine Ev.pos (by omega) (Ev.pos (by omega) (Ev.pos (by omega) ?_))
                rw [hr]
                have hx : wrap64 ((i : Int) - 1) = ((i - 1 : Nat) : Int) := by rw [w64 (by omega) (by omega)]; omega
                refine Ev.bindc (isChord_eq _ _ _) (Ev.pos hc (Ev.pos (by omega) ?_))
                rw [hx, rd_ch l (i - 1) h1]
                refine Ev.pos (by omega) (Ev.pos (by omega) (Ev.bindk (compareChords_ev _ _) (Ev.pos ?_ (Ev.val ?_))))
                · rw [cmpC_ge]; simpa using hlt
                · simp [chain, hlt]
        · refine .inr ?_
          refine Ev.step (fun k => by rw [impl_AreChords.l0]) ?_
          refine Ev.pos (by omega) (Ev.pos (by omega) (Ev.pos (by omega) ?_))
          rw [hr]
          refine Ev.bindc (isChord_eq _ _ _) (Ev.neg hc (Ev.val ?_))
          simp [chain, hc])
      none (.inl ⟨rfl, rfl⟩)
    have hg : goodB p l = (chain p none l && decide (l.length ≤ 40)) := by
      unfold goodB
      rw [Bool.and_comm (chain p none l)]
      simp [hp]
    rw [hg]
    exact e
  · refine Ev.neg (by simpa [inB] using hp) (Ev.val ?_)
    simp [goodB, hp]

theorem isSet_ev (p : Int) (l : List Ch) (hl : l.length ≤ 9223372036854775807) : Ev (fun k => impl_isSet.f k p l) (goodB p l) := by
  unfold impl_isSet.f impl_isCircle.f
  rw [within_eq]
  simp only [Option.bind_some]
  by_cases hp : 3 ≤ p ∧ p ≤ 60
  · refine Ev.pos (by simpa [inB] using hp) (Ev.bindk (areChords_ev p l hl) (Ev.now _))
  · refine Ev.neg (by simpa [inB] using hp) (Ev.val ?_)
    simp [goodB, hp]

theorem cdGood_ev (p : Int) (l : List Ch) (hl : l.length ≤ 9223372036854775807) : Ev (fun k => spec_cdGood.f k p l) (goodB p l) := by
  unfold spec_cdGood.f spec_srPoints.f
  rw [l1In_eq]
  simp only [Option.bind_some]
  by_cases hp : 3 ≤ p ∧ p ≤ 60
  · refine Ev.pos (by simpa [inB] using hp) ?_
    refine Ev.step (fun k => by rw [spec_cdGood.j0]) ?_
    by_cases h40 : l.length ≤ 40
    · refine Ev.neg (by simp; omega) ?_
      have e := Ev.scan0 (fun k i (_ : Option Ch) => spec_cdGood.l0 k p l l (l.length : Int) i) l (fun rest prev => chain p prev rest) (fun i prev => before l i prev)
        (fun prev _ => by
          refine Ev.step (fun k => by rw [spec_cdGood.l0]) ?_
          exact Ev.neg (by omega) (Ev.val (by simp [chain])))
        (fun i h prev hb => by
          have hr := rd_ch l i h
          by_cases hc : okB p l[i] = true
          · have hstep : ∀ r, (prev = none ∨ ∃ b, prev = some b ∧ ltB b l[i] = true) → Ev (fun k => spec_cdGood.l0 k p l l (l.length : Int) ((i : Int) + 1)) r → Ev (fun k => spec_cdGood.l0 k p l l (l.length : Int) (i : Int)) r := by
              intro r hpv hr2
              refine Ev.step (fun k => by rw [spec_cdGood.l0]) ?_
              refine Ev.pos (by omega) (Ev.pos (by omega) (Ev.pos (by omega) ?_))
              rw [hr]
              refine Ev.bindc (srIs_eq _ _ _ hp) (Ev.pos hc ?_)
              rw [w64 (x := (i : Int) + 1) (by omega) (by omega)]
              rcases hb with ⟨hi0, hpn⟩ | ⟨h1, h0, hpn⟩
              · exact Ev.neg (by omega) hr2
              · have hx : wrap64 ((i : Int) - 1) = ((i - 1 : Nat) : Int) := by rw [w64 (by omega) (by omega)]; omega
                refine Ev.pos (by omega) ?_
                rw [hx, rd_ch l (i - 1) h1]
                refine Ev.pos (by omega) (Ev.pos (by omega) ?_)
                refine Ev.bindc (srLess_eq _ _ _ _) ?_
                rcases hpv with hpv | ⟨b, hpv, hlt⟩
                · rw [hpv] at hpn; cases hpn
                · rw [hpv] at hpn
                  obtain rfl := Option.some.inj hpn
                  exact Ev.pos hlt hr2
            cases prev with
            | none => exact .inl ⟨some l[i], before_next l i h, by simp [chain, hc], fun r hr2 => hstep r (.inl rfl) hr2⟩
            | some b =>
              by_cases hlt : ltB b l[i] = true
              · exact .inl ⟨some l[i], before_next l i h, by simp [chain, hc, hlt], fun r hr2 => hstep r (.inr ⟨b, rfl, hlt⟩) hr2⟩
              · refine .inr ?_
                rcases hb with ⟨hi0, hpn⟩ | ⟨h1, h0, hpn⟩
                · cases hpn
                · obtain rfl := Option.some.inj hpn
                  refine Ev.step (fun k => by rw [spec_cdGood.l0]) ?_
                  refine Ev.pos (by omega) (Ev.pos (by omega) (Ev.pos (by omega) ?_))
                  rw [hr]
                  have hx : wrap64 ((i : Int) - 1) = ((i - 1 : Nat) : Int) := by rw [w64 (by omega) (by omega)]; omega
                  refine Ev.bindc (srIs_eq _ _ _ hp) (Ev.pos hc (Ev.pos (by omega) ?_))
                  rw [hx, rd_ch l (i - 1) h1]
                  refine Ev.pos (by omega) (Ev.pos (by omega) (Ev.bindc (srLess_eq _ _ _ _) (Ev.neg hlt (Ev.val ?_))))
                  simp [chain, hlt]
          · refine .inr ?_
            refine Ev.step (fun k => by rw [spec_cdGood.l0]) ?_
            refine Ev.pos (by omega) (Ev.pos (by omega) (Ev.pos (by omega) ?_))
            rw [hr]
            refine Ev.bindc (srIs_eq _ _ _ hp) (Ev.neg hc (Ev.val ?_))
            simp [chain, hc])
        none (.inl ⟨rfl, rfl⟩)
      have hg : goodB p l = chain p none l := by
        unfold goodB
        simp [hp, h40]
      rw [hg]
      exact e
    · refine Ev.pos (by simp; omega) (Ev.val ?_)
      simp [goodB, h40]
  · refine Ev.neg (by simpa [inB] using hp) ?_
    refine Ev.step (fun k => by rw [spec_cdGood.j0]) (Ev.pos rfl (Ev.val ?_))
    simp [goodB, hp]

/-- The chords of a valid set are valid. -/
theorem chain_ok (p : Int) : ∀ (l : List Ch) (prev : Option Ch), chain p prev l = true → ∀ c ∈ l, okB p c = true
  | [], _, _, _, h => by cases h
  | d :: r, prev, h, c, hc => by
    unfold chain at h
    simp only [Bool.and_eq_true] at h
    rcases List.mem_cons.1 hc with rfl | hc
    · exact h.1
    · exact chain_ok p r (some d) h.2.2 c hc
theorem good_ok {p : Int} {l : List Ch} (h : goodB p l = true) : (3 ≤ p ∧ p ≤ 60) ∧ l.length ≤ 40 ∧ ∀ c ∈ l, 0 ≤ c.f0 ∧ c.f0 < c.f1 ∧ c.f1 < p := by
  unfold goodB at h
  simp only [Bool.and_eq_true, decide_eq_true_eq] at h
  exact ⟨h.1, h.2.1, fun c hc => by simpa [okB] using chain_ok p l none h.2.2 c hc⟩
end Go.Proofs.Ytdeenfpcmaadcaa.M

/- How many chords cross. -/
namespace Go.Proofs.Ytdeenfpcmaadcaa.M
open Go.RowKit Go.Proofs.YtdeenfpcmaadcaaW.PrintWords Go.Proofs.Ytdeenfpcmaadcaa.Pr
set_option linter.unusedVariables false
set_option linter.unusedSimpArgs false

theorem Ev.cps {α β γ : Type} (L : Nat → Int → β → Option γ) (K : Nat → β → Option γ) (xs : List α) (F : List α → β → β) (P : Nat → β → Prop)
    (h0 : ∀ acc r, P xs.length acc → Ev (fun k => K k (F [] acc)) r → Ev (fun k => L k (xs.length : Int) acc) r)
    (h1 : ∀ (i : Nat) (h : i < xs.length) (acc : β), P i acc → ∃ acc', P (i + 1) acc' ∧ F (xs[i] :: xs.drop (i + 1)) acc = F (xs.drop (i + 1)) acc' ∧ ∀ r, Ev (fun k => L k ((i : Int) + 1) acc') r → Ev (fun k => L k (i : Int) acc) r) :
    ∀ (d i : Nat) (acc : β) (r : γ), i + d = xs.length → P i acc → Ev (fun k => K k (F (xs.drop i) acc)) r → Ev (fun k => L k (i : Int) acc) r := by
  intro d
  induction d with
  | zero =>
    intro i acc r hi hp hr
    obtain rfl : i = xs.length := by omega
    rw [List.drop_length] at hr
    exact h0 acc r hp hr
  | succ d ih =>
    intro i acc r hi hp hr
    have hlt : i < xs.length := by omega
    rw [List.drop_eq_getElem_cons hlt] at hr
    obtain ⟨acc', hp', hF, hk⟩ := h1 i hlt acc hp
    rw [hF] at hr
    refine hk r ?_
    have e := ih (i + 1) acc' r (by omega) hp' hr
    rw [show (((i + 1 : Nat)) : Int) = (i : Int) + 1 from by omega] at e
    exact e

def cnt (c : Ch) (l : List Ch) : Nat := l.countP (crB c)
theorem cnt_pos {c d : Ch} (r : List Ch) (h : crB c d = true) : cnt c (d :: r) = cnt c r + 1 := by
  unfold cnt
  rw [List.countP_cons, if_pos h]
theorem cnt_neg {c d : Ch} (r : List Ch) (h : ¬ crB c d = true) : cnt c (d :: r) = cnt c r := by
  unfold cnt
  rw [List.countP_cons, if_neg h]
  rfl
theorem cnt_le (c : Ch) (l : List Ch) : cnt c l ≤ l.length := List.countP_le_length

theorem crossed_ev (l : List Ch) (c : Ch) (hl : l.length ≤ 4611686018427387904) : Ev (fun k => impl_crossed.f k l c.f0 c.f1) (cnt c l : Int) := by
  unfold impl_crossed.f
  have e := Ev.scan0 (fun k i (acc : Int) => impl_crossed.l0 k acc l (l.length : Int) i c.f0 c.f1) l (fun rest acc => acc + (cnt c rest : Int)) (fun i acc => 0 ≤ acc ∧ acc ≤ i)
    (fun acc hp => by
      refine Ev.step (fun k => by rw [impl_crossed.l0]) ?_
      exact Ev.neg (by omega) (Ev.val (by simp [cnt])))
    (fun i h acc hp => by
      have hr := rd_ch l i h
      by_cases hc : crB c l[i] = true
      · refine .inl ⟨acc + 1, ⟨by omega, by omega⟩, by rw [cnt_pos _ hc]; omega, fun r hr2 => ?_⟩
        refine Ev.step (fun k => by rw [impl_crossed.l0]) ?_
        refine Ev.pos (by omega) (Ev.pos (by omega) (Ev.pos (by omega) ?_))
        rw [hr]
        refine Ev.bindc (crossing_eq _ _) (Ev.pos hc ?_)
        rw [w64 (x := (i : Int) + 1) (by omega) (by omega), w64 (x := acc + 1) (by omega) (by omega)]
        exact hr2
      · refine .inl ⟨acc, ⟨by omega, by omega⟩, by rw [cnt_neg _ hc], fun r hr2 => ?_⟩
        refine Ev.step (fun k => by rw [impl_crossed.l0]) ?_
        refine Ev.pos (by omega) (Ev.pos (by omega) (Ev.pos (by omega) ?_))
        rw [hr]
        refine Ev.bindc (crossing_eq _ _) (Ev.neg hc ?_)
        rw [w64 (x := (i : Int) + 1) (by omega) (by omega)]
        exact hr2)
    0 ⟨by omega, by omega⟩
  simpa using e

/-- Pairs of chords that cross, each chord with those behind it. -/
def pairsN : List Ch → Nat
  | [] => 0
  | c :: r => cnt c r + pairsN r
/-- The same, each chord with those ahead of it. -/
def aheadN : List Ch → List Ch → Nat
  | _, [] => 0
  | pre, c :: r => cnt c pre + aheadN (pre ++ [c]) r
def withN (pre : List Ch) (l : List Ch) : Nat := (l.map fun c => cnt c pre).sum
theorem withN_cons (pre : List Ch) (c : Ch) : ∀ l : List Ch, withN (pre ++ [c]) l = withN pre l + cnt c l
  | [] => by simp [withN, cnt]
  | d :: r => by
    have ih := withN_cons pre c r
    unfold withN at *
    simp only [List.map_cons, List.sum_cons, ih]
    unfold cnt
    rw [List.countP_append, List.countP_cons]
    simp only [List.countP_cons, List.countP_nil, crB_comm c d]
    omega
theorem aheadN_eq : ∀ (l pre : List Ch), aheadN pre l = withN pre l + pairsN l
  | [], pre => by simp [aheadN, withN, pairsN]
  | c :: r, pre => by
    rw [aheadN, aheadN_eq r, withN_cons, pairsN]
    simp only [withN, List.map_cons, List.sum_cons]
    omega
theorem pairs_ahead (l : List Ch) : aheadN [] l = pairsN l := by
  rw [aheadN_eq]
  have : withN [] l = 0 := by
    unfold withN
    induction l with
    | nil => rfl
    | cons c r ih => rw [List.map_cons, List.sum_cons, ih]; rfl
  omega
theorem pairsN_le : ∀ l : List Ch, pairsN l ≤ l.length * l.length
  | [] => by simp [pairsN]
  | c :: r => by
    have h1 := pairsN_le r
    have h2 := cnt_le c r
    simp only [pairsN, List.length_cons]
    have : (r.length + 1) * (r.length + 1) = r.length * r.length + 2 * r.length + 1 := by
      rw [Nat.add_mul, Nat.mul_add]; omega
    omega

theorem crossings_evB (l : List Ch) (hl : l.length ≤ 1000) : Ev (fun k => impl_crossings.f k l) (pairsN l : Int) := by
  unfold impl_crossings.f
  have e := Ev.scan0 (fun k i (acc : Int × List Ch) => impl_crossings.l0 k l acc.1 l (l.length : Int) i) l (fun rest acc => acc.1 + (aheadN acc.2 rest : Int)) (fun i acc => acc.2 = l.take i ∧ 0 ≤ acc.1 ∧ acc.1 ≤ i * 1000)
    (fun acc hp => by
      refine Ev.step (fun k => by rw [impl_crossings.l0]) ?_
      exact Ev.neg (by omega) (Ev.val (by simp [aheadN])))
    (fun i h acc hp => by
      obtain ⟨hp1, hp2, hp3⟩ := hp
      have hr := rd_ch l i h
      have hcn := cnt_le l[i] (l.take i)
      have htl : (l.take i).length = i := by rw [List.length_take]; omega
      refine .inl ⟨(acc.1 + cnt l[i] (l.take i), l.take (i + 1)), ⟨rfl, by omega, by simp only; omega⟩, ?_, fun r hr2 => ?_⟩
      · rw [hp1, aheadN, List.take_succ_eq_append_getElem h]
        simp only
        omega
      · refine Ev.step (fun k => by rw [impl_crossings.l0]) ?_
        refine Ev.pos (by omega) (Ev.pos (by omega) (Ev.pos (by omega) (Ev.pos (by omega) ?_)))
        rw [hr, Int.toNat_natCast]
        refine Ev.bindk (crossed_ev (l.take i) l[i] (by omega)) ?_
        rw [w64 (x := (i : Int) + 1) (by omega) (by omega), w64 (x := acc.1 + (cnt l[i] (l.take i) : Int)) (by omega) (by omega)]
        exact hr2)
    (0, []) ⟨by simp, by omega, by simp⟩
  simp only [pairs_ahead, Int.zero_add] at e
  exact e

theorem crossings_ev (l : List Ch) (hl : l.length ≤ 40) : Ev (fun k => impl_crossings.f k l) (pairsN l : Int) := crossings_evB l (by omega)
end Go.Proofs.Ytdeenfpcmaadcaa.M

/- All regions of a plane set: the program's row and the reference's. -/
namespace Go.Proofs.Ytdeenfpcmaadcaa.M
open Go.RowKit Go.Proofs.YtdeenfpcmaadcaaW.PrintWords Go.Proofs.Ytdeenfpcmaadcaa.Pr
set_option linter.unusedVariables false
set_option linter.unusedSimpArgs false
theorem chain_lt (p : Int) : ∀ (l : List Ch) (b : Ch), chain p (some b) l = true → ∀ c ∈ l, ltB b c = true
  | [], _, _, _, h => by cases h
  | d :: r, b, h, c, hc => by
    unfold chain at h
    simp only [Bool.and_eq_true] at h
    rcases List.mem_cons.1 hc with rfl | hc
    · exact h.2.1
    · have h2 := chain_lt p r d h.2.2 c hc
      have h1 := h.2.1
      unfold ltB at *
      rw [decide_eq_true_iff] at *
      omega
theorem chain_nodup (p : Int) : ∀ (l : List Ch) (prev : Option Ch), chain p prev l = true → l.Nodup
  | [], _, _ => List.nodup_nil
  | d :: r, prev, h => by
    unfold chain at h
    simp only [Bool.and_eq_true] at h
    refine List.nodup_cons.2 ⟨fun q => ?_, chain_nodup p r (some d) h.2.2⟩
    have := chain_lt p r d h.2.2 d q
    unfold ltB at this
    rw [decide_eq_true_iff] at this
    omega
theorem crB_self (c : Ch) : crB c c = false := by
  unfold crB
  rw [decide_eq_false_iff_not]
  omega
theorem pairs_zero : ∀ l : List Ch, pairsN l = 0 → ∀ c ∈ l, ∀ d ∈ l, crB c d = false
  | [], _, c, hc, _, _ => by cases hc
  | x :: r, h, c, hc, d, hd => by
    rw [pairsN] at h
    have h1 : cnt x r = 0 := by omega
    have h2 : pairsN r = 0 := by omega
    have hx : ∀ y ∈ r, crB x y = false := fun y hy => by
      unfold cnt at h1
      have := List.countP_eq_zero.1 h1 y hy
      simpa using this
    rcases List.mem_cons.1 hc with rfl | hc2
    · rcases List.mem_cons.1 hd with rfl | hd2
      · exact crB_self _
      · exact hx d hd2
    · rcases List.mem_cons.1 hd with rfl | hd2
      · rw [crB_comm]; exact hx c hc2
      · exact pairs_zero r h2 c hc2 d hd2
theorem planeP_of {p : Int} {l : List Ch} (hg : goodB p l = true) (hc : pairsN l = 0) : PlaneP p l := by
  obtain ⟨hp, h40, hv⟩ := good_ok hg
  refine ⟨⟨fun c hcm => (hv c hcm).2.1, pairs_zero l hc⟩, ?_, hp.1, fun d hd => ⟨(hv d hd).1, (hv d hd).2.2⟩⟩
  unfold goodB at hg
  simp only [Bool.and_eq_true, decide_eq_true_eq] at hg
  exact chain_nodup p l none hg.2.2
def regS (p : Int) (P : List Ch) (c : Ch) : SR := ⟨ptsW p P c, chsW p P c, arcsW p P c⟩
def rgsS (p : Int) (P : List Ch) : List SR := sortR ((outC p :: P).map (regS p P))
theorem sortR_perm (xs : List SR) : (sortR xs).Perm xs := List.mergeSort_perm _ _
theorem sortR_sorted (xs : List SR) : LS ((sortR xs).map (·.f0)) := by
  have h := List.pairwise_mergeSort (le := fun x y : SR => !(lexB y.f0 x.f0))
    (fun a b c h1 h2 => by
      rw [Bool.not_eq_true'] at *
      exact lexB_ge_trans h1 h2)
    (fun a b => by
      cases e : lexB b.f0 a.f0 with
      | false => rfl
      | true =>
        cases e2 : lexB a.f0 b.f0 with
        | false => rfl
        | true =>
          have := lexB_trans _ _ _ e e2
          rw [lexB_irrefl] at this
          cases this) xs
  unfold LS sortR
  rw [List.pairwise_map]
  exact h.imp (fun h => by rwa [Bool.not_eq_true'] at h)
section
variable {p : Int} {P : List Ch} (H : PlaneP p P)
include H
theorem map_pts : ((outC p :: P).map (regS p P)).map (·.f0) = (outC p :: P).map (regN p P) := by
  rw [List.map_map]
  exact List.map_congr_left (fun c hc => ptsW_eq H (List.mem_cons.1 hc))
/-- The reference's rows are the points of the program's regions. -/
theorem ref_eq : (foldR P [ptsTo p]).foldl (insB lexB) [] = (rgsS p P).map (·.f0) := by
  obtain ⟨h1, h2⟩ := ref_perm H
  refine ls_uniq _ _ (h1.trans ?_) h2 (sortR_sorted _)
  have e := (sortR_perm ((outC p :: P).map (regS p P))).map (·.f0)
  rw [map_pts H] at e
  exact e.symm
theorem allR_ev (hp : p ≤ 1000) (hl : P.length ≤ 1000) : ∀ cs : List Ch, (∀ c ∈ cs, c ∈ P) → Ev (fun k => allR k P cs) (cs.map (regS p P))
  | [], _ => Ev.val rfl
  | c :: cs, h => by
    have e := allR_ev hp hl cs (fun d hd => h d (List.mem_cons_of_mem _ hd))
    show Ev (fun k => (impl_regionInside.f k P c.f0 c.f1 true).bind fun q => (allR k P cs).bind fun rs => some (mkR q :: rs)) _
    exact Ev.bindk (inside_ev H (h c List.mem_cons_self) hp hl) (Ev.bindk e (Ev.val rfl))
end
theorem pts_le (p : Int) (P : List Ch) (c : Ch) : (regN p P c).length ≤ p.toNat := by
  unfold regN
  refine Nat.le_trans (List.length_filter_le _ _) ?_
  simp [ptsTo]
/-- What planeRegions computes. -/
def planeB (p : Int) (l : List Ch) : List SR × Bool := if goodB p l = true ∧ pairsN l = 0 then (rgsS p l, true) else ([], false)
theorem planeRegions_ev (p : Int) (l : List Ch) (hl : l.length ≤ 9223372036854775807) : Ev (fun k => impl_planeRegions.f k p l) (planeB p l) := by
  unfold impl_planeRegions.f
  refine Ev.bindk (isSet_ev p l hl) ?_
  by_cases hg : goodB p l = true
  · obtain ⟨hp, h40, hv⟩ := good_ok hg
    refine Ev.pos hg (Ev.bindk (crossings_ev l h40) ?_)
    by_cases hc : pairsN l = 0
    · have H := planeP_of hg hc
      refine Ev.neg (by omega) (Ev.pos ⟨by omega, by omega, by omega⟩ (Ev.bindk (outer_ev H (by omega) (by omega)) (Ev.bindk (allR_ev H (by omega) (by omega) l (fun _ h => h)) ?_)))
      have e : (mkR (ptsW p l (outC p), chsW p l (outC p), arcsW p l (outC p)) :: l.map (regS p l)) = (outC p :: l).map (regS p l) := rfl
      rw [e]
      refine Ev.pos ⟨?_, fun x hx => ?_⟩ (Ev.val ?_)
      · rw [map_pts H]; exact regs_nodup H
      · obtain ⟨c, hc, rfl⟩ := List.mem_map.1 hx
        show (ptsW p l c).length ≤ 1000000
        rw [ptsW_eq H (List.mem_cons.1 hc)]
        have := pts_le p l c
        omega
      · rw [planeB, if_pos ⟨hg, hc⟩]; rfl
    · refine Ev.pos (by omega) (Ev.val ?_)
      rw [planeB, if_neg (fun h => hc h.2)]
  · refine Ev.neg hg (Ev.val ?_)
    rw [planeB, if_neg (fun h => hg h.1)]
theorem reList_ev (p : Int) (l : List Ch) (hg : goodB p l = true) (hc : pairsN l = 0) : spec_reList.f p l = some ((rgsS p l).map (·.f0)) := by
  obtain ⟨hp, h40, hv⟩ := good_ok hg
  unfold spec_reList.f
  rw [if_pos ⟨⟨by omega, by omega⟩, by omega⟩, ref_eq (planeP_of hg hc)]
end Go.Proofs.Ytdeenfpcmaadcaa.M

/- How many chords cross: the program's counts and the reference's pairs are one number. -/
namespace Go.Proofs.Ytdeenfpcmaadcaa.M
open Go.RowKit Go.Proofs.YtdeenfpcmaadcaaW.PrintWords Go.Proofs.Ytdeenfpcmaadcaa.Pr
set_option linter.unusedVariables false
set_option linter.unusedSimpArgs false

/-- The rows of pairs that the reference lists. -/
def rowOf (i : Int) (c : Ch) : Int → List Ch → List (List Int)
  | _, [] => []
  | j, d :: r => if crB c d = true then [i, j] :: rowOf i c (j + 1) r else rowOf i c (j + 1) r
def pairsOf : Int → List Ch → List (List Int)
  | _, [] => []
  | i, c :: r => rowOf i c (i + 1) r ++ pairsOf (i + 1) r
theorem rowOf_length (i : Int) (c : Ch) : ∀ (l : List Ch) (j : Int), (rowOf i c j l).length = cnt c l
  | [], j => by simp [rowOf, cnt]
  | d :: r, j => by
    have ih := rowOf_length i c r (j + 1)
    unfold cnt at *
    rw [rowOf, List.countP_cons]
    split
    · rename_i h
      simp [ih, h]
    · rename_i h
      simp [ih, h]
theorem pairsOf_length : ∀ (l : List Ch) (i : Int), (pairsOf i l).length = pairsN l
  | [], i => by simp [pairsOf, pairsN]
  | c :: r, i => by
    rw [pairsOf, pairsN, List.length_append, rowOf_length, pairsOf_length r]

theorem cdPairs_ev (l : List Ch) (hl : l.length ≤ 40) (hv : ∀ c ∈ l, c.f0 < c.f1) : Ev (fun k => spec_cdPairs.f k l) (pairsOf 0 l) := by
  unfold spec_cdPairs.f
  have inner : ∀ (i : Nat) (hi : i < l.length) (r : List (List Int)) (acc : List (List Int)), acc.length ≤ i * 40 → Ev (fun k => spec_cdPairs.l0 k l (acc ++ rowOf i l[i] (i + 1) (l.drop (i + 1))) l (l.length : Int) ((i : Int) + 1)) r →
      Ev (fun k => spec_cdPairs.l1 k l acc (i : Int) ((i : Int) + 1) l (l.length : Int) (i : Int) l[i].f0 l[i].f1) r := by
    intro i hi r acc hacc hr
    have e := Ev.cps (fun k j (a : List (List Int)) => spec_cdPairs.l1 k l a (i : Int) j l (l.length : Int) (i : Int) l[i].f0 l[i].f1)
      (fun k a => spec_cdPairs.l0 k l a l (l.length : Int) ((i : Int) + 1)) l
      (fun rest a => a ++ rowOf i l[i] ((l.length : Int) - rest.length) rest) (fun j a => i + 1 ≤ j ∧ a.length ≤ i * 40 + j)
      (fun a r _ hr => by
        refine Ev.step (fun k => by rw [spec_cdPairs.l1]) ?_
        refine Ev.neg (by omega) ?_
        rw [w64 (x := (i : Int) + 1) (by omega) (by omega)]
        simpa [rowOf] using hr)
      (fun j hj a hp => by
        obtain ⟨hp1, hp2⟩ := hp
        have hrd := rd_ch l j hj
        have hlen : ((l.drop (j + 1)).length : Int) = l.length - (j + 1) := by rw [List.length_drop]; omega
        have hx : ∀ q : Nat, q = (l.drop (j + 1)).length + 1 → (l.length : Int) - (q : Int) = (j : Int) := by intro q hq; omega
        have hcv := hv l[i] (List.getElem_mem hi)
        have hdv := hv l[j] (List.getElem_mem hj)
        by_cases hc : crB l[i] l[j] = true
        · refine ⟨a ++ [[(i : Int), (j : Int)]], ⟨by omega, by simp; omega⟩, ?_, fun r hr2 => ?_⟩
          · rw [List.length_cons, rowOf, if_pos hc, hx _ rfl, show (l.length : Int) - ((l.drop (j + 1)).length : Int) = (j : Int) + 1 by omega]
            simp
          · refine Ev.step (fun k => by rw [spec_cdPairs.l1]) ?_
            refine Ev.pos (by omega) (Ev.pos (by omega) ?_)
            rw [hrd]
            refine Ev.bindc (srCross_eq _ _ hcv hdv) (Ev.pos hc (Ev.pos ?_ ?_))
            · have : i * 40 ≤ 1600 := by omega
              omega
            · rw [w64 (x := (j : Int) + 1) (by omega) (by omega)]
              exact hr2
        · refine ⟨a, ⟨by omega, by omega⟩, ?_, fun r hr2 => ?_⟩
          · rw [List.length_cons, rowOf, if_neg hc, hx _ rfl, show (l.length : Int) - ((l.drop (j + 1)).length : Int) = (j : Int) + 1 by omega]
          · refine Ev.step (fun k => by rw [spec_cdPairs.l1]) ?_
            refine Ev.pos (by omega) (Ev.pos (by omega) ?_)
            rw [hrd]
            refine Ev.bindc (srCross_eq _ _ hcv hdv) (Ev.neg hc ?_)
            rw [w64 (x := (j : Int) + 1) (by omega) (by omega)]
            exact hr2)
      (l.length - (i + 1)) (i + 1) acc r (by omega) ⟨by omega, by omega⟩ (by
        have : (l.length : Int) - ((l.drop (i + 1)).length : Int) = (i : Int) + 1 := by rw [List.length_drop]; omega
        rw [this]
        exact hr)
    rw [show (((i + 1 : Nat)) : Int) = (i : Int) + 1 from by omega] at e
    exact e
  have e := Ev.scan0 (fun k i (acc : List (List Int)) => spec_cdPairs.l0 k l acc l (l.length : Int) i) l (fun rest acc => acc ++ pairsOf ((l.length : Int) - rest.length) rest) (fun i acc => acc.length ≤ i * 40)
    (fun acc hp => by
      refine Ev.step (fun k => by rw [spec_cdPairs.l0]) ?_
      exact Ev.neg (by omega) (Ev.val (by simp [pairsOf])))
    (fun i h acc hp => by
      have hr := rd_ch l i h
      have hcl := cnt_le l[i] (l.drop (i + 1))
      have hdl : (l.drop (i + 1)).length = l.length - (i + 1) := List.length_drop
      have hx : ∀ q : Nat, q = (l.drop (i + 1)).length + 1 → (l.length : Int) - (q : Int) = (i : Int) := by intro q hq; omega
      refine .inl ⟨acc ++ rowOf i l[i] (i + 1) (l.drop (i + 1)), ?_, ?_, fun r hr2 => ?_⟩
      · rw [List.length_append, rowOf_length]; omega
      · rw [List.length_cons, pairsOf, hx _ rfl, show (l.length : Int) - ((l.drop (i + 1)).length : Int) = (i : Int) + 1 by omega, List.append_assoc]
      · refine Ev.step (fun k => by rw [spec_cdPairs.l0]) ?_
        refine Ev.pos (by omega) (Ev.pos (by omega) (Ev.pos (by omega) ?_))
        rw [hr, w64 (x := (i : Int) + 1) (by omega) (by omega)]
        exact inner i h r acc hp hr2)
    [] (by simp)
  simpa using e
end Go.Proofs.Ytdeenfpcmaadcaa.M

/- Plane sets as the reference tells them; the regions' rows, how many and how long. -/
namespace Go.Proofs.Ytdeenfpcmaadcaa.M
open Go.RowKit Go.Proofs.YtdeenfpcmaadcaaW.PrintWords Go.Proofs.Ytdeenfpcmaadcaa.Pr
set_option linter.unusedVariables false
set_option linter.unusedSimpArgs false
theorem rgs_len (p : Int) (l : List Ch) : (rgsS p l).length = l.length + 1 := by
  unfold rgsS
  rw [(sortR_perm _).length_eq, List.length_map, List.length_cons]
theorem rePlane_ev (p : Int) (l : List Ch) (hl : l.length ≤ 9223372036854775807) : Ev (fun k => spec_rePlane.f k p l) (decide (goodB p l = true ∧ pairsN l = 0)) := by
  unfold spec_rePlane.f
  refine Ev.bindk (cdGood_ev p l hl) ?_
  by_cases hg : goodB p l = true
  · obtain ⟨hp, h40, hv⟩ := good_ok hg
    refine Ev.pos hg (Ev.bindk (cdPairs_ev l h40 (fun c hc => (hv c hc).2.1)) (Ev.val ?_))
    rw [pairsOf_length, Bool.eq_iff_iff, beq_iff_eq, decide_eq_true_iff]
    simp only [hg, true_and]
    congr 1
    simp
  · exact Ev.neg hg (Ev.val (by simp [hg]))
/-- The rows of all regions, in order. -/
def rowsS (p : Int) (l : List Ch) : List (List Int) := (rgsS p l).map (·.f0)
theorem rows_len (p : Int) (l : List Ch) : (rowsS p l).length = l.length + 1 := by unfold rowsS; rw [List.length_map, rgs_len]
theorem mem_rgs {p : Int} {l : List Ch} {x : SR} : x ∈ rgsS p l ↔ ∃ c, (c = outC p ∨ c ∈ l) ∧ x = regS p l c := by
  unfold rgsS
  rw [(sortR_perm _).mem_iff, List.mem_map]
  constructor
  · rintro ⟨c, hc, rfl⟩; exact ⟨c, List.mem_cons.1 hc, rfl⟩
  · rintro ⟨c, hc, rfl⟩; exact ⟨c, List.mem_cons.2 hc, rfl⟩
theorem row_le {p : Int} {l : List Ch} (H : PlaneP p l) {r : List Int} (hr : r ∈ rowsS p l) : r.length ≤ p.toNat := by
  obtain ⟨x, hx, rfl⟩ := List.mem_map.1 hr
  obtain ⟨c, hc, rfl⟩ := mem_rgs.1 hx
  show (ptsW p l c).length ≤ p.toNat
  rw [ptsW_eq H hc]
  exact pts_le p l c
theorem sum_le (n : Nat) : ∀ rs : List (List Int), (∀ r ∈ rs, r.length ≤ n) → (rs.map List.length).sum ≤ rs.length * n
  | [], _ => by simp
  | r :: rs, h => by
    have h1 := h r (by simp)
    have h2 := sum_le n rs (fun q hq => h q (by simp [hq]))
    rw [List.map_cons, List.sum_cons, List.length_cons, Nat.add_mul]
    omega
theorem perm_map_inv {α β : Type} (f : α → β) {xs ys : List β} (h : xs.Perm ys) : ∀ l : List α, ys = l.map f → ∃ l' : List α, l'.Perm l ∧ xs = l'.map f := by
  induction h with
  | nil => intro l e; exact ⟨[], by rw [List.map_eq_nil_iff.1 e.symm], rfl⟩
  | cons x h ih =>
    intro l e
    obtain ⟨a, l0, rfl, rfl, e2⟩ := List.map_eq_cons_iff.1 e.symm
    obtain ⟨l', h1, h2⟩ := ih l0 e2.symm
    exact ⟨a :: l', h1.cons a, by rw [h2]; rfl⟩
  | swap x y l0 =>
    intro l e
    obtain ⟨a, l1, rfl, rfl, e2⟩ := List.map_eq_cons_iff.1 e.symm
    obtain ⟨b, l2, rfl, rfl, e3⟩ := List.map_eq_cons_iff.1 e2
    exact ⟨b :: a :: l2, List.Perm.swap .., by rw [← e3]; rfl⟩
  | trans h1 h2 ih1 ih2 =>
    intro l e
    obtain ⟨l2, q1, q2⟩ := ih2 l e
    obtain ⟨l1, q3, q4⟩ := ih1 l2 q2
    exact ⟨l1, q3.trans q1, q4⟩
/-- The regions in order are those of the chords in some order. -/
theorem rgs_chords (p : Int) (l : List Ch) : ∃ cs : List Ch, cs.Perm (outC p :: l) ∧ rgsS p l = cs.map (regS p l) := by
  unfold rgsS
  exact perm_map_inv _ (sortR_perm _) _ rfl
end Go.Proofs.Ytdeenfpcmaadcaa.M

/- Neighbours: two regions with a chord in common are those with two points in common. -/
namespace Go.Proofs.Ytdeenfpcmaadcaa.M
open Go.RowKit Go.Proofs.YtdeenfpcmaadcaaW.PrintWords Go.Proofs.Ytdeenfpcmaadcaa.Pr
set_option linter.unusedVariables false
set_option linter.unusedSimpArgs false
theorem rowK_eq (a : Rg) (i : Nat) : ∀ (k : Nat) (r : List Rg), (∀ b ∈ r, shB a b = true ↔ comN a.f0 b.f0 = 2) → rowK a i k r = rowR a.f0 i k (r.map (·.f0))
  | _, [], _ => rfl
  | k, b :: r, h => by
    have ih := rowK_eq a i (k + 1) r (fun q hq => h q (List.mem_cons_of_mem _ hq))
    have h1 := h b List.mem_cons_self
    rw [List.map_cons, rowK, rowR, ih]
    by_cases e : shB a b = true
    · rw [if_pos e, if_pos (h1.1 e)]
    · rw [if_neg e, if_neg (fun q => e (h1.2 q))]
theorem neighL_eq : ∀ (i : Nat) (r : List Rg), r.Pairwise (fun a b => shB a b = true ↔ comN a.f0 b.f0 = 2) → neighL i r = neighR i (r.map (·.f0))
  | _, [], _ => rfl
  | i, a :: r, h => by
    obtain ⟨h1, h2⟩ := List.pairwise_cons.1 h
    rw [List.map_cons, neighL, neighR, rowK_eq a i (i + 1) r h1, neighL_eq (i + 1) r h2]
theorem sh_iff {p : Int} {P : List Ch} (H : PlaneP p P) {c d : Ch} (hc : c = outC p ∨ c ∈ P) (hd : d = outC p ∨ d ∈ P) (hne : c ≠ d) : shB (regS p P c) (regS p P d) = true ↔ comN (regS p P c).f0 (regS p P d).f0 = 2 := by
  show ((chsW p P c).any fun e => hasC (chsW p P d) e) = true ↔ comN (ptsW p P c) (ptsW p P d) = 2
  rw [ptsW_eq H hc, ptsW_eq H hd, com_two H hc hd hne, ← share_iff H hc hd hne, List.any_eq_true]
  constructor
  · rintro ⟨e, h1, h2⟩; exact ⟨e, h1, (hasC_iff _ _).1 h2⟩
  · rintro ⟨e, h1, h2⟩; exact ⟨e, h1, (hasC_iff _ _).2 h2⟩
/-- The program's neighbours are the reference's. -/
theorem neigh_eq {p : Int} {P : List Ch} (H : PlaneP p P) : neighL 0 (rgsS p P) = neighR 0 (rowsS p P) := by
  refine neighL_eq 0 (rgsS p P) ?_
  obtain ⟨cs, h1, h2⟩ := rgs_chords p P
  rw [h2, List.pairwise_map]
  have hn : cs.Nodup := (h1.nodup_iff).2 (List.nodup_cons.2 ⟨out_not H, H.nd⟩)
  have hm : ∀ c ∈ cs, c = outC p ∨ c ∈ P := fun c hc => List.mem_cons.1 (h1.mem_iff.1 hc)
  exact List.Pairwise.imp_of_mem (fun {a b} ha hb hne => sh_iff H (hm a ha) (hm b hb) hne) hn
theorem reNext_eq (p : Int) (l : List Ch) (hg : goodB p l = true) (hc : pairsN l = 0) : spec_reNext.f p l = some (neighL 0 (rgsS p l)) := by
  unfold spec_reNext.f
  obtain ⟨hp, h40, hv⟩ := good_ok hg
  have H := planeP_of hg hc
  rw [reList_ev p l hg hc, neigh_eq H]
  show (if _ then _ else _) = _
  rw [if_pos ⟨by rw [List.length_map, rgs_len]; omega, fun r hr => by have := row_le H hr; omega⟩]
  rfl
end Go.Proofs.Ytdeenfpcmaadcaa.M

/- The program's NextRegions returns what the reference's returns, for all arguments. -/
namespace Go.Proofs.Ytdeenfpcmaadcaa.Pure
open Go.RowKit Go.Proofs.Ytdeenfpcmaadcaa.Pr Go.Proofs.Ytdeenfpcmaadcaa.M Go.Proofs.YtdeenfpcmaadcaaW.PrintWords Go.Proofs.YtdeenfpcmaadcaaW.PrintLast
set_option linter.unusedVariables false
set_option linter.unusedSimpArgs false
def nextB (p : Int) (l : List Ch) : List (List Int) × Bool := if goodB p l = true ∧ pairsN l = 0 then (neighL 0 (rgsS p l), true) else ([], false)
theorem next_spec (p : Int) (l : List Ch) (hl : l.length ≤ 9223372036854775807) : Ev (fun k => spec_NextRegions.f k p l) (nextB p l) := by
  unfold spec_NextRegions.f
  refine Ev.bindk (rePlane_ev p l hl) ?_
  by_cases hg : goodB p l = true ∧ pairsN l = 0
  · refine Ev.pos (decide_eq_true hg) (Ev.bindc (reNext_eq p l hg.1 hg.2) (Ev.val ?_))
    rw [nextB, if_pos hg]
  · refine Ev.neg (by simpa using hg) (Ev.val ?_)
    rw [nextB, if_neg hg]
theorem next_impl (p : Int) (l : List Ch) (hl : l.length ≤ 9223372036854775807) : Ev (fun k => impl_NextRegions.f k p l) (nextB p l) := by
  unfold impl_NextRegions.f
  refine Ev.bindk (planeRegions_ev p l hl) ?_
  by_cases hg : goodB p l = true ∧ pairsN l = 0
  · obtain ⟨hp, h40, hv⟩ := good_ok hg.1
    rw [planeB, if_pos hg]
    refine Ev.pos rfl (Ev.bindc (show impl_neighbours.f (rgsS p l) = some (neighL 0 (rgsS p l)) by unfold impl_neighbours.f; rw [if_pos (by rw [rgs_len]; omega)]) (Ev.val ?_))
    rw [nextB, if_pos hg]
  · rw [planeB, if_neg hg, nextB, if_neg hg]
    exact Ev.neg (by simp) (Ev.val rfl)
theorem row2 (a : Rg) (i : Nat) : ∀ (k : Nat) (r : List Rg), ∀ q ∈ rowK a i k r, q.length = 2
  | _, [], q, h => by cases h
  | k, b :: r, q, h => by
    unfold rowK at h
    split at h
    · rcases List.mem_cons.1 h with rfl | h
      · rfl
      · exact row2 a i (k + 1) r q h
    · exact row2 a i (k + 1) r q h
theorem neigh2 : ∀ (i : Nat) (r : List Rg), ∀ q ∈ neighL i r, q.length = 2
  | _, [], q, h => by cases h
  | i, a :: r, q, h => by
    rcases List.mem_append.1 h with h | h
    · exact row2 a i (i + 1) r q h
    · exact neigh2 (i + 1) r q h
theorem neigh_many : ∀ (i : Nat) (r : List Rg), (neighL i r).length ≤ r.length * r.length
  | _, [] => by simp [neighL]
  | i, a :: r => by
    have h1 := rowK_len a i (i + 1) r
    have h2 := neigh_many (i + 1) r
    rw [neighL, List.length_append, List.length_cons, Nat.add_mul, Nat.mul_add]
    omega
theorem next_small (p : Int) (l : List Ch) : (nextB p l).1.length ≤ 1000000 ∧ totS (nextB p l).1 ≤ 1000000000 ∧ ∀ r ∈ (nextB p l).1, r.length ≤ 1000000 := by
  unfold nextB
  split
  · rename_i h
    obtain ⟨hp, h40, hv⟩ := good_ok h.1
    have h2 : ∀ r ∈ neighL 0 (rgsS p l), r.length ≤ 2 := fun r hr => by rw [neigh2 0 _ r hr]; exact Nat.le_refl _
    have h3 := sum_le 2 _ h2
    have h1 := neigh_many 0 (rgsS p l)
    have h4 : (rgsS p l).length * (rgsS p l).length ≤ 1000 * 1000 := Nat.mul_le_mul (by rw [rgs_len]; omega) (by rw [rgs_len]; omega)
    refine ⟨by simp only; omega, ?_, fun r hr => by have := h2 r hr; omega⟩
    show ((neighL 0 (rgsS p l)).map List.length).sum ≤ _
    omega
  · simp [totS]
theorem FnExactNextRegions : ∀ (a0 : Int) (l1 : List S49), (Lit.int .i64 a0).wf = true → l1.length ≤ maxLen → (∀ x ∈ l1, (Lit.int .i64 x.f0).wf = true ∧ (Lit.int .i64 x.f1).wf = true) → ∃ k, laws_FnExactNextRegions.f k a0 l1 = some true := by
  intro a0 l _ hm _
  refine Ev.rounds ?_
  unfold laws_FnExactNextRegions.f
  by_cases hl : l.length ≤ 1048576
  · have hml : (l.map toC).length ≤ 1048576 := by simpa using hl
    obtain ⟨h1, h2, h3⟩ := next_small a0 (l.map toC)
    refine Ev.bindc (szC_small l hl) (Ev.neg (by omega) ?_)
    refine Ev.bindk (toC_ev l hl) (Ev.bindk (next_spec a0 _ (by omega)) (Ev.bindk (next_impl a0 _ (by omega)) (Ev.pos ⟨rfl, h1, h2⟩ ?_)))
    refine Ev.bindk (eqSS_ev _ h1 h3) (Ev.bindk (eqC_ev _ (by omega)) (Ev.bindk (markC_ev _ 1 (by omega) (by omega)) (Ev.bindk (heldSS_ev _ 1 (by omega) h1 (by omega)) ?_)))
    exact Ev.pos ⟨rfl, rfl, by simp only; omega, rfl⟩ (Ev.now true)
  · exact Ev.bindc (szC_big l (by omega) hm) (Ev.pos (by omega) (Ev.now true))
end Go.Proofs.Ytdeenfpcmaadcaa.Pure

/- Shared steps of the rows: an argument that is a slice of structs of whole numbers, read as a list of lists of numbers. -/
namespace Go.Proofs.Ytdeenfpcmaadcaa.RowA
open Go.ChangeShapes Go.WideShapes Go.Deep Go.RowKit Go.Proofs.YtdeenfpcmaadcaaW.PrintWords
section
variable {H : Type} {enc : TypeId × Value → H} {P : Program} {w : World} {base : Nat} {spare : Nat → Bool} {held : Bool}

/-- A slice of structs whose fields are one cell each: nil, or an address with, for each element and each field, the cell and the field's own reading. -/
theorem open_cells {t e : TypeId} {fs : Array Field} {fuel : Nat} {cs : List Value} {x : DataW H × List MemPlace} (ht : P.underlying t = some (.slice e)) (he : P.underlying e = some (.struct fs))
    (hone : oneCellFields P fs = true) (hC : P.cellsOf e = fs.size) (h : DataW.trod enc P w base spare held fuel t cs = some x) :
    cs = [.slice none 0 0] ∨
    ∃ (a : Addr) (len cap : Nat), cs = [.slice (some a) len cap] ∧ len ≤ cap ∧ cap ≤ maxLen ∧
      ∀ i, i < len → ∃ n, ∀ (j : Nat) (f : Field), fs[j]? = some f → ∃ (v : Value) (y : DataW H × List MemPlace), w.cell? (a.add (i * fs.size + j)) = some v ∧ DataW.trod enc P w base spare held n f.type [v] = some y := by
  rcases open_slice ht h with h0 | ⟨a, len, cap, m, n, D, Pl, hcs, hb, hl, hm, hmm, hx, hi⟩
  · exact .inl h0.1
  · refine .inr ⟨a, len, cap, hcs, hl, hm, fun i hil => ?_⟩
    have him : i < m := by
      rw [hmm]
      split
      · omega
      · exact hil
    obtain ⟨cs', hc, ht'⟩ := hi i him
    rw [hC] at hc
    obtain ⟨ys, n', hn', hy, hlen, hyl, hf⟩ := DataW.trod_struct he ht'
    obtain ⟨_, hcl, hat⟩ := World.cells?_some hc
    refine ⟨n', fun j f hj => ?_⟩
    obtain ⟨ho, hk⟩ := hone_of hone j f hj
    have hjl : j < fs.size := (Array.getElem?_eq_some_iff.1 hj).1
    have hcell := hat j hjl
    have hv : cs'[j]? = some (cs'[j]'(by omega)) := List.getElem?_eq_getElem (by omega)
    have h1 := hf j f hj
    rw [ho, hk] at h1
    have hone' : (cs'.drop j).take 1 = [cs'[j]'(by omega)] := by
      rw [List.drop_eq_getElem_cons (by omega)]
      rfl
    rw [hone'] at h1
    have hys : ys[j]? = some (ys[j]'(by omega)) := List.getElem?_eq_getElem (by omega)
    refine ⟨_, _, ?_, h1.trans hys⟩
    rw [← Go.Deep.add_add, hcell, hv]

/-- One whole number's reading. -/
theorem read_i64 {t : TypeId} {n : Nat} {v : Value} {y : DataW H × List MemPlace} (hu : P.underlying t = some (.int .i64)) (h : DataW.trod enc P w base spare held n t [v] = some y) :
    ∃ z : Int, v = .int .i64 z ∧ (Lit.int .i64 z).wf = true := by
  obtain ⟨z, hz, _, hw⟩ := DataW.trod_int hu h
  simp at hz
  exact ⟨z, hz, hw⟩

/-- A slice of structs of m whole numbers, as it is handed over: the numbers by element and field. -/
theorem open_nums {t e : TypeId} {fs : Array Field} {a : Option Addr} {len cap : Nat} {d : DataW H} {ps : List MemPlace} (ht : P.underlying t = some (.slice e)) (he : P.underlying e = some (.struct fs))
    (hone : oneCellFields P fs = true) (hC : P.cellsOf e = fs.size) (hi : ∀ (j : Nat) (f : Field), fs[j]? = some f → P.underlying f.type = some (.int .i64))
    (h : DataW.Trod enc P w base spare held t (.slice a len cap) d ps) :
    len ≤ cap ∧ len ≤ maxLen ∧ ∃ z : Nat → Nat → Int, (∀ i j, i < len → j < fs.size → (Lit.int .i64 (z i j)).wf = true) ∧
      (0 < len → ∃ ad, a = some ad ∧ ∀ i j, i < len → j < fs.size → w.cell? (ad.add (i * fs.size + j)) = some (.int .i64 (z i j))) := by
  obtain ⟨fuel, hf⟩ := h
  rcases open_cells ht he hone hC hf with hcs | ⟨x, l, c, hcs, hl, hm, hcell⟩
  · simp [Value.cells] at hcs
    obtain ⟨rfl, rfl, rfl⟩ := hcs
    exact ⟨Nat.le_refl _, Nat.zero_le _, fun _ _ => 0, fun i j h => absurd h (Nat.not_lt_zero _), fun h => absurd h (Nat.not_lt_zero _)⟩
  · simp [Value.cells] at hcs
    obtain ⟨rfl, rfl, rfl⟩ := hcs
    refine ⟨hl, Nat.le_trans hl hm, ?_⟩
    have hz : ∀ i j, ∃ z : Int, i < len → j < fs.size → w.cell? (x.add (i * fs.size + j)) = some (.int .i64 z) ∧ (Lit.int .i64 z).wf = true := by
      intro i j
      by_cases h1 : i < len
      · by_cases h2 : j < fs.size
        · obtain ⟨n, hn⟩ := hcell i h1
          obtain ⟨v, y, hv, hy⟩ := hn j fs[j] (Array.getElem?_eq_getElem h2)
          obtain ⟨z, rfl, hw⟩ := read_i64 (hi j fs[j] (Array.getElem?_eq_getElem h2)) hy
          exact ⟨z, fun _ _ => ⟨hv, hw⟩⟩
        · exact ⟨0, fun _ h => absurd h h2⟩
      · exact ⟨0, fun h _ => absurd h h1⟩
    exact ⟨fun i j => (hz i j).choose, fun i j h1 h2 => ((hz i j).choose_spec h1 h2).2, fun _ => ⟨x, rfl, fun i j h1 h2 => ((hz i j).choose_spec h1 h2).1⟩⟩
/-- A row of whole numbers, as the walk reads it. -/
theorem open_row {t e : TypeId} {k : IntKind} {a : Option Addr} {len cap : Nat} {d : DataW H} {ps : List MemPlace} (ht : P.underlying t = some (.slice e)) (he : P.underlying e = some (.int k)) (hc : P.cellsOf e = 1)
    (h : DataW.Trod enc P w base spare held t (.slice a len cap) d ps) :
    len ≤ cap ∧ len ≤ maxLen ∧ ∃ l : List Int, (∀ x ∈ l, (Lit.int k x).wf = true) ∧ l.length = len ∧ (Kd.int k).C w a l.length l := by
  obtain ⟨fuel, hf⟩ := h
  rcases Go.ChangeShapes.open_ints ht he hc hf with ⟨hcs, _⟩ | ⟨x, l, c, zs, hcs, _, hl, hm, hz, _, hcell, hw⟩
  · simp [Value.cells] at hcs
    obtain ⟨rfl, rfl, rfl⟩ := hcs
    exact ⟨Nat.le_refl _, Nat.zero_le _, [], fun x hx => (List.not_mem_nil hx).elim, rfl, Kd.C_nil _ _⟩
  · simp [Value.cells] at hcs
    obtain ⟨rfl, rfl, rfl⟩ := hcs
    have hlz : len ≤ zs.length := by rw [hz]; split <;> omega
    have hlen : (zs.take len).length = len := by rw [List.length_take]; omega
    refine ⟨hl, Nat.le_trans hl hm, zs.take len, fun n hn => hw n (List.mem_of_mem_take hn), hlen, ?_⟩
    refine Kd.C_of_reads (d := (0 : Int)) ⟨rfl, by rw [hlen]; unfold maxLen at hm; omega, fun _ => ⟨x, rfl, fun j hj => ?_⟩⟩
    rw [hlen] at hj
    have e1 := hcell j (by omega)
    have e2 : (zs.take len).getD j 0 = zs.getD j 0 := by
      simp only [List.getD_eq_getElem?_getD, List.getElem?_take, if_pos hj]
    rw [e2]
    exact e1
/-- The same, of one reading. -/
theorem open_nums_at {t e : TypeId} {fs : Array Field} {a : Option Addr} {len cap fuel : Nat} {x : DataW H × List MemPlace} (ht : P.underlying t = some (.slice e)) (he : P.underlying e = some (.struct fs))
    (hone : oneCellFields P fs = true) (hC : P.cellsOf e = fs.size) (hi : ∀ (j : Nat) (f : Field), fs[j]? = some f → P.underlying f.type = some (.int .i64))
    (hf : DataW.trod enc P w base spare held fuel t [.slice a len cap] = some x) :
    len ≤ cap ∧ len ≤ maxLen ∧ ∃ z : Nat → Nat → Int, (∀ i j, i < len → j < fs.size → (Lit.int .i64 (z i j)).wf = true) ∧
      (0 < len → ∃ ad, a = some ad ∧ ∀ i j, i < len → j < fs.size → w.cell? (ad.add (i * fs.size + j)) = some (.int .i64 (z i j))) :=
  open_nums (d := x.1) (ps := x.2) ht he hone hC hi ⟨fuel, by simpa [Value.cells] using hf⟩

/-- A struct of one slice. -/
theorem open_one {r : Reach} {b0 : Nat} {t e : TypeId} {f0 : Field} {v : Value} {d : DataW H} {p : List MemPlace} (hs : P.underlying t = some (.struct #[f0])) (hf0 : P.underlying f0.type = some (.slice e)) (hone : oneCellFields P #[f0] = true) (hC : P.cellsOf t = 1)
    (hv : Value.okWide P w r b0 t v) (h : DataW.Trod enc P w base spare held t v d p) :
    ∃ (a : Option Addr) (len cap : Nat) (y : DataW H × List MemPlace) (n : Nat), v = .agg #[.slice a len cap] ∧ DataW.trod enc P w base spare held n f0.type [.slice a len cap] = some y := by
  obtain ⟨cs, rfl, hsz⟩ := okWide_struct hs hv
  rw [hC] at hsz
  obtain ⟨c0, rfl⟩ : ∃ c, cs = #[c] := Array.size_eq_one_iff.mp hsz
  obtain ⟨fuel, hf⟩ := h
  obtain ⟨ys, n', hn', hy, hlen, hyl, hg⟩ := DataW.trod_struct hs hf
  obtain ⟨o0, k0⟩ := hone_of hone 0 f0 rfl
  have h1 := hg 0 f0 rfl
  rw [o0, k0] at h1
  have hv1 : (List.drop 0 (Value.agg #[c0]).cells.toList).take 1 = [c0] := rfl
  have h2 : DataW.trod enc P w base spare held n' f0.type [c0] = ys[0]? := h1
  have hys : ys[0]? = some (ys[0]'(by rw [hyl]; exact Nat.zero_lt_one)) := List.getElem?_eq_getElem _
  rw [hys] at h2
  rcases open_slice hf0 h2 with h0 | ⟨a, len, cap, m, n, D, Pl, hcs, _⟩
  · have := h0.1
    simp at this
    subst this
    exact ⟨none, 0, 0, _, n', rfl, h2⟩
  · simp at hcs
    subst hcs
    exact ⟨some a, len, cap, _, n', rfl, h2⟩
/-- A desk: a struct of two whole numbers, a whole number and a text. -/
theorem open_desk {r : Reach} {b0 : Nat} {t : TypeId} {F0 F1 F2 G0 G1 : Field} {v : Value} {d : DataW H} {p : List MemPlace} (hs : P.underlying t = some (.struct #[F0, F1, F2])) (hs0 : P.underlying F0.type = some (.struct #[G0, G1]))
    (g0 : P.underlying G0.type = some (.int .i64)) (g1 : P.underlying G1.type = some (.int .i64)) (f1 : P.underlying F1.type = some (.int .i64)) (f2 : P.underlying F2.type = some .string) (hone : oneCellFields P #[G0, G1] = true)
    (hC : (P.cellsOf t == 4 && F0.offset == 0 && P.cellsOf F0.type == 2 && F1.offset == 2 && P.cellsOf F1.type == 1 && F2.offset == 3 && P.cellsOf F2.type == 1) = true)
    (hv : Value.okWide P w r b0 t v) (h : DataW.Trod enc P w base spare held t v d p) :
    ∃ (x0 x1 x2 : Int) (s : ByteArray), v = .agg #[.int .i64 x0, .int .i64 x1, .int .i64 x2, .string s] ∧ (Lit.int .i64 x0).wf = true ∧ (Lit.int .i64 x1).wf = true ∧ (Lit.int .i64 x2).wf = true ∧ s.size ≤ maxLen := by
  simp only [Bool.and_eq_true, beq_iff_eq] at hC
  obtain ⟨⟨⟨⟨⟨⟨q0, q1⟩, q2⟩, q3⟩, q4⟩, q5⟩, q6⟩ := hC
  obtain ⟨cs, rfl, hsz⟩ := okWide_struct hs hv
  obtain ⟨l⟩ := cs
  have hl4 : l.length = 4 := hsz.trans q0
  obtain ⟨c0, c1, c2, c3, rfl⟩ : ∃ c0 c1 c2 c3, l = [c0, c1, c2, c3] := by
    match l, hl4 with
    | [c0, c1, c2, c3], _ => exact ⟨c0, c1, c2, c3, rfl⟩
  obtain ⟨fuel, hf⟩ := h
  obtain ⟨ys, n', hn', hy, hlen, hyl, hg⟩ := DataW.trod_struct hs hf
  have hyl3 : ys.length = 3 := hyl
  have k0 := hg 0 F0 rfl
  have k1 := hg 1 F1 rfl
  have k2 := hg 2 F2 rfl
  rw [q1, q2] at k0
  rw [q3, q4] at k1
  rw [q5, q6] at k2
  have k0' : DataW.trod enc P w base spare held n' F0.type [c0, c1] = ys[0]? := k0
  have k1' : DataW.trod enc P w base spare held n' F1.type [c2] = ys[1]? := k1
  have k2' : DataW.trod enc P w base spare held n' F2.type [c3] = ys[2]? := k2
  rw [List.getElem?_eq_getElem (show 0 < ys.length by omega)] at k0'
  rw [List.getElem?_eq_getElem (show 1 < ys.length by omega)] at k1'
  rw [List.getElem?_eq_getElem (show 2 < ys.length by omega)] at k2'
  obtain ⟨x2, rfl, w2⟩ := read_i64 f1 k1'
  obtain ⟨s, hs1, _, hs2⟩ := DataW.trod_string f2 k2'
  simp only [List.cons.injEq, and_true] at hs1
  subst hs1
  obtain ⟨zs, n2, _, _, _, hzl, hz⟩ := DataW.trod_struct hs0 k0'
  have hzl2 : zs.length = 2 := hzl
  obtain ⟨o0, u0⟩ := hone_of hone 0 G0 rfl
  obtain ⟨o1, u1⟩ := hone_of hone 1 G1 rfl
  have m0 := hz 0 G0 rfl
  have m1 := hz 1 G1 rfl
  rw [o0, u0] at m0
  rw [o1, u1] at m1
  have m0' : DataW.trod enc P w base spare held n2 G0.type [c0] = zs[0]? := m0
  have m1' : DataW.trod enc P w base spare held n2 G1.type [c1] = zs[1]? := m1
  rw [List.getElem?_eq_getElem (show 0 < zs.length by omega)] at m0'
  rw [List.getElem?_eq_getElem (show 1 < zs.length by omega)] at m1'
  obtain ⟨x0, rfl, w0⟩ := read_i64 g0 m0'
  obtain ⟨x1, rfl, w1⟩ := read_i64 g1 m1'
  exact ⟨x0, x1, x2, s, rfl, w0, w1, w2, hs2⟩
end
end Go.Proofs.Ytdeenfpcmaadcaa.RowA

/- The row of the law FnExactNextRegions: The program's NextRegions returns what the reference's returns, for all arguments. -/
namespace Go.Proofs.Ytdeenfpcmaadcaa.fnExactNextRegions
open Go.ChangeShapes Go.WideShapes Go.ChangeAt Go.RowKit Go.Proofs.Ytdeenfpcmaadcaa.Pr Go.Proofs.YtdeenfpcmaadcaaW.PrintWords
open Go.ChangeMaps (open_string shut_string)
set_option linter.unusedVariables false
theorem own : ownKnob Try.prog.godebug = none := by kernel_rfl
theorem laidOut : laidOutB Try.prog = true := by kernel_rfl
theorem rows49 {W : World} {a : Option Addr} {len cap : Nat} {z : Nat → Nat → Int} (hm : len ≤ maxLen) (hz : 0 < len → ∃ ad, a = some ad ∧ ∀ i j, i < len → j < 2 → W.cell? (ad.add (i * 2 + j)) = some (.int .i64 (z i j)))
    (hw : ∀ i j, i < len → j < 2 → (Lit.int .i64 (z i j)).wf = true) : ∃ l : List S49, l.length = len ∧ Kd.C k49 W a l.length l ∧ ∀ x ∈ l, (Lit.int .i64 x.f0).wf = true ∧ (Lit.int .i64 x.f1).wf = true := by
  have hl : ((List.range len).map fun i => (⟨z i 0, z i 1⟩ : S49)).length = len := by simp
  refine ⟨(List.range len).map fun i => (⟨z i 0, z i 1⟩ : S49), hl, ⟨rfl, by rw [hl]; unfold maxLen at hm; omega, fun hn => ?_⟩, fun x hx => ?_⟩
  · obtain ⟨ad, e, hc⟩ := hz (by rw [hl] at hn; exact hn)
    refine ⟨ad, e, fun j p hj => ?_⟩
    have hjl : j < len := by have := (List.getElem?_eq_some_iff.1 hj).1; rw [hl] at this; exact this
    have hp : p = (⟨z j 0, z j 1⟩ : S49) := by
      rw [List.getElem?_map, List.getElem?_range hjl] at hj
      exact (Option.some.inj hj).symm
    subst hp
    refine ⟨[.int .i64 (z j 0), .int .i64 (z j 1)], rfl, k49_mk W (⟨z j 0, z j 1⟩ : S49), fun i u hi => ?_⟩
    have hi2 : i < 2 := by have := (List.getElem?_eq_some_iff.1 hi).1; exact this
    have hcell := hc j i hjl hi2
    match i, hi2, hi with
    | 0, _, hi => (obtain rfl := Option.some.inj hi; exact hcell)
    | 1, _, hi => (obtain rfl := Option.some.inj hi; exact hcell)
  · obtain ⟨i, hi, rfl⟩ := List.mem_map.1 hx
    have hil := List.mem_range.1 hi
    exact ⟨hw i 0 hil (by decide), hw i 1 hil (by decide)⟩
set_option maxRecDepth 100000 in
theorem lifted (os : Os) (started : os.Started) (H : Type) (enc : TypeId × Value → H) :
    ReturnsInHanded {} Try.checked os 8 .any (Rows.fnExactNextRegionsSpec.pre6 enc Try.prog Try.f8 Rows.fnExactNextRegionsRow.domain false) (Rows.fnExactNextRegionsSpec.post enc Try.prog Try.f8 false true false false) := by
  refine returnsInHanded_of_change_sized (C := Try.checked) own started (by kernel_rfl) Try.func8
    (ChangeSpec.witness6 (enc := enc) (C := Try.checked) false ⟨#[], #[.int .i64 0, .slice none 0 0], []⟩ 8 (by kernel_rfl) (by kernel_rfl) (by kernel_rfl) (by kernel_rfl)) ?_
  intro W base args ds gs before hval0 hW hcnd hsz0 _
  have hsz : (DataW.weightsEach Try.prog (Try.f8.params.toList ++ Rows.fnExactNextRegionsSpec.plain.varTypes Try.prog) (ds ++ gs)).all (· ≤ reachBytes) = true := hsz0
  have hval : ∀ (j : Nat) t v, Try.f8.params[j]? = some t → args[j]? = some v → Value.okWide Try.prog W .any base t v := hval0
  have hW' := hW
  obtain ⟨p, q, hA0, hV, rfl, hfz, hnd⟩ := hW
  have hA : DataW.TrodAll enc Try.prog W 0 (fun _ => true) true Try.f8.params.toList args.toList ds p := hA0
  rw [Try.params8] at hA hval hsz
  obtain ⟨v0, vs0, d0, ds0, p0, q0, hargs, rfl, rfl, h0, r0⟩ := trodAll_cons hA
  obtain ⟨v1, vs1, d1, ds1, p1, q1, rfl, rfl, rfl, h1, r1⟩ := trodAll_cons r0
  obtain ⟨rfl, rfl, rfl⟩ := trodAll_nil r1
  obtain rfl : args = #[v0, v1] := by cases args; simp_all
  obtain ⟨rfl, rfl⟩ := trodVars_none hV
  obtain ⟨a0, rfl, rfl, rfl, w0⟩ := open_int Try.underlying3 (hval 0 3 v0 rfl rfl) h0
  obtain ⟨b1, len1, cap1, rfl⟩ := okWide_slice Try.underlying22 (hval 1 22 v1 rfl rfl)
  have lt1 : ∀ x ∈ p1, x.block < W.heap.size := by obtain ⟨m, hm⟩ := h1; exact DataW.trod_lt m _ _ _ hm
  obtain ⟨hl1, hm1, z1, hw1, hz1⟩ := RowA.open_nums Try.underlying22 Try.underlying49 (by kernel_rfl) (by kernel_rfl) (fun j f hj => by first | (match j, hj with | 0, hj => (cases hj; exact Try.underlying3) | 1, hj => (cases hj; exact Try.underlying3) | j + 2, hj => simp at hj) | skip) h1
  obtain ⟨l1, hn1, hr1, hf1⟩ := rows49 (cap := cap1) hm1 hz1 hw1
  subst hn1
  clear hA0 hval0 hsz0 hsz
  obtain ⟨k, hk⟩ := Pure.FnExactNextRegions a0 l1 w0 hm1 hf1
  refine (laws_FnExactNextRegions.calls k a0 _ _ l1 true W hr1 hl1 hk).mono fun e W' he => ?_
  obtain ⟨he, bel0⟩ := he
  have bel : Below W.heap.size W W' := bel0
  subst he
  exact ⟨_, rfl, _, _, _, [], _, [], hW', trodAll_mk1 (shut_bool Try.underlying4 _), (trodAll_cons_mk (shut_int Try.underlying3 w0) (trodAll_cons_mk (Below.trod laidOut (by kernel_rfl) (of_decide_eq_true (by kernel_rfl)) h1 bel lt1) trodAll_mk0)), rfl, bel.frame _, fun h => by cases h⟩
theorem over : Rows.fnExactNextRegionsRow.holds Try.pinned (OpenSpec.ofChange Rows.fnExactNextRegionsSpec) :=
  OpenClaim.holds_of_wide 8 Try.f8 rfl rfl rfl rfl rfl rfl rfl ⟨rfl, rfl, rfl, rfl, rfl⟩ rfl rfl rfl rfl rfl (by kernel_rfl) Try.func8 (by kernel_rfl)
    (of_decide_eq_true (by kernel_rfl)) (by unfold Func.isWrapper; first | (rw [if_pos (by decide +kernel)]; kernel_rfl) | (rw [if_neg (by decide +kernel)]; exact ⟨rfl, rfl⟩))
    (fun os started H enc _ => lifted os started H enc)
theorem proved : Rows.FnExactNextRegionsSaid := over
end Go.Proofs.Ytdeenfpcmaadcaa.fnExactNextRegions
namespace Go.Proofs.Ytdeenfpcmaadcaa
/-- The row, under a short name, for the claim. -/
theorem fnExactNextRegions_holds : Rows.FnExactNextRegionsSaid := fnExactNextRegions.proved
#print axioms fnExactNextRegions_holds
end Go.Proofs.Ytdeenfpcmaadcaa
