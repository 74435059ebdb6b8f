/- The program's RegionOfArc returns what the reference's returns, for all arguments. (Part 4 of 6.) -/
import Derived.Deep.CutBlock
import Derived.Sort.Grow
import Derived.Shelf.SlSortCmp.InsertionK
import Derived.Shelf.GgSortFunc.RowK
import Derived.Shelf.SlSortFuncK.RowK2
import Derived.Shelf.SlGeneric
import Derived.Shelf.SlSortCmp.WholeK
import Derived.Ground.SlsfProg
import Derived.Test.YtdeenfpcmaadcaaProg
import Derived.Shelf.SlSortCmp.NoneTotal
import Derived.Test.YtdeenfpcmaadcaaKFnExactRegionOfArc0
import Derived.Test.YtdeenfpcmaadcaaKFnExactRegionOfArc1
import Derived.Test.YtdeenfpcmaadcaaKFnExactRegionOfArc2
/- What the reference's reList computes: the regions that its splits leave, sorted. -/
namespace Go.Proofs.Ytdeenfpcmaadcaa.Pr
open Go.RowKit Go.Proofs.YtdeenfpcmaadcaaW.PrintWords Go.Proofs.YtdeenfpcmaadcaaW.PrintLast Go.Proofs.YtdeenfpcmaadcaaW.PrintMore
set_option linter.unusedVariables false
set_option linter.unusedSimpArgs false

def spec_reList.f (a0 : Int) (l1 : List (S47)) : Option ((List (List Int))) := if (0 ≤ a0 ∧ a0 ≤ 1000) ∧ l1.length ≤ 1000 then some ((M.foldR l1 [M.ptsTo a0]).foldl (insB M.lexB) []) else none
theorem has_calls (A : Option Addr) (c : Nat) (l : List Int) (x : Int) (W : World) (hr : KI.C W A l.length l) (hc : l.length ≤ c) (hl : l.length ≤ 1000000) :
    Calls Try.prog 45 #[.slice A l.length c, .int .i64 x] W fun e w' => e = .returned (.bool (l.contains x)) ∧ Drawn0 W w' := by
  obtain ⟨k, hk⟩ := (M.l1Has_ev l x hl).rounds
  exact spec_l1Has.calls k A c l x _ W hr hc hk
theorem less_calls (A : Option Addr) (c : Nat) (l : List Int) (A' : Option Addr) (c' : Nat) (l' : List Int) (W : World) (hr : KI.C W A l.length l) (hc : l.length ≤ c) (hr' : KI.C W A' l'.length l') (hc' : l'.length ≤ c') (hl : l.length ≤ 1000000) :
    Calls Try.prog 60 #[.slice A l.length c, .slice A' l'.length c'] W fun e w' => e = .returned (.bool (M.lexB l l')) ∧ Drawn0 W w' := by
  obtain ⟨k, hk⟩ := (M.reLess_ev l l' hl).rounds
  exact spec_reLess.calls k A c l A' c' l' _ W hr hc hr' hc' hk
theorem in_calls (x a b : Int) (W : World) : Calls Try.prog 37 #[.int .i64 x, .int .i64 a, .int .i64 b] W fun e w' => e = .returned (.bool (decide (a ≤ x ∧ x ≤ b))) ∧ Drawn0 W w' :=
  spec_l1In.calls x a b _ W (M.l1In_eq x a b)
theorem pts_succ (n : Nat) : M.ptsTo ((n : Int) + 1) = M.ptsTo (n : Int) ++ [(n : Int)] := by
  unfold M.ptsTo
  rw [show ((n : Int) + 1).toNat = n + 1 by omega, Int.toNat_natCast, List.range_succ, List.map_append]
  rfl
theorem pts_len (n : Nat) : (M.ptsTo (n : Int)).length = n := by simp [M.ptsTo]
/-- A round's world: the rows that are there, and the chord in its block. -/
structure LW (w W : World) (H : Nat) (c : S47) (v : Value) (rs : RL) : Prop where
  bl : Below w.heap.size w W
  hh : w.heap.size ≤ H
  rg : Regs w W (fun k => k < H) v rs
  cb : W.heap[H]? = some (.cells #[.int .i64 c.f0, .int .i64 c.f1] 47 (0, 0))
theorem LW.go {w W W' : World} {H : Nat} {c : S47} {v : Value} {rs : RL} (h : LW w W H c v rs) (hb : Below W.heap.size W W') : LW w W' H c v rs := ⟨below_step h.bl hb, h.hh, h.rg.below hb, blk_below h.cb hb⟩
theorem LW.new {w W : World} {c : S47} {v : Value} {rs : RL} (hb : Below w.heap.size w W) (h : Regs w W (fun _ => True) v rs) : LW w (W.alloc (.cells #[.int .i64 c.f0, .int .i64 c.f1] 47)) W.heap.size c v rs :=
  ⟨below_alloc hb _, hb.size, (h.old.mono (fun k hk => hk.2)).below (below_alloc (Below.refl _ _) _), heap_alloc_new W _⟩
theorem LW.lt {w W : World} {H : Nat} {c : S47} {v : Value} {rs : RL} (h : LW w W H c v rs) : H < W.heap.size := blk_lt h.cb
theorem LW.grown {w W W' : World} {H : Nat} {c : S47} {v : Value} {rs : RL} {row : Option Nat} (h : LW w W H c v rs) (hg : W.grownBy W' row) (hr : ∀ k, row = some k → H < k) (hb : Below w.heap.size w W') : LW w W' H c v rs :=
  ⟨hb, h.hh, h.rg.grown hg (fun k hk e => by have := hr k e.symm; omega), (hg.block H h.lt (fun e => by have := hr H e.symm; omega)).trans h.cb⟩
/-- A round's world, with the two rows that are made. -/
structure FW (w W : World) (H : Nat) (c : S47) (v : Value) (rs : RL) (vi vo : Value) (li lo : List Int) : Prop where
  l : LW w W H c v rs
  i : KI.R 3 W w.heap.size (fun k => H < k ∧ some k ≠ vo.ownBlock) vi li
  o : KI.R 3 W w.heap.size (fun k => H < k ∧ some k ≠ vi.ownBlock) vo lo
section
variable {w W W' : World} {H : Nat} {c : S47} {v : Value} {rs : RL} {vi vo v1 : Value} {li lo : List Int}
theorem FW.go (h : FW w W H c v rs vi vo li lo) (hb : Below W.heap.size W W') : FW w W' H c v rs vi vo li lo := ⟨h.l.go hb, Kd.R_below h.i hb, Kd.R_below h.o hb⟩
theorem FW.new (h : LW w W H c v rs) : FW w W H c v rs (.slice none 0 0) (.slice none 0 0) [] [] := ⟨h, Kd.R_nil _ _ _ _ _, Kd.R_nil _ _ _ _ _⟩
theorem FW.freshI (h : FW w W H c v rs vi vo li lo) : ∀ k, W.heap.size ≤ k → H < k ∧ some k ≠ vo.ownBlock := fun k hk => ⟨by have := h.l.lt; omega, fun e => by have := Kd.R_lt h.o k e.symm; omega⟩
theorem FW.freshO (h : FW w W H c v rs vi vo li lo) : ∀ k, W.heap.size ≤ k → H < k ∧ some k ≠ vi.ownBlock := fun k hk => ⟨by have := h.l.lt; omega, fun e => by have := Kd.R_lt h.i k e.symm; omega⟩
theorem FW.appI {li' : List Int} (h : FW w W H c v rs vi vo li lo) (ho : KI.R 3 W' w.heap.size (fun k => H < k ∧ some k ≠ vo.ownBlock) v1 li') (hb : Below w.heap.size w W') (hg : W.grownBy W' vi.ownBlock) (hat : v1.ownBlock = vi.ownBlock ∨ ∃ b, v1.ownBlock = some b ∧ W.heap.size ≤ b) : FW w W' H c v rs v1 vo li' lo :=
  ⟨h.l.grown hg (fun k hk => (h.i.1 k hk).1) hb, ho, Kd.R_after h.o hg hat⟩
theorem FW.appO {lo' : List Int} (h : FW w W H c v rs vi vo li lo) (ho : KI.R 3 W' w.heap.size (fun k => H < k ∧ some k ≠ vi.ownBlock) v1 lo') (hb : Below w.heap.size w W') (hg : W.grownBy W' vo.ownBlock) (hat : v1.ownBlock = vo.ownBlock ∨ ∃ b, v1.ownBlock = some b ∧ W.heap.size ≤ b) : FW w W' H c v rs vi v1 li lo' :=
  ⟨h.l.grown hg (fun k hk => (h.o.1 k hk).1) hb, Kd.R_after h.i hg hat, ho⟩
end
/-- The rows that are there, and the two that were made, all of them elder than block N. -/
structure GW (w W : World) (N : Nat) (v : Value) (rs : RL) (vi vo : Value) (li lo : List Int) : Prop where
  bl : Below w.heap.size w W
  hn : w.heap.size ≤ N ∧ N ≤ W.heap.size
  rg : Regs w W (fun k => k < N) v rs
  i : KI.R 3 W w.heap.size (fun k => k < N) vi li
  o : KI.R 3 W w.heap.size (fun k => k < N) vo lo
  ne : NeR vi vo ∧ (∀ r ∈ rs, NeR r.1 vi ∧ NeR r.1 vo)
section
variable {w W W' : World} {H N : Nat} {c : S47} {v : Value} {rs : RL} {vi vo v1 : Value} {li lo : List Int}
theorem GW.of (h : FW w W H c v rs vi vo li lo) : GW w W W.heap.size v rs vi vo li lo :=
  ⟨h.l.bl, ⟨h.l.bl.size, Nat.le_refl _⟩, h.l.rg.old.mono (fun k hk => hk.2), Kd.R_mono (Kd.R_bound h.i) (fun k hk => hk.2.2.1), Kd.R_mono (Kd.R_bound h.o) (fun k hk => hk.2.2.1),
    fun k hk e => (h.o.1 k e).2 hk.symm, fun r hr => ⟨fun k hk e => by have := (h.l.rg.inn r hr).1 k hk; have := (h.i.1 k e).1; omega, fun k hk e => by have := (h.l.rg.inn r hr).1 k hk; have := (h.o.1 k e).1; omega⟩⟩
theorem GW.grown {row : Option Nat} (h : GW w W N v rs vi vo li lo) (hg : W.grownBy W' row) (hr : ∀ k, row = some k → N ≤ k) (hb : Below w.heap.size w W') : GW w W' N v rs vi vo li lo :=
  ⟨hb, ⟨h.hn.1, Nat.le_trans h.hn.2 hg.size⟩, h.rg.grown hg (fun k hk e => by have := hr k e.symm; omega), Kd.R_grown h.i hg (fun k hk e => by have := hr k e.symm; omega), Kd.R_grown h.o hg (fun k hk e => by have := hr k e.symm; omega), h.ne⟩
theorem GW.go (h : GW w W N v rs vi vo li lo) (hb : Below W.heap.size W W') : GW w W' N v rs vi vo li lo :=
  h.grown (grown_of_below hb none) (fun _ e => by cases e) (below_step h.bl hb)
end
theorem size_alloc1 (W : World) (o : Obj) : (W.alloc o).heap.size = W.heap.size + 1 := by simp
theorem cutIn_succ {c : S47} (l : List Int) (q : Nat) (h : q < l.length) : M.cutIn c (l.take (q + 1)) = M.cutIn c (l.take q) ++ (if c.f0 ≤ l[q] ∧ l[q] ≤ c.f1 then [l[q]] else []) := by
  unfold M.cutIn
  rw [List.take_succ_eq_append_getElem h, List.filter_append]
  congr 1
  by_cases e : c.f0 ≤ l[q] ∧ l[q] ≤ c.f1
  · rw [if_pos e, List.filter_cons, if_pos (decide_eq_true e)]; rfl
  · rw [if_neg e, List.filter_cons, if_neg (by rw [decide_eq_false e]; decide)]; rfl
theorem cutOut_succ {c : S47} (l : List Int) (q : Nat) (h : q < l.length) : M.cutOut c (l.take (q + 1)) = M.cutOut c (l.take q) ++ (if l[q] ≤ c.f0 ∨ c.f1 ≤ l[q] then [l[q]] else []) := by
  unfold M.cutOut
  rw [List.take_succ_eq_append_getElem h, List.filter_append]
  congr 1
  by_cases e : l[q] ≤ c.f0 ∨ c.f1 ≤ l[q]
  · rw [if_pos e, List.filter_cons, if_pos (decide_eq_true e)]; rfl
  · rw [if_neg e, List.filter_cons, if_neg (by rw [decide_eq_false e]; decide)]; rfl
theorem cutIn_len {c : S47} (l : List Int) : (M.cutIn c l).length ≤ l.length := List.length_filter_le _ _
theorem cutOut_len {c : S47} (l : List Int) : (M.cutOut c l).length ≤ l.length := List.length_filter_le _ _
theorem out_cases (c : S47) (x : Int) : (decide (x ≤ c.f0) = true ∧ (x ≤ c.f0 ∨ c.f1 ≤ x)) ∨ (decide (x ≤ c.f0) = false ∧ decide (c.f1 ≤ x) = true ∧ (x ≤ c.f0 ∨ c.f1 ≤ x)) ∨ (decide (x ≤ c.f0) = false ∧ decide (c.f1 ≤ x) = false ∧ ¬ (x ≤ c.f0 ∨ c.f1 ≤ x)) := by
  by_cases h : x ≤ c.f0
  · exact .inl ⟨decide_eq_true h, .inl h⟩
  · by_cases h2 : c.f1 ≤ x
    · exact .inr (.inl ⟨decide_eq_false h, decide_eq_true h2, .inr h2⟩)
    · exact .inr (.inr ⟨decide_eq_false h, decide_eq_false h2, fun e => e.elim h h2⟩)
theorem hasB_false {c : S47} {r : List Int} (h : r.contains c.f0 = false ∨ r.contains c.f1 = false) : M.hasB c r = false := by
  unfold M.hasB
  refine decide_eq_false fun e => ?_
  rcases h with h | h
  · rw [List.contains_iff_mem.2 e.1] at h; cases h
  · rw [List.contains_iff_mem.2 e.2] at h; cases h
theorem hasB_true {c : S47} {r : List Int} (h : r.contains c.f0 = true) (h' : r.contains c.f1 = true) : M.hasB c r = true := decide_eq_true ⟨List.contains_iff_mem.1 h, List.contains_iff_mem.1 h'⟩
theorem stepR_none {c : S47} : ∀ rs : List (List Int), (∀ r ∈ rs, M.hasB c r = false) → M.stepR c rs = rs
  | [], _ => rfl
  | r :: rs, h => by rw [M.stepR, if_neg (by rw [h r (List.mem_cons_self ..)]; decide), stepR_none rs (fun x hx => h x (List.mem_cons_of_mem _ hx))]
theorem stepR_at {c : S47} : ∀ (a : List (List Int)) (r : List Int) (b : List (List Int)), (∀ x ∈ a, M.hasB c x = false) → M.hasB c r = true → M.stepR c (a ++ r :: b) = a ++ M.cutIn c r :: M.cutOut c r :: b
  | [], r, b, _, hr => by rw [List.nil_append, M.stepR, if_pos hr]; rfl
  | x :: a, r, b, h, hr => by
    rw [List.cons_append, M.stepR, if_neg (by rw [h x (List.mem_cons_self ..)]; decide), stepR_at a r b (fun y hy => h y (List.mem_cons_of_mem _ hy)) hr]
    rfl
theorem ins_perm {rs os : RL} {i K0 : Nat} {re : Value × List Int} (hil : i < rs.length) (h : os.Perm (rs.take i)) (hre : re = rs[i]) : (os.take K0 ++ re :: os.drop K0).Perm (rs.take (i + 1)) := by
  rw [List.take_succ_eq_append_getElem hil, ← hre]
  refine List.perm_middle.trans ?_
  rw [List.take_append_drop]
  exact (h.cons re).trans (List.perm_append_singleton re _).symm
theorem ins_map {rs os : RL} {i K0 : Nat} {re : Value × List Int} (hil : i < rs.length) (h : os.map (·.2) = ((rs.take i).map (·.2)).foldl (insB M.lexB) []) (hre : re = rs[i]) (hK : K0 = backK M.lexB re.2 (os.map (·.2)) os.length) :
    (os.take K0 ++ re :: os.drop K0).map (·.2) = ((rs.take (i + 1)).map (·.2)).foldl (insB M.lexB) [] := by
  rw [List.take_succ_eq_append_getElem hil, ← hre]
  simp only [List.map_append, List.map_cons, List.map_nil, List.foldl_append, List.foldl_cons, List.foldl_nil, ← h]
  rw [insB, List.length_map, ← hK, List.map_take, List.map_drop]
set_option maxHeartbeats 4000000 in
set_option maxRecDepth 100000 in
theorem spec_reList.calls (a0 : Int) (A1 : Option Addr) (c1 : Nat) (l1 : List (S47)) (r : List (List Int)) (w : World) (hr1 : Kd.C k47 w A1 l1.length l1) (hc1 : l1.length ≤ c1) (h : spec_reList.f a0 l1 = some r) :
    Calls Try.prog 33 #[.int .i64 a0, .slice A1 l1.length c1] w fun e w' => ∃ v0_ : Value, e = .returned (v0_) ∧ Kd.S (Kd.slice 3 (Kd.int .i64)) 24 w' w.heap.size (fun _ => True) v0_ r ∧ Below w.heap.size w w' := by
  unfold spec_reList.f at h
  split at h
  rotate_left
  · cases h
  rename_i hb
  obtain ⟨⟨ha0, ha1⟩, hl1⟩ := hb
  obtain rfl := Option.some.inj h
  clear h
  obtain ⟨p, rfl⟩ : ∃ p : Nat, a0 = (p : Int) := ⟨a0.toNat, by omega⟩
  have hp1 : p ≤ 1000 := by omega
  clear ha0 ha1
  have HR1 := Aside0.mk hr1
  have HB := Aside0.mk (Below.refl w.heap.size w)
  clear hr1
  go_enter Try.func33, Try.ntmps33
  go_wp2_with fail
  go_loopg [5, 6] p (fun gg v5 v6 W => ∃ (q : Nat), v6 = .int .i64 q ∧ Aside0 (q + gg = p) ∧ Aside0 (Below w.heap.size w W) ∧ Aside0 (KI.R 3 W w.heap.size (fun _ => True) v5 (M.ptsTo (q : Int))))
  case atStart => exact ⟨0, by first | rfl | (simp; done), ⟨by omega⟩, ⟨by first | exact HB.out | exact pw_below_drewN HB.out _⟩, ⟨by have : M.ptsTo ((0 : Nat) : Int) = [] := rfl; rw [this]; exact Kd.R_nil _ _ _ _ _⟩⟩
  case round =>
    clear HB
    obtain ⟨q, rfl, HG, HB, HO⟩ := hrel
    by_cases hq : q < p
    · have e1 : decide ((q : Int) < (p : Int)) = true := decide_eq_true (by omega)
      have e2 : IntKind.i64.wrap ((q : Int) + 1) = ((q + 1 : Nat) : Int) := by
        rw [i64_w]
        exact M.w64 (by omega) (by omega)
      obtain ⟨gm, rfl⟩ : ∃ gm, gk = gm + 1 := ⟨gk - 1, by have := HG.out; omega⟩
      have HLn := Aside0.mk (pts_len q)
      go_wp2_with ((with_reducible refine gate_builtin (b := .append) (xs := #[.tmp 27, .tmp 29]) rfl ?_); at_builtin; refine Kd.R_append (Kd.int .i64) (w0 := w) w.heap.size rfl (.tmp 27) (.tmp 29) 24 3 (.int .i64 0) 8 rfl Try.underlying24 info3 rfl (by decide) (by omega) _ (M.ptsTo (q : Int)) (q : Int) [.int .i64 (q : Int)] (fun _ => True) (fun _ => False) rfl rfl ?aP (fun _ hk => hk.elim) ?aF ?aO ?aB ?aS ?aL ?_; (case aP => exact rfl); (case aF => exact (fun _ _ => trivial)); (case aO => exact HO.out); (case aB => exact HB.out); (case aS => exact HB.out.size); (case aL => have := HLn.out; omega); intro v7 w7 ho hb hg hat; have HO2 := Aside0.mk ho; have HB2 := Aside0.mk hb; clear ho hb hg hat)
      go_roundg gm
      case measure => omega
      case rel => exact ⟨q + 1, by first | rfl | (simp; done), ⟨by have := HG.out; omega⟩, HB2, ⟨by have := HO2.out; rwa [← pts_succ] at this⟩⟩
    · obtain rfl : q = p := by have := HG.out; omega
      have e1 : decide ((q : Int) < (q : Int)) = false := decide_eq_false (by omega)
      obtain ⟨Av, cv, ev⟩ := Kd.R_slice HO.out
      subst ev
      have HR := Aside0.mk (regs_one HB.out HO.out)
      have HB2 := Aside0.mk (below_alloc HB.out (.cells #[.slice Av (M.ptsTo (q : Int)).length cv] 24))
      clear HB
      have HB := HB2
      clear HB2
      go_wp2_with fail
      obtain ⟨N, hN⟩ : ∃ N, N = l1.length := ⟨_, rfl⟩
      go_loopg [7, 35] N (fun gg v7 v35 W => ∃ (j : Nat) (rs : RL), v35 = .int .i64 j ∧ Aside0 (j + gg = N) ∧ Aside0 (Below w.heap.size w W) ∧ Aside0 (Regs w W (fun _ => True) v7 rs) ∧ Aside0 (Dist rs) ∧ Aside0 (rs.length ≤ j + 1 ∧ ∀ r ∈ rs, r.2.length ≤ 1000) ∧ Aside0 (M.foldR (l1.drop j) (rs.map (·.2)) = M.foldR l1 [M.ptsTo (q : Int)]))
      case atStart => exact ⟨0, [(_, M.ptsTo (q : Int))], by first | rfl | (simp; done), ⟨by omega⟩, HB, ⟨HR.out⟩, ⟨List.pairwise_singleton _ _⟩, ⟨by simp, fun r hr => by rw [List.mem_singleton.1 hr]; show (M.ptsTo (q : Int)).length ≤ 1000; rw [pts_len]; exact hp1⟩, ⟨rfl⟩⟩
      case round =>
        clear HB HR HO HG
        obtain ⟨j, rs, rfl, HG, HB, HR, HD, HLn, HF⟩ := hrel
        have hN2 : (N : Int) = (l1.length : Int) := by omega
        by_cases hj : j < N
        · have hjl : j < l1.length := by omega
          have e1 : decide ((j : Int) < (l1.length : Int)) = true := decide_eq_true (by omega)
          have e2 : IntKind.i64.wrap ((j : Int) + 1) = ((j + 1 : Nat) : Int) := by
            rw [i64_w]
            exact M.w64 (by omega) (by omega)
          obtain ⟨gm, rfl⟩ : ∃ gm, gk = gm + 1 := ⟨gk - 1, by have := HG.out; omega⟩
          obtain ⟨c, hc⟩ : ∃ c, c = l1[j] := ⟨_, rfl⟩
          have hF := HF.out
          rw [List.drop_eq_getElem_cons hjl, ← hc, M.foldR] at hF
          have HF2 := Aside0.mk hF
          clear hF HF
          obtain ⟨ad, ea, x0, x1⟩ := at_T47 (Kd.C_below HR1.out HB.out) (j : Int) (by omega) (by omega)
          rw [M.rd_ch l1 j hjl, ← hc] at x0 x1
          have HCj := Aside0.mk hc
          clear hc
          rw [Int.toNat_natCast] at x0 x1
          cases ea
          obtain ⟨Ar, cr, ev, hcap, hC⟩ := HR.out.slice
          subst ev
          have HC := Aside0.mk hC
          clear hC
          have HL := Aside0.mk (LW.new (c := c) HB.out HR.out)
          go_upto_block 3 with fail
          go_cut [7] from 1 to 0 (fun v7 wc => ∃ (rs' : RL), Aside0 (Below w.heap.size w wc) ∧ Aside0 (Regs w wc (fun _ => True) v7 rs') ∧ Aside0 (Dist rs') ∧ Aside0 (rs'.length ≤ j + 2 ∧ ∀ r ∈ rs', r.2.length ≤ 1000) ∧ Aside0 (rs'.map (·.2) = M.stepR c (rs.map (·.2))))
          case first =>
            have HH : Aside0 (w.heap.size ≤ wr.heap.size) := ⟨HB.out.size⟩
            go_upto_block 4 with fail
            clear HB HR HC HF2 x0 x1
            generalize wr.heap.size = H at HL HH ⊢
            generalize (wr.alloc (.cells #[.int .i64 c.f0, .int .i64 c.f1] 47)) = W1 at HL ⊢
            go_wp2_with fail
            obtain ⟨M0, hM0⟩ : ∃ M0, M0 = rs.length := ⟨_, rfl⟩
            go_loopg [7, 41] M0 (fun gg v7 v41 W => ∃ (i : Nat), v7 = .slice Ar rs.length cr ∧ v41 = .int .i64 i ∧ Aside0 (i + gg = M0) ∧ Aside0 (LW w W H c (.slice Ar rs.length cr) rs) ∧ Aside0 (∀ r ∈ rs.take i, M.hasB c r.2 = false))
            case atStart => exact ⟨0, by first | rfl | (simp; done), by first | rfl | (simp; done), ⟨by omega⟩, HL, ⟨fun r hr => by simp at hr⟩⟩
            case round =>
              clear HL HG
              obtain ⟨i, rfl, rfl, HG, HL, HN⟩ := hrel
              have hM1 : (M0 : Int) = (rs.length : Int) := by omega
              by_cases hi : i < M0
              · have hil : i < rs.length := by omega
                have e3 : decide ((i : Int) < (rs.length : Int)) = true := decide_eq_true (by omega)
                have e4 : IntKind.i64.wrap ((i : Int) + 1) = ((i + 1 : Nat) : Int) := by
                  rw [i64_w]
                  have := HLn.out.1
                  exact M.w64 (by omega) (by omega)
                obtain ⟨gi, rfl⟩ : ∃ gi, gk = gi + 1 := ⟨gk - 1, by have := HG.out; omega⟩
                obtain ⟨re, hre⟩ : ∃ re, re = rs[i] := ⟨_, rfl⟩
                have hmem : re ∈ rs := by rw [hre]; exact List.getElem_mem hil
                obtain ⟨ad2, ea2, x2⟩ := at_raw (Kd.R_reads' HL.out.rg.out).2.2 i hil
                rw [← hre] at x2
                have HIn := Aside0.mk (HL.out.rg.inn re hmem)
                obtain ⟨Ae, ce, ev2⟩ := Kd.R_slice HIn.out
                rw [ev2] at x2
                have HIn2 := HIn.out
                rw [ev2] at HIn2
                clear HIn
                have HIn := Aside0.mk HIn2
                clear HIn2
                have HRe := Aside0.mk (show re.1 = .slice Ae re.2.length ce ∧ re = rs[i] ∧ re ∈ rs from ⟨ev2, hre, hmem⟩)
                have HRl := Aside0.mk (HLn.out.2 re hmem)
                clear hre hmem ev2
                cases ea2
                obtain ⟨y0, y1⟩ := blk_two HL.out.cb
                have HC1 := Aside0.mk (fun (W : World) (hW : KI.R 3 W w.heap.size (fun k => k < H) (.slice Ae re.2.length ce) re.2) => calls_drawn (has_calls Ae ce re.2 c.f0 W (Kd.R_reads' hW).2.2 (Kd.R_reads' hW).2.1 (by have := HRl.out; omega)))
                have HC2 := Aside0.mk (fun (W : World) (hW : KI.R 3 W w.heap.size (fun k => k < H) (.slice Ae re.2.length ce) re.2) => calls_drawn (has_calls Ae ce re.2 c.f1 W (Kd.R_reads' hW).2.2 (Kd.R_reads' hW).2.1 (by have := HRl.out; omega)))
                cases hA : re.2.contains c.f0 with
                | false =>
                  rw [hA] at HC1
                  clear HC2
                  go_wp2_with (go_at_call 45; refine (HC1.out _ HIn.out).mono ?_; rintro e w3 ⟨rfl, hb3⟩; have HL2 := Aside0.mk (HL.out.go hb3); clear HL y0 y1 x2 HC1 hb3; have HL := HL2; clear HL2)
                  go_roundg gi
                  case measure => omega
                  case rel => exact ⟨i + 1, by first | rfl | (simp; done), by first | rfl | (simp; done), ⟨by have := HG.out; omega⟩, HL, ⟨fun r hr => by
                    rw [List.take_succ_eq_append_getElem hil] at hr
                    rcases List.mem_append.1 hr with hr | hr
                    · exact HN.out r hr
                    · rw [List.mem_singleton.1 hr, ← HRe.out.2.1]
                      exact hasB_false (.inl hA)⟩⟩
                | true =>
                  rw [hA] at HC1
                  cases hB : re.2.contains c.f1 with
                  | false =>
                    rw [hB] at HC2
                    go_wp2_with (first | (go_at_call 45; refine (HC1.out _ HIn.out).mono ?_; rintro e w3 ⟨rfl, hb3⟩; have HL2 := Aside0.mk (HL.out.go hb3); have HIn2 := Aside0.mk (Kd.R_below HIn.out hb3); clear HL y0 y1 x2 HC1 HIn hb3; have HL := HL2; have HIn := HIn2; clear HL2 HIn2; obtain ⟨y0, y1⟩ := blk_two HL.out.cb) | (go_at_call 45; refine (HC2.out _ HIn.out).mono ?_; rintro e w3 ⟨rfl, hb3⟩; have HL2 := Aside0.mk (HL.out.go hb3); clear HL y0 y1 HC2 hb3; have HL := HL2; clear HL2))
                    go_roundg gi
                    case measure => omega
                    case rel => exact ⟨i + 1, by first | rfl | (simp; done), by first | rfl | (simp; done), ⟨by have := HG.out; omega⟩, HL, ⟨fun r hr => by
                      rw [List.take_succ_eq_append_getElem hil] at hr
                      rcases List.mem_append.1 hr with hr | hr
                      · exact HN.out r hr
                      · rw [List.mem_singleton.1 hr, ← HRe.out.2.1]
                        exact hasB_false (.inr hB)⟩⟩
                  | true =>
                    rw [hB] at HC2
                    go_wp2_with (first | (go_at_call 45; refine (HC1.out _ HIn.out).mono ?_; rintro e w3 ⟨rfl, hb3⟩; have HL2 := Aside0.mk (HL.out.go hb3); have HIn2 := Aside0.mk (Kd.R_below HIn.out hb3); clear HL y0 y1 x2 HC1 HIn hb3; have HL := HL2; have HIn := HIn2; clear HL2 HIn2; obtain ⟨y0, y1⟩ := blk_two HL.out.cb) | (go_at_call 45; refine (HC2.out _ HIn.out).mono ?_; rintro e w3 ⟨rfl, hb3⟩; have HL2 := Aside0.mk (HL.out.go hb3); have HIn2 := Aside0.mk (Kd.R_below HIn.out hb3); clear HL y0 y1 HC2 HIn hb3; have HL := HL2; have HIn := HIn2; clear HL2 HIn2))
                    have HW := Aside0.mk (FW.new HL.out)
                    clear HL HIn
                    obtain ⟨M2, hM2⟩ : ∃ M2, M2 = re.2.length := ⟨_, rfl⟩
                    go_loopg [12, 13, 60] M2 (fun gg v12 v13 v60 W => ∃ (q2 : Nat), v60 = .int .i64 q2 ∧ Aside0 (q2 + gg = M2) ∧ Aside0 (FW w W H c (.slice (some ad2) rs.length cr) rs v12 v13 (M.cutIn c (re.2.take q2)) (M.cutOut c (re.2.take q2))))
                    case atStart => exact ⟨0, by first | rfl | (simp; done), ⟨by omega⟩, HW⟩
                    case round =>
                      clear HW
                      obtain ⟨q2, rfl, HG3, HW⟩ := hrel
                      have hM3 : (M2 : Int) = (re.2.length : Int) := by omega
                      by_cases hq2 : q2 < M2
                      · have hql : q2 < re.2.length := by omega
                        have e5 : decide ((q2 : Int) < (re.2.length : Int)) = true := decide_eq_true (by omega)
                        have e6 : IntKind.i64.wrap ((q2 : Int) + 1) = ((q2 + 1 : Nat) : Int) := by
                          rw [i64_w]
                          have := HRl.out
                          exact M.w64 (by omega) (by omega)
                        obtain ⟨g3, rfl⟩ : ∃ g3, gk = g3 + 1 := ⟨gk - 1, by have := HG3.out; omega⟩
                        have hin := HW.out.l.rg.inn re HRe.out.2.2
                        rw [HRe.out.1] at hin
                        obtain ⟨ad3, ea3, x3⟩ := Kd.at_int (Kd.R_reads' hin).2.2 (q2 : Int) (by omega) (by omega)
                        rw [M.rd_int re.2 q2 hql, Int.toNat_natCast] at x3
                        obtain ⟨x, hx⟩ : ∃ x, x = re.2[q2] := ⟨_, rfl⟩
                        rw [← hx] at x3
                        have HX := Aside0.mk hx
                        clear hx hin
                        cases ea3
                        obtain ⟨y0, y1⟩ := blk_two HW.out.l.cb
                        have HLq := Aside0.mk (show (M.cutIn c (re.2.take q2)).length ≤ 1000 ∧ (M.cutOut c (re.2.take q2)).length ≤ 1000 from by
                          have h1 := cutIn_len (c := c) (re.2.take q2)
                          have h2 := cutOut_len (c := c) (re.2.take q2)
                          rw [List.length_take] at h1 h2
                          have := HRl.out
                          omega)
                        have HCI := Aside0.mk (cutIn_succ (c := c) re.2 q2 hql)
                        have HCO := Aside0.mk (cutOut_succ (c := c) re.2 q2 hql)
                        by_cases hci : c.f0 ≤ x ∧ x ≤ c.f1
                        · have e7 : decide (c.f0 ≤ x ∧ x ≤ c.f1) = true := decide_eq_true hci
                          rcases out_cases c x with ⟨e8, ho⟩ | ⟨e8, e9, ho⟩ | ⟨e8, e9, ho⟩
                          all_goals
                            have HOo := Aside0.mk ho
                            clear ho
                            go_wp2_with (first | (go_at_call 37; refine (calls_drawn (in_calls x c.f0 c.f1 _)).mono ?_; rintro e w4 ⟨rfl, hb4⟩; have HW2 := Aside0.mk (HW.out.go hb4); clear HW hb4 y0 y1 x3; have HW := HW2; clear HW2; obtain ⟨y0, y1⟩ := blk_two HW.out.l.cb) | ((with_reducible refine gate_builtin (b := .append) (xs := #[.tmp 70, .tmp 72]) rfl ?_); at_builtin; refine Kd.R_append KI (w0 := w) w.heap.size rfl (.tmp 70) (.tmp 72) 24 3 (.int .i64 0) 8 rfl Try.underlying24 info3 rfl (by decide) (by omega) _ (M.cutIn c (re.2.take q2)) x [.int .i64 x] (fun k => H < k ∧ some k ≠ u13.ownBlock) (fun _ => False) rfl rfl ?aP (fun _ hk => hk.elim) ?aF ?aO ?aB ?aS ?aL ?_; (case aP => exact rfl); (case aO => exact HW.out.i); (case aF => exact HW.out.freshI); (case aB => exact HW.out.l.bl); (case aS => exact HW.out.l.bl.size); (case aL => have := HLq.out.1; omega); intro v9 w9 ho hb hg hat; have HW2 := Aside0.mk (HW.out.appI ho hb hg hat); clear HW ho hb hg hat y0 y1; have HW := HW2; clear HW2; obtain ⟨y0, y1⟩ := blk_two HW.out.l.cb) | ((with_reducible refine gate_builtin (b := .append) (xs := #[.tmp 84, .tmp 86]) rfl ?_); at_builtin; refine Kd.R_append KI (w0 := w) w.heap.size rfl (.tmp 84) (.tmp 86) 24 3 (.int .i64 0) 8 rfl Try.underlying24 info3 rfl (by decide) (by omega) _ (M.cutOut c (re.2.take q2)) x [.int .i64 x] (fun k => H < k ∧ some k ≠ v9.ownBlock) (fun _ => False) rfl rfl ?aP (fun _ hk => hk.elim) ?aF ?aO ?aB ?aS ?aL ?_; (case aP => exact rfl); (case aO => exact HW.out.o); (case aF => exact HW.out.freshO); (case aB => exact HW.out.l.bl); (case aS => exact HW.out.l.bl.size); (case aL => have := HLq.out.2; omega); intro v10 w10 ho hb hg hat; have HW2 := Aside0.mk (HW.out.appO ho hb hg hat); clear HW ho hb hg hat y0 y1; have HW := HW2; clear HW2))
                            go_roundg g3
                            case measure => omega
                            case rel => exact ⟨q2 + 1, by first | rfl | (simp; done), ⟨by have := HG3.out; omega⟩, ⟨by
                              have a1 := HCI.out
                              have a2 := HCO.out
                              rw [← HX.out] at a1 a2
                              rw [if_pos hci] at a1
                              first | rw [if_pos HOo.out] at a2 | rw [if_neg HOo.out, List.append_nil] at a2
                              rw [a1, a2]
                              exact HW.out⟩⟩
                        · have e7 : decide (c.f0 ≤ x ∧ x ≤ c.f1) = false := decide_eq_false hci
                          rcases out_cases c x with ⟨e8, ho⟩ | ⟨e8, e9, ho⟩ | ⟨e8, e9, ho⟩
                          all_goals
                            have HOo := Aside0.mk ho
                            clear ho
                            go_wp2_with (first | (go_at_call 37; refine (calls_drawn (in_calls x c.f0 c.f1 _)).mono ?_; rintro e w4 ⟨rfl, hb4⟩; have HW2 := Aside0.mk (HW.out.go hb4); clear HW hb4 y0 y1 x3; have HW := HW2; clear HW2; obtain ⟨y0, y1⟩ := blk_two HW.out.l.cb) | ((with_reducible refine gate_builtin (b := .append) (xs := #[.tmp 84, .tmp 86]) rfl ?_); at_builtin; refine Kd.R_append KI (w0 := w) w.heap.size rfl (.tmp 84) (.tmp 86) 24 3 (.int .i64 0) 8 rfl Try.underlying24 info3 rfl (by decide) (by omega) _ (M.cutOut c (re.2.take q2)) x [.int .i64 x] (fun k => H < k ∧ some k ≠ u12.ownBlock) (fun _ => False) rfl rfl ?aP (fun _ hk => hk.elim) ?aF ?aO ?aB ?aS ?aL ?_; (case aP => exact rfl); (case aO => exact HW.out.o); (case aF => exact HW.out.freshO); (case aB => exact HW.out.l.bl); (case aS => exact HW.out.l.bl.size); (case aL => have := HLq.out.2; omega); intro v10 w10 ho hb hg hat; have HW2 := Aside0.mk (HW.out.appO ho hb hg hat); clear HW ho hb hg hat y0 y1; have HW := HW2; clear HW2))
                            go_roundg g3
                            case measure => omega
                            case rel => exact ⟨q2 + 1, by first | rfl | (simp; done), ⟨by have := HG3.out; omega⟩, ⟨by
                              have a1 := HCI.out
                              have a2 := HCO.out
                              rw [← HX.out] at a1 a2
                              rw [if_neg hci, List.append_nil] at a1
                              first | rw [if_pos HOo.out] at a2 | rw [if_neg HOo.out, List.append_nil] at a2
                              rw [a1, a2]
                              exact HW.out⟩⟩
                      · have hqe : q2 = re.2.length := by have := HG3.out; omega
                        have e5 : decide ((q2 : Int) < (re.2.length : Int)) = false := decide_eq_false (by omega)
                        have hW := HW.out
                        rw [hqe, List.take_length] at hW
                        clear HW
                        have HW := Aside0.mk hW
                        clear hW
                        have HG0 := Aside0.mk (GW.of HW.out)
                        clear HW
                        obtain ⟨Ai, ci, evi⟩ := Kd.R_slice HG0.out.i
                        obtain ⟨Ao, co, evo⟩ := Kd.R_slice HG0.out.o
                        subst evi evo
                        have e11 : IntKind.i64.wrap ((i : Int) + 1) = ((i + 1 : Nat) : Int) := e4
                        have e12 : i ≤ cr := by omega
                        have e13 : i + 1 ≤ rs.length := by omega
                        have HCap := Aside0.mk hcap
                        have HLi := Aside0.mk (show (M.cutIn c re.2).length ≤ 1000 ∧ (M.cutOut c re.2).length ≤ 1000 from by
                          have h1 := cutIn_len (c := c) re.2
                          have h2 := cutOut_len (c := c) re.2
                          have := HRl.out
                          omega)
                        go_upto_region 24 with (first | ((with_reducible refine gate_builtin (b := .append) (xs := #[.tmp 89, .tmp 92]) rfl ?_); at_builtin; refine Kd.R_append_rows KV (w0 := w) w.heap.size rfl (.tmp 89) (.tmp 92) 37 24 (.slice none 0 0) 24 rfl Try.underlying37 info24 rfl (by decide) (by omega) (.slice (some ⟨wr.heap.size, 0, none⟩) 0 0) [] ((vsOf rs).take i) (some ad2) i cr (fun k => wr.heap.size ≤ k) (fun _ => False) rfl rfl ?bO ?bR (fun _ _ h => h) (fun _ h => h.elim) ?bF ?bB ?bS ?bL ?_; (case bO => exact Kd.R_mono (raw_lit HG0.out.bl.size [] (by simp) (by simp)) (fun k hk => Nat.le_of_eq hk.symm)); (case bR => exact take_reads (Kd.R_reads' (Kd.R_alloc HG0.out.rg.out _)).2.2 (Nat.le_of_lt hil)); (case bF => exact (fun k hk => by rw [size_alloc1] at hk; omega)); (case bB => exact below_alloc HG0.out.bl _); (case bS => exact Nat.le_trans HG0.out.bl.size (by rw [size_alloc1]; omega)); (case bL => have := HLn.out.1; simp only [List.length_nil]; omega); intro v11 w11 ho hb hg hat; have HG1 := Aside0.mk ((HG0.out.go (below_alloc (Below.refl _ _) _)).grown hg (fun k hk => by have hk : some wr.heap.size = some k := hk; injection hk with hk; omega) hb); have HO1 := Aside0.mk ho; clear HG0 ho hb hg hat) | ((with_reducible refine gate_builtin (b := .append) (xs := #[.tmp 93, .tmp 96]) rfl ?_); at_builtin; refine Kd.R_append_rows KV (w0 := w) w.heap.size rfl (.tmp 93) (.tmp 96) 37 24 (.slice none 0 0) 24 rfl Try.underlying37 info24 rfl (by decide) (by omega) v11 ([] ++ (vsOf rs).take i) [[.slice Ai (M.cutIn c re.2).length ci], [.slice Ao (M.cutOut c re.2).length co]] (some ⟨w11.heap.size, 0, none⟩) 2 2 (fun k => wr.heap.size ≤ k) (fun _ => False) rfl rfl ?cO ?cR (fun _ _ h => h) (fun _ h => h.elim) ?cF ?cB ?cS ?cL ?_; (case cO => exact Kd.R_alloc HO1.out _); (case cR => exact (Kd.R_reads' (raw_lit (w := w) HG1.out.bl.size [.slice Ai (M.cutIn c re.2).length ci, .slice Ao (M.cutOut c re.2).length co] (by intro u hu; simp only [List.mem_cons, List.not_mem_nil, or_false] at hu; rcases hu with rfl | rfl <;> rfl) (by simp))).2.2); (case cF => exact (fun k hk => by rw [size_alloc1] at hk; have := HG1.out.hn.2; omega)); (case cB => exact below_alloc HG1.out.bl _); (case cS => exact Nat.le_trans HG1.out.bl.size (by rw [size_alloc1]; omega)); (case cL => have := HLn.out.1; simp only [List.nil_append, List.length_take, vsOf_length]; omega); intro v12 w12 ho hb hg hat; have HG2 := Aside0.mk ((HG1.out.go (below_alloc (Below.refl _ _) _)).grown hg (fun k hk => HO1.out.1 k hk) hb); have HO2 := Aside0.mk ho; clear HG1 HO1 ho hb hg hat))
                        by_cases hcc : cr = i + 1
                        · go_wp2_with ((with_reducible refine gate_builtin (b := .append) (xs := #[.tmp 98, .tmp 102]) rfl ?_); at_builtin; refine Kd.R_append_rows KV (w0 := w) w.heap.size rfl (.tmp 98) (.tmp 102) 37 24 (.slice none 0 0) 24 rfl Try.underlying37 info24 rfl (by decide) (by omega) v12 (([] ++ (vsOf rs).take i) ++ [[.slice Ai (M.cutIn c re.2).length ci], [.slice Ao (M.cutOut c re.2).length co]]) ((vsOf rs).drop (i + 1)) _ (rs.length - (i + 1)) _ (fun k => wr.heap.size ≤ k) (fun _ => False) rfl rfl ?dO1 ?dR1 (fun _ _ h => h) (fun _ h => h.elim) ?dF1 ?dB1 ?dS1 ?dL1 ?_; (case dO1 => exact HO2.out); (case dR1 => have e := drop_reads (Kd.R_reads' HG2.out.rg.out).2.2 e13 HCap.out; first | (rw [if_pos hcc] at e; exact e) | (rw [if_neg hcc] at e; exact e)); (case dF1 => exact (fun k hk => by have := HG2.out.hn.2; omega)); (case dB1 => exact HG2.out.bl); (case dS1 => exact HG2.out.bl.size); (case dL1 => have := HLn.out.1; simp only [List.nil_append, List.length_append, List.length_take, vsOf_length, List.length_cons, List.length_nil]; omega); intro v13 w13 ho hb hg hat; have HG3 := Aside0.mk (HG2.out.grown hg (fun k hk => HO2.out.1 k hk) hb); have HO3 := Aside0.mk ho; clear HG2 HO2 ho hb hg hat)
                          go_meet
                          case rel =>
                            refine ⟨rs.take i ++ (.slice Ai (M.cutIn c re.2).length ci, M.cutIn c re.2) :: (.slice Ao (M.cutOut c re.2).length co, M.cutOut c re.2) :: rs.drop (i + 1), ⟨HG3.out.bl⟩, ⟨⟨?_, fun r hr => ?_⟩⟩, ⟨dist_split HD.out HG3.out.ne.1 HG3.out.ne.2⟩, ⟨by rw [split_len rs i hil]; have := HLn.out.1; omega, fun r hr => ?_⟩, ⟨?_⟩⟩
                            · rw [split_vs]
                              exact Kd.R_mono HO3.out (fun _ _ => trivial)
                            · rcases split_mem hr with hr | rfl | rfl
                              · exact Kd.R_mono (HG3.out.rg.inn r hr) (fun _ _ => trivial)
                              · exact Kd.R_mono HG3.out.i (fun _ _ => trivial)
                              · exact Kd.R_mono HG3.out.o (fun _ _ => trivial)
                            · rcases split_mem hr with hr | rfl | rfl
                              · exact HLn.out.2 r hr
                              · exact HLi.out.1
                              · exact HLi.out.2
                            · have e : rs.map (·.2) = (rs.take i).map (·.2) ++ re.2 :: (rs.drop (i + 1)).map (·.2) := by
                                conv => lhs; rw [← List.take_append_drop i rs, List.drop_eq_getElem_cons hil, ← HRe.out.2.1]
                                rw [List.map_append, List.map_cons]
                              rw [e, stepR_at _ _ _ (fun x hx => by
                                obtain ⟨r, hr, rfl⟩ := List.mem_map.1 hx
                                exact HN.out r hr) (hasB_true hA hB), List.map_append, List.map_cons, List.map_cons]
                        · go_wp2_with ((with_reducible refine gate_builtin (b := .append) (xs := #[.tmp 98, .tmp 102]) rfl ?_); at_builtin; refine Kd.R_append_rows KV (w0 := w) w.heap.size rfl (.tmp 98) (.tmp 102) 37 24 (.slice none 0 0) 24 rfl Try.underlying37 info24 rfl (by decide) (by omega) v12 (([] ++ (vsOf rs).take i) ++ [[.slice Ai (M.cutIn c re.2).length ci], [.slice Ao (M.cutOut c re.2).length co]]) ((vsOf rs).drop (i + 1)) _ (rs.length - (i + 1)) _ (fun k => wr.heap.size ≤ k) (fun _ => False) rfl rfl ?dO2 ?dR2 (fun _ _ h => h) (fun _ h => h.elim) ?dF2 ?dB2 ?dS2 ?dL2 ?_; (case dO2 => exact HO2.out); (case dR2 => have e := drop_reads (Kd.R_reads' HG2.out.rg.out).2.2 e13 HCap.out; first | (rw [if_pos hcc] at e; exact e) | (rw [if_neg hcc] at e; exact e)); (case dF2 => exact (fun k hk => by have := HG2.out.hn.2; omega)); (case dB2 => exact HG2.out.bl); (case dS2 => exact HG2.out.bl.size); (case dL2 => have := HLn.out.1; simp only [List.nil_append, List.length_append, List.length_take, vsOf_length, List.length_cons, List.length_nil]; omega); intro v13 w13 ho hb hg hat; have HG3 := Aside0.mk (HG2.out.grown hg (fun k hk => HO2.out.1 k hk) hb); have HO3 := Aside0.mk ho; clear HG2 HO2 ho hb hg hat)
                          go_meet
                          case rel =>
                            refine ⟨rs.take i ++ (.slice Ai (M.cutIn c re.2).length ci, M.cutIn c re.2) :: (.slice Ao (M.cutOut c re.2).length co, M.cutOut c re.2) :: rs.drop (i + 1), ⟨HG3.out.bl⟩, ⟨⟨?_, fun r hr => ?_⟩⟩, ⟨dist_split HD.out HG3.out.ne.1 HG3.out.ne.2⟩, ⟨by rw [split_len rs i hil]; have := HLn.out.1; omega, fun r hr => ?_⟩, ⟨?_⟩⟩
                            · rw [split_vs]
                              exact Kd.R_mono HO3.out (fun _ _ => trivial)
                            · rcases split_mem hr with hr | rfl | rfl
                              · exact Kd.R_mono (HG3.out.rg.inn r hr) (fun _ _ => trivial)
                              · exact Kd.R_mono HG3.out.i (fun _ _ => trivial)
                              · exact Kd.R_mono HG3.out.o (fun _ _ => trivial)
                            · rcases split_mem hr with hr | rfl | rfl
                              · exact HLn.out.2 r hr
                              · exact HLi.out.1
                              · exact HLi.out.2
                            · have e : rs.map (·.2) = (rs.take i).map (·.2) ++ re.2 :: (rs.drop (i + 1)).map (·.2) := by
                                conv => lhs; rw [← List.take_append_drop i rs, List.drop_eq_getElem_cons hil, ← HRe.out.2.1]
                                rw [List.map_append, List.map_cons]
                              rw [e, stepR_at _ _ _ (fun x hx => by
                                obtain ⟨r, hr, rfl⟩ := List.mem_map.1 hx
                                exact HN.out r hr) (hasB_true hA hB), List.map_append, List.map_cons, List.map_cons]
              · have hie : i = rs.length := by have := HG.out; omega
                have e3 : decide ((i : Int) < (rs.length : Int)) = false := decide_eq_false (by omega)
                go_wp2_with fail
                go_meet
                case rel => exact ⟨rs, ⟨HL.out.bl⟩, ⟨HL.out.rg.mono (fun _ _ => trivial)⟩, HD, ⟨by have := HLn.out.1; omega, HLn.out.2⟩, ⟨(stepR_none _ (fun r hr => by
                  obtain ⟨x, hx, rfl⟩ := List.mem_map.1 hr
                  exact HN.out x (by rw [hie, List.take_length]; exact hx))).symm⟩⟩
          case rest =>
            obtain ⟨rs', K1, K2, K3, K4, K5⟩ := hcut
            clear HL HB HR HC
            go_wp2_with fail
            go_roundg gm
            case measure => omega
            case rel => exact ⟨j + 1, rs', by first | rfl | (simp; done), ⟨by have := HG.out; omega⟩, K1, K2, K3, K4, ⟨by rw [K5.out]; exact HF2.out⟩⟩
        · have hjN : j = l1.length := by have := HG.out; omega
          have hF := HF.out
          rw [hjN, List.drop_length, M.foldR] at hF
          have HF2 := Aside0.mk hF
          clear hF HF
          have e1 : decide ((j : Int) < (l1.length : Int)) = false := decide_eq_false (by omega)
          have hrl : rs.length ≤ 1001 := by have := HLn.out.1; omega
          have e1' : decide (j < l1.length) = false := decide_eq_false (by omega)
          clear hjN hj
          obtain ⟨Ar, cr, ev, hcap, hC⟩ := HR.out.slice
          subst ev
          clear hC
          go_wp2_with fail
          clear e1 e1'
          obtain ⟨M0, hM0⟩ : ∃ M0, M0 = rs.length := ⟨_, rfl⟩
          go_loopg [17, 108] M0 (fun gg v17 v108 W => ∃ (i : Nat) (os : RL), v108 = .int .i64 i ∧ Aside0 (i + gg = M0) ∧ Aside0 (Below w.heap.size w W) ∧ Aside0 (Regs w W (fun _ => True) (.slice Ar rs.length cr) rs) ∧ Aside0 (KV.R 24 W w.heap.size (fun _ => True) v17 (vsOf os)) ∧ Aside0 (os.Perm (rs.take i)) ∧ Aside0 (os.map (·.2) = ((rs.take i).map (·.2)).foldl (insB M.lexB) []) ∧ Aside0 (os = [] → v17 = .slice none 0 0))
          case atStart => exact ⟨0, [], by first | rfl | (simp; done), ⟨by omega⟩, HB, HR, ⟨Kd.R_nil _ _ _ _ _⟩, ⟨List.Perm.refl _⟩, ⟨rfl⟩, ⟨fun _ => rfl⟩⟩
          case round =>
            clear HB HR
            obtain ⟨i, os, rfl, HGi, HB, HR, HO2, HPm, HMp, HNl⟩ := hrel
            have hM1 : (M0 : Int) = (rs.length : Int) := by omega
            by_cases hi : i < M0
            · have hil : i < rs.length := by omega
              have e3 : decide ((i : Int) < (rs.length : Int)) = true := decide_eq_true (by omega)
              have e4 : IntKind.i64.wrap ((i : Int) + 1) = ((i + 1 : Nat) : Int) := by
                rw [i64_w]
                exact M.w64 (by omega) (by omega)
              obtain ⟨gi, rfl⟩ : ∃ gi, gk = gi + 1 := ⟨gk - 1, by have := HGi.out; omega⟩
              obtain ⟨re, hre⟩ : ∃ re, re = rs[i] := ⟨_, rfl⟩
              have hmem : re ∈ rs := by rw [hre]; exact List.getElem_mem hil
              obtain ⟨ad2, ea2, x2⟩ := at_raw (Kd.R_reads' HR.out.out).2.2 i hil
              rw [← hre] at x2
              obtain ⟨Ae, ce, ev2⟩ := Kd.R_slice (HR.out.inn re hmem)
              rw [ev2] at x2
              have HRe := Aside0.mk (show re.1 = .slice Ae re.2.length ce ∧ re = rs[i] ∧ re ∈ rs from ⟨ev2, hre, hmem⟩)
              have HRl := Aside0.mk (HLn.out.2 re hmem)
              clear hre hmem ev2
              cases ea2
              obtain ⟨N2, hN2⟩ : ∃ N2, N2 = wr.heap.size := ⟨_, rfl⟩
              have hbw := BW.now HB.out HR.out HO2.out
              rw [← hN2] at hbw
              have HBW := Aside0.mk hbw
              have hosl : os.length = i := by rw [HPm.out.length_eq, List.length_take]; omega
              have HLo := Aside0.mk (show os.length ≤ 1001 by omega)
              have HOl := Aside0.mk hosl
              clear hbw HB HR HO2 hN2 hosl
              obtain ⟨Ao, co, evo, hoc⟩ : ∃ Ao co, u17 = .slice Ao os.length co ∧ os.length ≤ co := by
                obtain ⟨A, c', e, hl, _⟩ := Kd.R_reads HBW.out.og
                rw [vsOf_length] at e hl
                exact ⟨A, c', e, hl⟩
              subst evo
              have HOc := Aside0.mk hoc
              clear hoc
              go_upto_block 10 with fail
              go_cut [20] from 1 to 0 (fun v20 wc => v20 = .int .i64 ((backK M.lexB re.2 (os.map (·.2)) os.length : Nat) : Int) ∧ Aside0 (BW w wc N2 (.slice (some ad2) rs.length cr) rs (.slice Ao os.length co) os))
              case first =>
                clear x2
                go_wp2_with fail
                obtain ⟨L0, hL0⟩ : ∃ L0, L0 = os.length := ⟨_, rfl⟩
                go_loopg [20] L0 (fun gg v20 W => ∃ (k : Nat), v20 = .int .i64 k ∧ Aside0 (k = gg ∧ k ≤ os.length) ∧ Aside0 (BW w W N2 (.slice (some ad2) rs.length cr) rs (.slice Ao os.length co) os) ∧ Aside0 (backK M.lexB re.2 (os.map (·.2)) k = backK M.lexB re.2 (os.map (·.2)) os.length))
                case atStart => exact ⟨os.length, by first | rfl | (simp; done), ⟨by omega⟩, HBW, ⟨rfl⟩⟩
                case round =>
                  clear HBW
                  obtain ⟨k, rfl, HK, HBW, HQ⟩ := hrel
                  by_cases hk0 : k = 0
                  · have e6 : decide (0 < (k : Int)) = false := decide_eq_false (by omega)
                    have E7 := Aside0.mk (show (k : Int) = ((backK M.lexB re.2 (os.map (·.2)) os.length : Nat) : Int) by
                      rw [← HQ.out, hk0]; rfl)
                    have e9 : decide (0 < k) = false := decide_eq_false (by omega)
                    clear hk0
                    go_wp2_with fail
                    go_meet
                    case rel => exact ⟨by rw [E7.out], HBW⟩
                  · obtain ⟨k', hk'⟩ : ∃ k', k = k' + 1 := ⟨k - 1, by omega⟩
                    have hkl : k' < os.length := by have := HK.out; omega
                    have e6 : decide (0 < (k : Int)) = true := decide_eq_true (by omega)
                    have e7 : IntKind.i64.wrap ((k : Int) - 1) = (k' : Int) := by
                      rw [i64_w, M.w64 (by omega) (by have := HLo.out; omega)]
                      omega
                    obtain ⟨gj, rfl⟩ : ∃ gj, gk = gj + 1 := ⟨gk - 1, by have := HK.out; omega⟩
                    obtain ⟨oe, hoe⟩ : ∃ oe, oe = os[k'] := ⟨_, rfl⟩
                    have hom : oe ∈ rs := List.mem_of_mem_take (HPm.out.mem_iff.1 (by rw [hoe]; exact List.getElem_mem hkl))
                    obtain ⟨ad5, ea5, x5⟩ := at_raw (Kd.R_reads' HBW.out.og).2.2 k' hkl
                    rw [← hoe] at x5
                    obtain ⟨Aq, cq, evq⟩ := Kd.R_slice (HBW.out.rg.inn oe hom)
                    rw [evq] at x5
                    have hq1 := HBW.out.rg.inn oe hom
                    rw [evq] at hq1
                    have hq2 := HBW.out.rg.inn re HRe.out.2.2
                    rw [HRe.out.1] at hq2
                    have HC := Aside0.mk (calls_drawn (less_calls Ae ce re.2 Aq cq oe.2 wr (Kd.R_reads' hq2).2.2 (Kd.R_reads' hq2).2.1 (Kd.R_reads' hq1).2.2 (Kd.R_reads' hq1).2.1 (by have := HRl.out; omega)))
                    have HQ2 := Aside0.mk (show backK M.lexB re.2 (os.map (·.2)) k = if M.lexB re.2 oe.2 = true then backK M.lexB re.2 (os.map (·.2)) k' else k by
                      rw [hk', backK, List.getD_eq_getElem?_getD, List.getElem?_map, List.getElem?_eq_getElem hkl, ← hoe]
                      rfl)
                    have HKe := Aside0.mk hk'
                    cases ea5
                    clear hoe evq hq1 hq2 hk'
                    cases hlt : M.lexB re.2 oe.2 with
                    | true =>
                      rw [hlt] at HC
                      go_wp2_with (go_at_call 60; refine HC.out.mono ?_; rintro e w15 ⟨rfl, hb15⟩; have HBW2 := Aside0.mk (HBW.out.go hb15); clear HBW HC hb15 x5; have HBW := HBW2; clear HBW2)
                      go_roundg gj
                      case measure => omega
                      case rel => exact ⟨k', by first | rfl | (simp; done), ⟨by have := HK.out; have := HKe.out; omega⟩, HBW, ⟨by rw [← HQ.out, HQ2.out, if_pos hlt]⟩⟩
                    | false =>
                      rw [hlt] at HC
                      have E8 := Aside0.mk (show (k : Int) = ((backK M.lexB re.2 (os.map (·.2)) os.length : Nat) : Int) by
                        rw [← HQ.out, HQ2.out, if_neg (by rw [hlt]; decide)])
                      go_wp2_with (go_at_call 60; refine HC.out.mono ?_; rintro e w15 ⟨rfl, hb15⟩; have HBW2 := Aside0.mk (HBW.out.go hb15); clear HBW HC hb15 x5; have HBW := HBW2; clear HBW2)
                      go_meet
                      case rel => exact ⟨by rw [E8.out], HBW⟩
              case rest =>
                obtain ⟨rfl, HBW2⟩ := hcut
                clear HBW x2
                have HBW := HBW2
                clear HBW2
                obtain ⟨K0, hK⟩ : ∃ K0, K0 = backK M.lexB re.2 (os.map (·.2)) os.length := ⟨_, rfl⟩
                rw [← hK]
                have HKd := Aside0.mk hK
                have HK0 := Aside0.mk (show K0 ≤ os.length by rw [hK]; exact backK_le _ _ _ _)
                clear hK
                have hk1 : K0 ≤ co := by have := HK0.out; have := HOc.out; omega
                have hk2 : K0 ≤ os.length := HK0.out
                rcases (show (os = [] ∧ Ao = none ∧ co = 0) ∨ ∃ ad5, Ao = some ad5 by
                  by_cases h0 : os = []
                  · have e := HNl.out h0
                    injection e with q1 q2 q3
                    exact .inl ⟨h0, q1, q3⟩
                  · right
                    obtain ⟨ad5, e5, _⟩ := at_raw (Kd.R_reads' HBW.out.og).2.2 0 (List.length_pos_iff.2 h0)
                    exact ⟨ad5, e5⟩) with ⟨rfl, rfl, rfl⟩ | ⟨ad5, rfl⟩
                · obtain rfl : K0 = 0 := by simpa using hk2
                  have hcc : (0 : Nat) = 0 := rfl
                  go_upto_region 35 with (first | ((with_reducible refine gate_builtin (b := .append) (xs := #[.tmp 127, .tmp 130]) rfl ?_); at_builtin; refine Kd.R_append_rows KV (w0 := w) w.heap.size rfl (.tmp 127) (.tmp 130) 37 24 (.slice none 0 0) 24 rfl Try.underlying37 info24 rfl (by decide) (by omega) (.slice (some ⟨wc.heap.size, 0, none⟩) 0 0) [] ((vsOf []).take 0) none 0 0 (fun k => N2 ≤ k) (fun _ => False) rfl rfl ?pOn ?pRn (fun _ _ h => h) (fun _ h => h.elim) ?pFn ?pBn ?pSn ?pLn ?_; (case pOn => exact Kd.R_mono (raw_lit HBW.out.bl.size [] (by simp) (by simp)) (fun k hk => by have := HBW.out.hn.2; omega)); (case pRn => exact take_reads (Kd.R_reads' (Kd.R_alloc HBW.out.og _)).2.2 HK0.out); (case pFn => exact (fun k hk => by rw [size_alloc1] at hk; have := HBW.out.hn.2; omega)); (case pBn => exact below_alloc HBW.out.bl _); (case pSn => exact Nat.le_trans HBW.out.bl.size (by rw [size_alloc1]; omega)); (case pLn => have := HLo.out; have := HK0.out; simp only [List.length_nil]; omega); intro v21 w21 ho hb hg hat; have HB1 := Aside0.mk ((HBW.out.go (below_alloc (Below.refl _ _) _)).grown hg (fun k hk => by have hk : some wc.heap.size = some k := hk; injection hk with hk; have := HBW.out.hn.2; omega) hb); have HP1 := Aside0.mk ho; clear HBW ho hb hg hat) | ((with_reducible refine gate_builtin (b := .append) (xs := #[.tmp 131, .tmp 133]) rfl ?_); at_builtin; refine Kd.R_append_rows KV (w0 := w) w.heap.size rfl (.tmp 131) (.tmp 133) 37 24 (.slice none 0 0) 24 rfl Try.underlying37 info24 rfl (by decide) (by omega) v21 ([] ++ (vsOf []).take 0) [[.slice Ae re.2.length ce]] (some ⟨w21.heap.size, 0, none⟩) 1 1 (fun k => N2 ≤ k) (fun _ => False) rfl rfl ?qOn ?qRn (fun _ _ h => h) (fun _ h => h.elim) ?qFn ?qBn ?qSn ?qLn ?_; (case qOn => exact Kd.R_alloc HP1.out _); (case qRn => exact (Kd.R_reads' (raw_lit (w := w) HB1.out.bl.size [.slice Ae re.2.length ce] (by intro u hu; rw [List.mem_singleton.1 hu]; rfl) (by simp))).2.2); (case qFn => exact (fun k hk => by rw [size_alloc1] at hk; have := HB1.out.hn.2; omega)); (case qBn => exact below_alloc HB1.out.bl _); (case qSn => exact Nat.le_trans HB1.out.bl.size (by rw [size_alloc1]; omega)); (case qLn => have := HLo.out; simp only [List.nil_append, List.length_take, vsOf_length]; omega); intro v22 w22 ho hb hg hat; have HB2 := Aside0.mk ((HB1.out.go (below_alloc (Below.refl _ _) _)).grown hg (fun k hk => HP1.out.1 k hk) hb); have HP2 := Aside0.mk ho; clear HB1 HP1 ho hb hg hat))
                  go_wp2_with ((with_reducible refine gate_builtin (b := .append) (xs := #[.tmp 135, .tmp 138]) rfl ?_); at_builtin; refine Kd.R_append_rows KV (w0 := w) w.heap.size rfl (.tmp 135) (.tmp 138) 37 24 (.slice none 0 0) 24 rfl Try.underlying37 info24 rfl (by decide) (by omega) v22 (([] ++ (vsOf []).take 0) ++ [[.slice Ae re.2.length ce]]) ((vsOf []).drop 0) _ 0 _ (fun k => N2 ≤ k) (fun _ => False) rfl rfl ?sOn ?sRn (fun _ _ h => h) (fun _ h => h.elim) ?sFn ?sBn ?sSn ?sLn ?_; (case sOn => exact HP2.out); (case sRn => have e := drop_reads (Kd.R_reads' HB2.out.og).2.2 HK0.out HOc.out; first | (rw [if_pos hcc] at e; exact e) | (rw [if_neg hcc] at e; exact e)); (case sFn => exact (fun k hk => by have := HB2.out.hn.2; omega)); (case sBn => exact HB2.out.bl); (case sSn => exact HB2.out.bl.size); (case sLn => have := HLo.out; simp only [List.nil_append, List.length_append, List.length_take, vsOf_length, List.length_cons, List.length_nil]; omega); intro v23 w23 ho hb hg hat; have HB3 := Aside0.mk (HB2.out.grown hg (fun k hk => HP2.out.1 k hk) hb); have HP3 := Aside0.mk ho; clear HB2 HP2 ho hb hg hat)
                  go_roundg gi
                  case measure => omega
                  case rel => exact ⟨i + 1, ([] : RL).take 0 ++ re :: ([] : RL).drop 0, by first | rfl | (simp; done), ⟨by have := HGi.out; omega⟩, ⟨HB3.out.bl⟩, ⟨HB3.out.rg.mono (fun _ _ => trivial)⟩, ⟨by rw [vs_ins, HRe.out.1]; exact Kd.R_mono HP3.out (fun _ _ => trivial)⟩, ⟨ins_perm hil HPm.out HRe.out.2.1⟩, ⟨ins_map hil HMp.out HRe.out.2.1 HKd.out⟩, ⟨fun e => absurd e (by simp)⟩⟩
                · have hdum : True := trivial
                  go_upto_region 35 with (first | ((with_reducible refine gate_builtin (b := .append) (xs := #[.tmp 127, .tmp 130]) rfl ?_); at_builtin; refine Kd.R_append_rows KV (w0 := w) w.heap.size rfl (.tmp 127) (.tmp 130) 37 24 (.slice none 0 0) 24 rfl Try.underlying37 info24 rfl (by decide) (by omega) (.slice (some ⟨wc.heap.size, 0, none⟩) 0 0) [] ((vsOf os).take K0) (some ad5) K0 co (fun k => N2 ≤ k) (fun _ => False) rfl rfl ?pOm ?pRm (fun _ _ h => h) (fun _ h => h.elim) ?pFm ?pBm ?pSm ?pLm ?_; (case pOm => exact Kd.R_mono (raw_lit HBW.out.bl.size [] (by simp) (by simp)) (fun k hk => by have := HBW.out.hn.2; omega)); (case pRm => exact take_reads (Kd.R_reads' (Kd.R_alloc HBW.out.og _)).2.2 HK0.out); (case pFm => exact (fun k hk => by rw [size_alloc1] at hk; have := HBW.out.hn.2; omega)); (case pBm => exact below_alloc HBW.out.bl _); (case pSm => exact Nat.le_trans HBW.out.bl.size (by rw [size_alloc1]; omega)); (case pLm => have := HLo.out; have := HK0.out; simp only [List.length_nil]; omega); intro v21 w21 ho hb hg hat; have HB1 := Aside0.mk ((HBW.out.go (below_alloc (Below.refl _ _) _)).grown hg (fun k hk => by have hk : some wc.heap.size = some k := hk; injection hk with hk; have := HBW.out.hn.2; omega) hb); have HP1 := Aside0.mk ho; clear HBW ho hb hg hat) | ((with_reducible refine gate_builtin (b := .append) (xs := #[.tmp 131, .tmp 133]) rfl ?_); at_builtin; refine Kd.R_append_rows KV (w0 := w) w.heap.size rfl (.tmp 131) (.tmp 133) 37 24 (.slice none 0 0) 24 rfl Try.underlying37 info24 rfl (by decide) (by omega) v21 ([] ++ (vsOf os).take K0) [[.slice Ae re.2.length ce]] (some ⟨w21.heap.size, 0, none⟩) 1 1 (fun k => N2 ≤ k) (fun _ => False) rfl rfl ?qOm ?qRm (fun _ _ h => h) (fun _ h => h.elim) ?qFm ?qBm ?qSm ?qLm ?_; (case qOm => exact Kd.R_alloc HP1.out _); (case qRm => exact (Kd.R_reads' (raw_lit (w := w) HB1.out.bl.size [.slice Ae re.2.length ce] (by intro u hu; rw [List.mem_singleton.1 hu]; rfl) (by simp))).2.2); (case qFm => exact (fun k hk => by rw [size_alloc1] at hk; have := HB1.out.hn.2; omega)); (case qBm => exact below_alloc HB1.out.bl _); (case qSm => exact Nat.le_trans HB1.out.bl.size (by rw [size_alloc1]; omega)); (case qLm => have := HLo.out; simp only [List.nil_append, List.length_take, vsOf_length]; omega); intro v22 w22 ho hb hg hat; have HB2 := Aside0.mk ((HB1.out.go (below_alloc (Below.refl _ _) _)).grown hg (fun k hk => HP1.out.1 k hk) hb); have HP2 := Aside0.mk ho; clear HB1 HP1 ho hb hg hat))
                  by_cases hcc : co = K0
                  · go_wp2_with ((with_reducible refine gate_builtin (b := .append) (xs := #[.tmp 135, .tmp 138]) rfl ?_); at_builtin; refine Kd.R_append_rows KV (w0 := w) w.heap.size rfl (.tmp 135) (.tmp 138) 37 24 (.slice none 0 0) 24 rfl Try.underlying37 info24 rfl (by decide) (by omega) v22 (([] ++ (vsOf os).take K0) ++ [[.slice Ae re.2.length ce]]) ((vsOf os).drop K0) _ (os.length - K0) _ (fun k => N2 ≤ k) (fun _ => False) rfl rfl ?sOm1 ?sRm1 (fun _ _ h => h) (fun _ h => h.elim) ?sFm1 ?sBm1 ?sSm1 ?sLm1 ?_; (case sOm1 => exact HP2.out); (case sRm1 => have e := drop_reads (Kd.R_reads' HB2.out.og).2.2 HK0.out HOc.out; first | (rw [if_pos hcc] at e; exact e) | (rw [if_neg hcc] at e; exact e)); (case sFm1 => exact (fun k hk => by have := HB2.out.hn.2; omega)); (case sBm1 => exact HB2.out.bl); (case sSm1 => exact HB2.out.bl.size); (case sLm1 => have := HLo.out; simp only [List.nil_append, List.length_append, List.length_take, vsOf_length, List.length_cons, List.length_nil]; omega); intro v23 w23 ho hb hg hat; have HB3 := Aside0.mk (HB2.out.grown hg (fun k hk => HP2.out.1 k hk) hb); have HP3 := Aside0.mk ho; clear HB2 HP2 ho hb hg hat)
                    go_roundg gi
                    case measure => omega
                    case rel => exact ⟨i + 1, os.take K0 ++ re :: os.drop K0, by first | rfl | (simp; done), ⟨by have := HGi.out; omega⟩, ⟨HB3.out.bl⟩, ⟨HB3.out.rg.mono (fun _ _ => trivial)⟩, ⟨by rw [vs_ins, HRe.out.1]; exact Kd.R_mono HP3.out (fun _ _ => trivial)⟩, ⟨ins_perm hil HPm.out HRe.out.2.1⟩, ⟨ins_map hil HMp.out HRe.out.2.1 HKd.out⟩, ⟨fun e => absurd e (by simp)⟩⟩
                  · go_wp2_with ((with_reducible refine gate_builtin (b := .append) (xs := #[.tmp 135, .tmp 138]) rfl ?_); at_builtin; refine Kd.R_append_rows KV (w0 := w) w.heap.size rfl (.tmp 135) (.tmp 138) 37 24 (.slice none 0 0) 24 rfl Try.underlying37 info24 rfl (by decide) (by omega) v22 (([] ++ (vsOf os).take K0) ++ [[.slice Ae re.2.length ce]]) ((vsOf os).drop K0) _ (os.length - K0) _ (fun k => N2 ≤ k) (fun _ => False) rfl rfl ?sOm2 ?sRm2 (fun _ _ h => h) (fun _ h => h.elim) ?sFm2 ?sBm2 ?sSm2 ?sLm2 ?_; (case sOm2 => exact HP2.out); (case sRm2 => have e := drop_reads (Kd.R_reads' HB2.out.og).2.2 HK0.out HOc.out; first | (rw [if_pos hcc] at e; exact e) | (rw [if_neg hcc] at e; exact e)); (case sFm2 => exact (fun k hk => by have := HB2.out.hn.2; omega)); (case sBm2 => exact HB2.out.bl); (case sSm2 => exact HB2.out.bl.size); (case sLm2 => have := HLo.out; simp only [List.nil_append, List.length_append, List.length_take, vsOf_length, List.length_cons, List.length_nil]; omega); intro v23 w23 ho hb hg hat; have HB3 := Aside0.mk (HB2.out.grown hg (fun k hk => HP2.out.1 k hk) hb); have HP3 := Aside0.mk ho; clear HB2 HP2 ho hb hg hat)
                    go_roundg gi
                    case measure => omega
                    case rel => exact ⟨i + 1, os.take K0 ++ re :: os.drop K0, by first | rfl | (simp; done), ⟨by have := HGi.out; omega⟩, ⟨HB3.out.bl⟩, ⟨HB3.out.rg.mono (fun _ _ => trivial)⟩, ⟨by rw [vs_ins, HRe.out.1]; exact Kd.R_mono HP3.out (fun _ _ => trivial)⟩, ⟨ins_perm hil HPm.out HRe.out.2.1⟩, ⟨ins_map hil HMp.out HRe.out.2.1 HKd.out⟩, ⟨fun e => absurd e (by simp)⟩⟩
            · have hie : i = rs.length := by have := HGi.out; omega
              have e3 : decide ((i : Int) < (rs.length : Int)) = false := decide_eq_false (by omega)
              have hdum : True := trivial
              have hPm := HPm.out
              have hMp := HMp.out
              rw [hie, List.take_length] at hPm hMp
              have HS := Aside0.mk (Regs.S (⟨HO2.out, fun r hr => HR.out.inn r (hPm.mem_iff.1 hr)⟩ : Regs w wr (fun _ => True) u17 os) (dist_perm hPm.symm HD.out))
              rw [hMp, HF2.out] at HS
              clear hPm hMp hie
              go_wp2_with fail
              go_ret
              exact ⟨_, by first | rfl | (simp; done), HS.out, HB.out⟩
end Go.Proofs.Ytdeenfpcmaadcaa.Pr

-- Written by a program for this claim.
namespace Go.Proofs.Ytdeenfpcmaadcaa.Pr
open Go.RowKit Go.Proofs.YtdeenfpcmaadcaaW.PrintWords Go.Proofs.YtdeenfpcmaadcaaW.PrintLast Go.Proofs.YtdeenfpcmaadcaaW.PrintMore
attribute [local go_sem] max2_int min2_int max_two min_two max_three min_three max_four min_four   -- for this text's walks alone
set_option linter.unusedVariables false
set_option linter.unusedSimpArgs false

/-! ### spec_RegionOfArc: function 18 -/
def spec_RegionOfArc.j0 : Nat → Int → List (S47) → Int → Bool → Option (Int × Bool)
  | 0, _, _, _, _ => none
  | k + 1, x0, x1, x2, x18 => if x18 = true then (some (0, false)) else ((spec_reList.f x0 x1).bind fun t400 => ((spec_reArc.f k x0 x1 t400 x2).bind fun t403 => (some (t403, true))))
def spec_RegionOfArc.f (k : Nat) (a0 : Int) (l1 : List (S47)) (a2 : Int) : Option (Int × Bool) := (spec_rePlane.f k a0 l1).bind fun t398 => (if t398 = true then ((spec_l1In.f a2 0 (wrap64 (a0 - 1))).bind fun t399 => (spec_RegionOfArc.j0 k a0 l1 a2 (!t399))) else (spec_RegionOfArc.j0 k a0 l1 a2 true))
theorem spec_RegionOfArc.mono_l : ∀ k, (∀ y0 y1 y2 y3, LeO (spec_RegionOfArc.j0 k y0 y1 y2 y3) (spec_RegionOfArc.j0 (k + 1) y0 y1 y2 y3))
  | 0 => fun _ _ _ _ r h => by simp [spec_RegionOfArc.j0] at h
  | k + 1 => by
    have ih0 := spec_RegionOfArc.mono_l k
    · intro y0 y1 y2 y3
      unfold spec_RegionOfArc.j0
      repeat' first
      | (with_reducible exact ih0 _ _ _ _)
      | (with_reducible exact spec_reArc.mono _ _ _ _ _)
      | (with_reducible exact spec_rePlane.mono _ _ _)
      | (with_reducible exact LeO.refl _)
      | (with_reducible exact LeO.none _)
      | (with_reducible refine LeO.ite ?_ ?_)
      | (with_reducible refine LeO.bind ?_ (fun _ => ?_))
      | exact ih0 _ _ _ _
      | exact spec_reArc.mono _ _ _ _ _
      | exact spec_rePlane.mono _ _ _
      | exact LeO.none _
      | refine LeO.ite ?_ ?_
      | refine LeO.bind ?_ (fun _ => ?_)
theorem spec_RegionOfArc.mono : ∀ a0 a1 a2 k, LeO (spec_RegionOfArc.f k a0 a1 a2) (spec_RegionOfArc.f (k + 1) a0 a1 a2) := by
  intro a0 a1 a2 k
  have ih0 := spec_RegionOfArc.mono_l k
  unfold spec_RegionOfArc.f
  repeat' first
      | (with_reducible exact ih0 _ _ _ _)
      | (with_reducible exact spec_reArc.mono _ _ _ _ _)
      | (with_reducible exact spec_rePlane.mono _ _ _)
      | (with_reducible exact LeO.refl _)
      | (with_reducible exact LeO.none _)
      | (with_reducible refine LeO.ite ?_ ?_)
      | (with_reducible refine LeO.bind ?_ (fun _ => ?_))
      | exact ih0 _ _ _ _
      | exact spec_reArc.mono _ _ _ _ _
      | exact spec_rePlane.mono _ _ _
      | exact LeO.none _
      | refine LeO.ite ?_ ?_
      | refine LeO.bind ?_ (fun _ => ?_)
set_option maxHeartbeats 8000000 in
set_option maxRecDepth 100000 in
theorem spec_RegionOfArc.calls (k : Nat) (a0 : Int) (A1 : Option Addr) (c1 : Nat) (l1 : List (S47)) (a2 : Int) (r1 : Int) (r2 : Bool) (w : World) (hr1 : Kd.C k47 w A1 l1.length l1) (hc1 : l1.length ≤ c1) (h : spec_RegionOfArc.f k a0 l1 a2 = some (r1, r2)) :
    Calls Try.prog 18 #[.int .i64 a0, .slice A1 l1.length c1, .int .i64 a2] w fun e w' => e = .returned (.tuple #[.int .i64 r1, .bool r2]) ∧ Below w.heap.size w w' := by
  have HR1 := Aside0.mk hr1
  have HC1 := Aside0.mk hc1
  clear hr1 hc1
  have HB := Aside0.mk (Below.refl w.heap.size w)
  have H : ((spec_rePlane.f k a0 l1).bind fun t398 => (if t398 = true then ((spec_l1In.f a2 0 (wrap64 (a0 - 1))).bind fun t399 => (spec_RegionOfArc.j0 k a0 l1 a2 (!t399))) else (spec_RegionOfArc.j0 k a0 l1 a2 true))) = some (r1, r2) := h
  clear h
  have HC4 := Aside0.mk H
  clear H
  go_enter Try.func18, Try.ntmps18
  go_upto_region 1 with (fail)
  go_cut [18] (fun v18 wc => ∃ (kq : Nat) (x18_3 : Bool), v18 = .bool x18_3 ∧ Aside0 (spec_RegionOfArc.j0 kq a0 l1 a2 x18_3 = some (r1, r2)) ∧ Aside0 (kq ≤ k) ∧ Aside0 (Below w.heap.size w wc))
  case first =>
    have H := HC4.out
    clear HC4
    replace H := Option.bind_eq_some_iff.mp H
    obtain ⟨t398, A50, H⟩ := H
    replace H : (if t398 = true then ((spec_l1In.f a2 0 (wrap64 (a0 - 1))).bind fun t399 => (spec_RegionOfArc.j0 k a0 l1 a2 (!t399))) else (spec_RegionOfArc.j0 k a0 l1 a2 true)) = some (r1, r2) := H
    have A5 := Aside0.mk A50
    clear A50
    by_cases c6 : t398 = true
    · subst c6
      have H1 : ((spec_l1In.f a2 0 (wrap64 (a0 - 1))).bind fun t399 => (spec_RegionOfArc.j0 k a0 l1 a2 (!t399))) = some (r1, r2) := by rw [if_pos rfl] at H; exact H
      clear H
      have H := H1
      clear H1
      replace H := Option.bind_eq_some_iff.mp H
      obtain ⟨t399, A70, H⟩ := H
      replace H : (spec_RegionOfArc.j0 k a0 l1 a2 (!t399)) = some (r1, r2) := H
      have A7 := Aside0.mk A70
      clear A70
      have H' := Aside0.mk H
      clear H
      go_wp2_with (first | ((with_reducible refine gate_callee (f := 32) rfl ?_); refine goesL_ (some 10) rfl rfl Try.func32 (by kernel_rfl) rfl #[.int .i64 a0, .slice A1 l1.length c1] rfl (by (try simp only [List.map_toArray, List.map_cons, List.map_nil]); first | done | rfl | (simp only [List.length_drop, List.length_take]; rfl)) ?_; (with_reducible refine (spec_rePlane.calls k a0 _ _ l1 true _ ?side1 ?side2 A5.out).mono ?_); (case side1 => repeat (first | exact (Kd.C_below HR1.out HB.out) | (with_reducible refine Kd.C_alloc ?_ _) | (with_reducible refine Kd.C_drewN ?_ _) | (with_reducible refine Kd.C_drew ?_))); (case side2 => exact HC1.out); rintro e w8 ⟨rfl, hb⟩; refine ⟨_, rfl, ?_⟩; have n0_ := Aside0.mk (below_step (by repeat (first | (with_reducible first | exact HB.out | apply below_alloc | apply pw_below_drewN | apply below_drew1) | exact HB.out)) hb); clear HB; have HB := n0_; clear n0_; (try clear hb); (try clear hb2); (try clear hk); (try clear hi)) | (go_at_call 37; (with_reducible refine (spec_l1In.calls a2 0 (wrap64 (a0 - 1)) t399 _ A7.out).mono ?_); rintro e w' ⟨rfl, ⟨nd, rfl⟩⟩))
      go_meet
      case rel => exact ⟨_, (!t399), (by first | rfl | (simp; done) | (simp [*]; done)), H', ⟨by first | omega | exact Nat.le_refl _⟩, ⟨by repeat (first | (with_reducible first | exact HB.out | apply below_alloc | apply pw_below_drewN | apply below_drew1) | exact HB.out)⟩⟩
    · replace c6 := Bool.eq_false_iff.mpr c6
      subst c6
      have H1 : (spec_RegionOfArc.j0 k a0 l1 a2 true) = some (r1, r2) := by rw [if_neg (show ¬ (false = true) by decide)] at H; exact H
      clear H
      have H := H1
      clear H1
      have H' := Aside0.mk H
      clear H
      go_wp2_with (first | ((with_reducible refine gate_callee (f := 32) rfl ?_); refine goesL_ (some 10) rfl rfl Try.func32 (by kernel_rfl) rfl #[.int .i64 a0, .slice A1 l1.length c1] rfl (by (try simp only [List.map_toArray, List.map_cons, List.map_nil]); first | done | rfl | (simp only [List.length_drop, List.length_take]; rfl)) ?_; (with_reducible refine (spec_rePlane.calls k a0 _ _ l1 false _ ?side1 ?side2 A5.out).mono ?_); (case side1 => repeat (first | exact (Kd.C_below HR1.out HB.out) | (with_reducible refine Kd.C_alloc ?_ _) | (with_reducible refine Kd.C_drewN ?_ _) | (with_reducible refine Kd.C_drew ?_))); (case side2 => exact HC1.out); rintro e w9 ⟨rfl, hb⟩; refine ⟨_, rfl, ?_⟩; have n0_ := Aside0.mk (below_step (by repeat (first | (with_reducible first | exact HB.out | apply below_alloc | apply pw_below_drewN | apply below_drew1) | exact HB.out)) hb); clear HB; have HB := n0_; clear n0_; (try clear hb); (try clear hb2); (try clear hk); (try clear hi)))
      go_meet
      case rel => exact ⟨_, (true), (by first | rfl | (simp; done) | (simp [*]; done)), H', ⟨by first | omega | exact Nat.le_refl _⟩, ⟨by repeat (first | (with_reducible first | exact HB.out | apply below_alloc | apply pw_below_drewN | apply below_drew1) | exact HB.out)⟩⟩
  case rest =>
    clear HC4
    try clear c1
    try clear p2
    try clear c3
    try clear c6
    try clear p6
    obtain ⟨kq, x18_3, rfl, HA, HJ3, HB⟩ := hcut
    cases kq with
    | zero => exact absurd HA.out (by simp [spec_RegionOfArc.j0])
    | succ kj3 =>
      have H := HA.out
      clear HA
      simp only [spec_RegionOfArc.j0] at H
      by_cases c10 : x18_3 = true
      · subst c10
        have H1 : (some (0, false)) = some (r1, r2) := by rw [if_pos rfl] at H; exact H
        clear H
        have H := H1
        clear H1
        simp only [Option.some.injEq, Prod.mk.injEq] at H
        obtain ⟨rfl, rfl⟩ := H
        go_wp2
        go_ret2
        exact ⟨by first | rfl | (simp [errW_none, errW_some] <;> rfl) | (simp [*, errW_none, errW_some] <;> rfl), by repeat (first | (with_reducible first | exact HB.out | apply below_alloc | apply pw_below_drewN | apply below_drew1) | exact HB.out)⟩
      · replace c10 := Bool.eq_false_iff.mpr c10
        subst c10
        have H1 : ((spec_reList.f a0 l1).bind fun t400 => ((spec_reArc.f kj3 a0 l1 t400 a2).bind fun t403 => (some (t403, true)))) = some (r1, r2) := by rw [if_neg (show ¬ (false = true) by decide)] at H; exact H
        clear H
        have H := H1
        clear H1
        replace H := Option.bind_eq_some_iff.mp H
        obtain ⟨t400, A110, H⟩ := H
        replace H : ((spec_reArc.f kj3 a0 l1 t400 a2).bind fun t403 => (some (t403, true))) = some (r1, r2) := H
        have A11 := Aside0.mk A110
        clear A110
        replace H := Option.bind_eq_some_iff.mp H
        obtain ⟨t403, A120, H⟩ := H
        replace H : (some (t403, true)) = some (r1, r2) := H
        have A12 := Aside0.mk A120
        clear A120
        simp only [Option.some.injEq, Prod.mk.injEq] at H
        obtain ⟨rfl, rfl⟩ := H
        go_wp2_with (first | ((with_reducible refine gate_callee (f := 33) rfl ?_); refine goesL_ (some 23) rfl rfl Try.func33 (by kernel_rfl) rfl #[.int .i64 a0, .slice A1 l1.length c1] rfl (by (try simp only [List.map_toArray, List.map_cons, List.map_nil]); first | done | rfl | (simp only [List.length_drop, List.length_take]; rfl)) ?_; (with_reducible refine (spec_reList.calls a0 _ _ l1 t400 _ ?side1 ?side2 A11.out).mono ?_); (case side1 => repeat (first | exact (Kd.C_below HR1.out HB.out) | (with_reducible refine Kd.C_alloc ?_ _) | (with_reducible refine Kd.C_drewN ?_ _) | (with_reducible refine Kd.C_drew ?_))); (case side2 => exact HC1.out); rintro e w13 ⟨v401, rfl, ho0, hb⟩; refine ⟨_, rfl, ?_⟩; have n0_ := Aside0.mk (Kd.S_lower ho0 (below_size (by repeat (first | (with_reducible first | exact HB.out | apply below_alloc | apply pw_below_drewN | apply below_drew1) | exact HB.out)))); have n1_ := Aside0.mk (below_step (by repeat (first | (with_reducible first | exact HB.out | apply below_alloc | apply pw_below_drewN | apply below_drew1) | exact HB.out)) hb); clear HB; have HO402 := n0_; have HB := n1_; clear n0_ n1_; (try clear hb); (try clear hb2); (try clear hk); (try clear hi); (try clear ho0); obtain ⟨Ao14, co14, eo14⟩ := Kd.S_slice HO402.out; subst eo14) | ((with_reducible refine gate_callee (f := 38) rfl ?_); refine goesL_ (some 25) rfl rfl Try.func38 (by kernel_rfl) rfl #[.int .i64 a0, .slice A1 l1.length c1, .slice Ao14 t400.length co14, .int .i64 a2] rfl (by (try simp only [List.map_toArray, List.map_cons, List.map_nil]); first | done | rfl | (simp only [List.length_drop, List.length_take]; rfl)) ?_; (with_reducible refine (spec_reArc.calls kj3 a0 _ _ l1 _ _ t400 a2 t403 _ ?side1 ?side2 ?side3 ?side4 A12.out).mono ?_); (case side1 => repeat (first | exact (Kd.C_below HR1.out HB.out) | (with_reducible refine Kd.C_alloc ?_ _) | (with_reducible refine Kd.C_drewN ?_ _) | (with_reducible refine Kd.C_drew ?_))); (case side2 => exact HC1.out); (case side3 => repeat (first | exact (Kd.S_reads' HO402.out).2.2 | (with_reducible refine Kd.C_alloc ?_ _) | (with_reducible refine Kd.C_drewN ?_ _) | (with_reducible refine Kd.C_drew ?_))); (case side4 => exact (Kd.S_reads' HO402.out).2.1); rintro e w15 ⟨rfl, hb⟩; refine ⟨_, rfl, ?_⟩; have n0_ := Aside0.mk (Kd.S_below (by (with_reducible repeat (first | apply Kd.S_alloc | apply Kd.S_drewN | apply Kd.S_drew)); exact HO402.out) hb); have n1_ := Aside0.mk (below_step (by repeat (first | (with_reducible first | exact HB.out | apply below_alloc | apply pw_below_drewN | apply below_drew1) | exact HB.out)) hb); clear HO402; clear HB; have HO402 := n0_; have HB := n1_; clear n0_ n1_; (try clear hb); (try clear hb2); (try clear hk); (try clear hi)))
        go_ret2
        exact ⟨by first | rfl | (simp [errW_none, errW_some] <;> rfl) | (simp [*, errW_none, errW_some] <;> rfl), by repeat (first | (with_reducible first | exact HB.out | apply below_alloc | apply pw_below_drewN | apply below_drew1) | exact HB.out)⟩

end Go.Proofs.Ytdeenfpcmaadcaa.Pr

-- Written by a program for this claim.
namespace Go.Proofs.Ytdeenfpcmaadcaa.Pr
open Go.RowKit Go.Proofs.YtdeenfpcmaadcaaW.PrintWords Go.Proofs.YtdeenfpcmaadcaaW.PrintLast Go.Proofs.YtdeenfpcmaadcaaW.PrintMore
attribute [local go_sem] max2_int min2_int max_two min_two max_three min_three max_four min_four   -- for this text's walks alone
set_option linter.unusedVariables false
set_option linter.unusedSimpArgs false

/-! ### slices_Compare_int_int: function 66 -/
def slices_Compare_int_int.l0 : Nat → List Int → List Int → List Int → Int → Int → Option (Int)
  | 0, _, _, _, _, _ => none
  | k + 1, x0, x1, x9, x10, x11 => if x11 < x10 then (if 0 ≤ x11 then (if x11 < (x9.length : Int) then (if x11 ≥ (x1.length : Int) then (some 1) else (if x11 < (x1.length : Int) then ((cmp_Compare_int.f (rd x9 x11) (rd x1 x11)).bind fun t148 => (if t148 = 0 then (slices_Compare_int_int.l0 k x0 x1 x9 x10 (wrap64 (x11 + 1))) else (some t148))) else (none))) else (none)) else (none)) else (if (x0.length : Int) < (x1.length : Int) then (some (-1)) else (some 0))
def slices_Compare_int_int.f (k : Nat) (l0 : List Int) (l1 : List Int) : Option (Int) := slices_Compare_int_int.l0 k l0 l1 l0 (l0.length : Int) 0
theorem slices_Compare_int_int.mono_l : ∀ k, (∀ y0 y1 y2 y3 y4, LeO (slices_Compare_int_int.l0 k y0 y1 y2 y3 y4) (slices_Compare_int_int.l0 (k + 1) y0 y1 y2 y3 y4))
  | 0 => fun _ _ _ _ _ r h => by simp [slices_Compare_int_int.l0] at h
  | k + 1 => by
    have ih0 := slices_Compare_int_int.mono_l k
    · intro y0 y1 y2 y3 y4
      unfold slices_Compare_int_int.l0
      repeat' first
      | (with_reducible exact ih0 _ _ _ _ _)
      | (with_reducible exact LeO.refl _)
      | (with_reducible exact LeO.none _)
      | (with_reducible refine LeO.ite ?_ ?_)
      | (with_reducible refine LeO.bind ?_ (fun _ => ?_))
      | exact ih0 _ _ _ _ _
      | exact LeO.none _
      | refine LeO.ite ?_ ?_
      | refine LeO.bind ?_ (fun _ => ?_)
theorem slices_Compare_int_int.mono : ∀ a0 a1 k, LeO (slices_Compare_int_int.f k a0 a1) (slices_Compare_int_int.f (k + 1) a0 a1) := by
  intro a0 a1 k
  have ih0 := slices_Compare_int_int.mono_l k
  unfold slices_Compare_int_int.f
  repeat' first
      | (with_reducible exact ih0 _ _ _ _ _)
      | (with_reducible exact LeO.refl _)
      | (with_reducible exact LeO.none _)
      | (with_reducible refine LeO.ite ?_ ?_)
      | (with_reducible refine LeO.bind ?_ (fun _ => ?_))
      | exact ih0 _ _ _ _ _
      | exact LeO.none _
      | refine LeO.ite ?_ ?_
      | refine LeO.bind ?_ (fun _ => ?_)
set_option maxHeartbeats 8000000 in
set_option maxRecDepth 100000 in
theorem slices_Compare_int_int.calls (k : Nat) (A0 : Option Addr) (c0 : Nat) (l0 : List Int) (A1 : Option Addr) (c1 : Nat) (l1 : List Int) (r : Int) (w : World) (hr0 : Kd.C (Kd.int .i64) w A0 l0.length l0) (hc0 : l0.length ≤ c0) (hr1 : Kd.C (Kd.int .i64) w A1 l1.length l1) (hc1 : l1.length ≤ c1) (h : slices_Compare_int_int.f k l0 l1 = some r) :
    Calls Try.prog 66 #[.slice A0 l0.length c0, .slice A1 l1.length c1] w fun e w' => e = .returned (.int .i64 r) ∧ Drawn0 w w' := by
  have HR0 := Aside0.mk hr0
  have HC0 := Aside0.mk hc0
  clear hr0 hc0
  have HR1 := Aside0.mk hr1
  have HC1 := Aside0.mk hc1
  clear hr1 hc1
  have H : (slices_Compare_int_int.l0 k l0 l1 l0 (l0.length : Int) 0) = some r := h
  clear h
  have H' := Aside0.mk H
  clear H
  go_enter Try.func66, Try.ntmps66
  go_wp2
  go_loopg [11] k (fun kq v11 w' => ∃ (x11_1 : Int), v11 = .int .i64 x11_1 ∧ Aside0 (slices_Compare_int_int.l0 kq l0 l1 l0 (l0.length : Int) x11_1 = some r) ∧ Aside0 (kq ≤ k) ∧ Drawn0 w w')
  case atStart => exact ⟨(0), (by first | rfl | (simp; done) | (simp [*]; done)), H', ⟨Nat.le_refl _⟩, by repeat (first | exact Drawn0.refl _ | apply Drawn0.step)⟩
  case round =>
    clear H'
    try clear c1
    try clear p2
    obtain ⟨x11_1, rfl, HA, HK1, ⟨m1, rfl⟩⟩ := hrel
    cases gk with
    | zero => exact absurd HA.out (by simp [slices_Compare_int_int.l0])
    | succ k1 =>
      have H := HA.out
      clear HA
      simp only [slices_Compare_int_int.l0] at H
      by_cases c3 : x11_1 < (l0.length : Int)
      · rw [if_pos c3] at H
        have c3b0 : decide (x11_1 < (l0.length : Int)) = true := decide_eq_true c3
        clear c3
        by_cases c4 : 0 ≤ x11_1
        · rw [if_pos c4] at H
          have c4b0 : decide (0 ≤ x11_1) = true := decide_eq_true c4
          clear c4
          by_cases c5 : x11_1 < (l0.length : Int)
          · rw [if_pos c5] at H
            have c5b0 : decide (x11_1 < (l0.length : Int)) = true := decide_eq_true c5
            clear c5
            by_cases c6 : x11_1 ≥ (l1.length : Int)
            · rw [if_pos c6] at H
              have c6b0 : decide ((l1.length : Int) ≤ x11_1) = true := decide_eq_true c6
              clear c6
              obtain rfl := Option.some.inj H
              have p146 : 0 ≤ (x11_1 : Int) := of_decide_eq_true (by first | (with_reducible assumption) | assumption)
              have q146 : x11_1 < (l0.length : Int) := of_decide_eq_true (by first | (with_reducible assumption) | assumption)
              obtain ⟨ad146, e146, hx146_0⟩ := Kd.at_int HR0.out x11_1 p146 q146
              cases e146
              replace p146 := eq_true p146
              replace q146 := eq_true q146
              go_wp2
              go_ret
              exact ⟨by first | rfl | (simp; done) | (simp [*]; done), by repeat (first | exact Drawn0.refl _ | apply Drawn0.step)⟩
            · rw [if_neg c6] at H
              have c6b0 : decide ((l1.length : Int) ≤ x11_1) = false := decide_eq_false c6
              clear c6
              by_cases c7 : x11_1 < (l1.length : Int)
              · rw [if_pos c7] at H
                have c7b0 : decide (x11_1 < (l1.length : Int)) = true := decide_eq_true c7
                clear c7
                replace H := Option.bind_eq_some_iff.mp H
                obtain ⟨t148, A80, H⟩ := H
                replace H : (if t148 = 0 then (slices_Compare_int_int.l0 k1 l0 l1 l0 (l0.length : Int) (wrap64 (x11_1 + 1))) else (some t148)) = some r := H
                have A8 := Aside0.mk A80
                clear A80
                by_cases c9 : t148 = 0
                · rw [if_pos c9] at H
                  have c9b0 : (t148 == 0) = true := beq_iff_eq.mpr c9
                  have c9b1 : (t148 != 0) = false := bne_eq_false_iff_eq.mpr c9
                  clear c9
                  have H' := Aside0.mk H
                  clear H
                  have p146 : 0 ≤ (x11_1 : Int) := of_decide_eq_true (by first | (with_reducible assumption) | assumption)
                  have q146 : x11_1 < (l0.length : Int) := of_decide_eq_true (by first | (with_reducible assumption) | assumption)
                  obtain ⟨ad146, e146, hx146_0⟩ := Kd.at_int HR0.out x11_1 p146 q146
                  cases e146
                  replace p146 := eq_true p146
                  replace q146 := eq_true q146
                  have p147 : 0 ≤ (x11_1 : Int) := of_decide_eq_true (by first | (with_reducible assumption) | assumption)
                  have q147 : x11_1 < (l1.length : Int) := of_decide_eq_true (by first | (with_reducible assumption) | assumption)
                  obtain ⟨ad147, e147, hx147_0⟩ := Kd.at_int HR1.out x11_1 p147 q147
                  cases e147
                  replace p147 := eq_true p147
                  replace q147 := eq_true q147
                  go_wp2_with (first | ((with_reducible refine gate_callee (f := 86) rfl ?_); refine goesL_ (some 26) rfl rfl Try.func86 (by kernel_rfl) rfl #[.int .i64 (rd l0 x11_1), .int .i64 (rd l1 x11_1)] rfl (by (try simp only [List.map_toArray, List.map_cons, List.map_nil]); first | done | rfl | (simp only [List.length_drop, List.length_take]; rfl)) ?_; (with_reducible refine (cmp_Compare_int.calls (rd l0 x11_1) (rd l1 x11_1) t148 _ A8.out).mono ?_); rintro e w' ⟨rfl, ⟨nd, rfl⟩⟩; refine ⟨_, rfl, ?_⟩))
                  go_roundg k1
                  case measure => have := HK1.out; omega
                  case rel => exact ⟨(wrap64 (x11_1 + 1)), (by first | rfl | (simp; done) | (simp [*]; done)), H', ⟨by have := HK1.out; omega⟩, by repeat (first | exact Drawn0.refl _ | apply Drawn0.step)⟩
                · rw [if_neg c9] at H
                  have c9b0 : (t148 == 0) = false := beq_eq_false_iff_ne.mpr c9
                  have c9b1 : (t148 != 0) = true := bne_iff_ne.mpr c9
                  obtain rfl := Option.some.inj H
                  have p146 : 0 ≤ (x11_1 : Int) := of_decide_eq_true (by first | (with_reducible assumption) | assumption)
                  have q146 : x11_1 < (l0.length : Int) := of_decide_eq_true (by first | (with_reducible assumption) | assumption)
                  obtain ⟨ad146, e146, hx146_0⟩ := Kd.at_int HR0.out x11_1 p146 q146
                  cases e146
                  replace p146 := eq_true p146
                  replace q146 := eq_true q146
                  have p147 : 0 ≤ (x11_1 : Int) := of_decide_eq_true (by first | (with_reducible assumption) | assumption)
                  have q147 : x11_1 < (l1.length : Int) := of_decide_eq_true (by first | (with_reducible assumption) | assumption)
                  obtain ⟨ad147, e147, hx147_0⟩ := Kd.at_int HR1.out x11_1 p147 q147
                  cases e147
                  replace p147 := eq_true p147
                  replace q147 := eq_true q147
                  go_wp2_with (first | ((with_reducible refine gate_callee (f := 86) rfl ?_); refine goesL_ (some 26) rfl rfl Try.func86 (by kernel_rfl) rfl #[.int .i64 (rd l0 x11_1), .int .i64 (rd l1 x11_1)] rfl (by (try simp only [List.map_toArray, List.map_cons, List.map_nil]); first | done | rfl | (simp only [List.length_drop, List.length_take]; rfl)) ?_; (with_reducible refine (cmp_Compare_int.calls (rd l0 x11_1) (rd l1 x11_1) t148 _ A8.out).mono ?_); rintro e w' ⟨rfl, ⟨nd, rfl⟩⟩; refine ⟨_, rfl, ?_⟩))
                  go_ret
                  exact ⟨by first | rfl | (simp; done) | (simp [*]; done), by repeat (first | exact Drawn0.refl _ | apply Drawn0.step)⟩
              · rw [if_neg c7] at H
                exact absurd H (by simp)
          · rw [if_neg c5] at H
            exact absurd H (by simp)
        · rw [if_neg c4] at H
          exact absurd H (by simp)
      · rw [if_neg c3] at H
        have c3b0 : decide (x11_1 < (l0.length : Int)) = false := decide_eq_false c3
        clear c3
        by_cases c10 : (l0.length : Int) < (l1.length : Int)
        · rw [if_pos c10] at H
          have c10b0 : decide ((l0.length : Int) < (l1.length : Int)) = true := decide_eq_true c10
          have c10b1 : decide (l0.length < l1.length) = true := decide_eq_true (Int.ofNat_lt.mp c10)
          clear c10
          obtain rfl := Option.some.inj H
          go_wp2
          go_ret
          exact ⟨by first | rfl | (simp; done) | (simp [*]; done), by repeat (first | exact Drawn0.refl _ | apply Drawn0.step)⟩
        · rw [if_neg c10] at H
          have c10b0 : decide ((l0.length : Int) < (l1.length : Int)) = false := decide_eq_false c10
          have c10b1 : decide (l0.length < l1.length) = false := decide_eq_false (fun h => c10 (Int.ofNat_lt.mpr h))
          clear c10
          obtain rfl := Option.some.inj H
          go_wp2
          go_ret
          exact ⟨by first | rfl | (simp; done) | (simp [*]; done), by repeat (first | exact Drawn0.refl _ | apply Drawn0.step)⟩

end Go.Proofs.Ytdeenfpcmaadcaa.Pr

/- What the comparison of two regions says: which row of points is ahead. -/
namespace Go.Proofs.Ytdeenfpcmaadcaa.M
open Go.RowKit Go.Proofs.YtdeenfpcmaadcaaW.PrintWords Go.Proofs.Ytdeenfpcmaadcaa.Pr
set_option linter.unusedVariables false
set_option linter.unusedSimpArgs false
def cmpL (a b : List Int) : Int := if lexB a b = true then -1 else if lexB b a = true then 1 else 0
theorem cmpI_eq (a b : Int) : cmp_Compare_int.f a b = some (if a < b then -1 else if a > b then 1 else 0) := by
  unfold cmp_Compare_int.f
  simp only [cmp_isNaN_int.f, Option.bind_some]
  split <;> rename_i h1 <;> (try split) <;> (try split) <;> (try split) <;> simp_all <;> omega
theorem cmpL_l0 (a b : List Int) (ha : a.length ≤ 1000000) : ∀ (d i : Nat), i + d = a.length → i ≤ b.length → a.take i = b.take i → Ev (fun k => slices_Compare_int_int.l0 k a b a (a.length : Int) (i : Int)) (cmpL a b)
  | 0, i, h, hb, he => by
    obtain rfl : i = a.length := by omega
    rw [List.take_length] at he
    refine Ev.step (fun k => by rw [slices_Compare_int_int.l0]) ?_
    refine Ev.neg (by omega) ?_
    obtain ⟨c, hc⟩ : ∃ c, b = a ++ c := ⟨b.drop a.length, by
      have e := (List.take_append_drop a.length b).symm
      rwa [← he] at e⟩
    subst hc
    cases c with
    | nil =>
      refine Ev.neg (by simp) (Ev.val ?_)
      rw [List.append_nil, cmpL, lexB_irrefl, if_neg (by decide), if_neg (by decide)]
    | cons x c =>
      refine Ev.pos (by rw [List.length_append, List.length_cons]; omega) (Ev.val ?_)
      have e := lexB_app [] (x :: c) a
      rw [List.append_nil] at e
      rw [cmpL, e]
      rfl
  | d + 1, i, h, hb, he => by
    have hi : i < a.length := by omega
    have hra := rd_int a i hi
    have ea : a = a.take i ++ a[i] :: a.drop (i + 1) := by rw [← List.drop_eq_getElem_cons hi, List.take_append_drop]
    refine Ev.step (fun k => by rw [slices_Compare_int_int.l0]) ?_
    refine Ev.pos (by omega) (Ev.pos (by omega) (Ev.pos (by omega) ?_))
    by_cases hib : i = b.length
    · refine Ev.pos (by omega) (Ev.val ?_)
      have eb : b = a.take i := by rw [he, hib, List.take_length]
      have e := lexB_app (a[i] :: a.drop (i + 1)) [] (a.take i)
      rw [List.append_nil, ← ea, ← eb] at e
      have e2 := lexB_app [] (a[i] :: a.drop (i + 1)) (a.take i)
      rw [List.append_nil, ← ea, ← eb] at e2
      rw [cmpL, e, e2]
      rfl
    · have hib2 : i < b.length := by omega
      have hrb := rd_int b i hib2
      have eb : b = a.take i ++ b[i] :: b.drop (i + 1) := by rw [he, ← List.drop_eq_getElem_cons hib2, List.take_append_drop]
      have e : lexB a b = lexB (a[i] :: a.drop (i + 1)) (b[i] :: b.drop (i + 1)) := by
        conv => lhs; rw [ea, eb]
        exact lexB_app _ _ _
      have e2 : lexB b a = lexB (b[i] :: b.drop (i + 1)) (a[i] :: a.drop (i + 1)) := by
        conv => lhs; rw [ea, eb]
        exact lexB_app _ _ _
      refine Ev.neg (by omega) (Ev.pos (by omega) (Ev.bindc (cmpI_eq _ _) ?_))
      rw [hra, hrb]
      by_cases hx : a[i] = b[i]
      · refine Ev.pos (by rw [if_neg (by omega), if_neg (by omega)]) ?_
        rw [w64 (by omega) (by omega)]
        have ih := cmpL_l0 a b ha d (i + 1) (by omega) (by omega) (by rw [List.take_succ_eq_append_getElem hi, List.take_succ_eq_append_getElem hib2, he, hx])
        rw [show ((i + 1 : Nat) : Int) = (i : Int) + 1 by omega] at ih
        exact ih
      · by_cases hl : a[i] < b[i]
        · refine Ev.neg (by rw [if_pos hl]; decide) (Ev.val ?_)
          rw [cmpL, e, lexB, if_neg hx, if_pos hl, if_pos (by simpa using hl)]
        · refine Ev.neg (by rw [if_neg hl, if_pos (by omega)]; decide) (Ev.val ?_)
          have q1 : lexB a b = false := by rw [e, lexB, if_neg hx]; simpa using hl
          have q2 : lexB b a = true := by rw [e2, lexB, if_neg (Ne.symm hx)]; simp; omega
          rw [cmpL, q1, q2, if_neg hl, if_pos (by omega), if_neg (by decide), if_pos rfl]
theorem cmpL_ev (a b : List Int) (ha : a.length ≤ 1000000) : Ev (fun k => slices_Compare_int_int.f k a b) (cmpL a b) := by
  unfold slices_Compare_int_int.f
  exact cmpL_l0 a b ha a.length 0 (by omega) (by omega) rfl
end Go.Proofs.Ytdeenfpcmaadcaa.M
namespace Go.Proofs.Ytdeenfpcmaadcaa.Pr
open Go.RowKit Go.Proofs.YtdeenfpcmaadcaaW.PrintWords Go.Proofs.YtdeenfpcmaadcaaW.PrintLast Go.Proofs.YtdeenfpcmaadcaaW.PrintMore
set_option linter.unusedVariables false
set_option linter.unusedSimpArgs false
def Gw (w w' : World) : Prop := ∃ q os', w' = Sort.grow (w.drewN q) os'
theorem Gw.refl (w : World) : Gw w w := ⟨0, #[], by simp [Sort.grow, World.drewN]⟩
theorem Gw.drewN {w w' : World} (h : Gw w w') (n : Nat) : Gw w (w'.drewN n) := by
  obtain ⟨q, os, rfl⟩ := h
  exact ⟨q + n, os, by simp [Sort.grow, World.drewN, Nat.add_assoc]⟩
theorem Gw.alloc {w w' : World} (h : Gw w w') (o : Obj) : Gw w (w'.alloc o) := by
  obtain ⟨q, os, rfl⟩ := h
  exact ⟨q, os ++ #[o], by rw [Sort.alloc_eq_grow, Sort.grow_grow]⟩
set_option maxHeartbeats 4000000 in
set_option maxRecDepth 100000 in
theorem cmpR_calls (A B : Option Addr) (c e : Nat) (a b : List Int) (v1 v2 u1 u2 : Value) (W : World) (ha : Kd.C (Kd.int .i64) W A a.length a) (hc : a.length ≤ c) (hb : Kd.C (Kd.int .i64) W B b.length b) (he : b.length ≤ e) (hl : a.length ≤ 1000000) (o1 : v1.oneCell' = true) (o2 : v2.oneCell' = true) (p1 : u1.oneCell' = true) (p2 : u2.oneCell' = true) :
    Calls Try.prog 65 #[.agg #[.slice A a.length c, v1, v2], .agg #[.slice B b.length e, u1, u2]] W fun x w' => x = .returned (.int .i64 (M.cmpL a b)) ∧ Gw W w' := by
  have hu := Try.underlying54
  have HA := Aside0.mk ha
  have HB := Aside0.mk hb
  have HC := Aside0.mk (show a.length ≤ c ∧ b.length ≤ e from ⟨hc, he⟩)
  obtain ⟨K, hK⟩ := M.cmpL_ev a b hl
  have HK := Aside0.mk (hK K (Nat.le_refl K))
  clear ha hb hc he hK hl
  go_enter Try.func65, Try.ntmps65
  go_wp2_with (go_at_call 66; refine (slices_Compare_int_int.calls K A c a B e b (M.cmpL a b) _ (Kd.C_below (Kd.C_below HA.out (below_alloc (Below.refl _ _) _)) (below_alloc (Below.refl _ _) _)) HC.out.1 (Kd.C_below (Kd.C_below HB.out (below_alloc (Below.refl _ _) _)) (below_alloc (Below.refl _ _) _)) HC.out.2 HK.out).mono ?_; rintro x w' ⟨rfl, ⟨nd, rfl⟩⟩)
  go_ret
  exact ⟨rfl, (((Gw.refl W).alloc _).alloc _).drewN _⟩
end Go.Proofs.Ytdeenfpcmaadcaa.Pr

/- What a world is behind a row that is laid anew, and behind blocks that are made. -/
namespace Go.Proofs.Ytdeenfpcmaadcaa.Pr
open Go.RowKit Go.Sort Go.Proofs.YtdeenfpcmaadcaaW.PrintWords Go.Proofs.YtdeenfpcmaadcaaW.PrintLast Go.Proofs.YtdeenfpcmaadcaaW.PrintMore
set_option linter.unusedVariables false
set_option linter.unusedSimpArgs false

theorem blk_putRow {w : World} {g : Nat} {cur : Array Value} {ty : TypeId} {fr : Nat × Nat} (F : Array Value) (hb : w.heap[g]? = some (.cells cur ty fr)) : (putRow id w g 0 F).heap[g]? = some (.cells (putCells id 0 F cur) ty fr) := by
  show (w.heap.modify g (onCells (putCells id 0 F)))[g]? = _
  rw [Array.getElem?_modify, if_pos rfl, hb]
  rfl
theorem below_putRow {w : World} {g base : Nat} (F : Array Value) (hg : base ≤ g) : Below base w (putRow id w g 0 F) :=
  ⟨rfl, rfl, rfl, by rw [show (putRow id w g 0 F).heap.size = w.heap.size from by simp [putRow, mapBlock]]; exact Nat.le_refl _, fun k hk => by
    show (w.heap.modify g (onCells (putCells id 0 F)))[k]? = _
    rw [Array.getElem?_modify, if_neg (by omega)]⟩
theorem below_grow {w : World} {base : Nat} (os : Array Obj) (hb : base ≤ w.heap.size) : Below base w (grow w os) :=
  ⟨rfl, rfl, rfl, by show _ ≤ (w.heap ++ os).size; simp, fun k hk => by
    show (w.heap ++ os)[k]? = _
    rw [Array.getElem?_append_left (by omega)]⟩
theorem kept_putRow {w : World} {g : Nat} {S : Nat → Prop} (F : Array Value) (hg : S g) : Kept w (putRow id w g 0 F) S :=
  ⟨by rw [show (putRow id w g 0 F).heap.size = w.heap.size from by simp [putRow, mapBlock]]; exact Nat.le_refl _, fun k hk hn => by
    show (w.heap.modify g (onCells (putCells id 0 F)))[k]? = _
    rw [Array.getElem?_modify, if_neg (fun e : g = k => hn (e ▸ hg))]⟩
theorem kept_grow {w : World} {S : Nat → Prop} (os : Array Obj) : Kept w (grow w os) S :=
  ⟨by show _ ≤ (w.heap ++ os).size; simp, fun k hk hn => by
    show (w.heap ++ os)[k]? = _
    rw [Array.getElem?_append_left hk]⟩
theorem kept_ahead {w : World} {S : Nat → Prop} (n : Nat) : Kept w (Sort.ahead w n) S := ⟨Nat.le_refl _, fun _ _ _ => rfl⟩
theorem below_ahead {w : World} {base : Nat} (n : Nat) : Below base w (Sort.ahead w n) := ⟨rfl, rfl, rfl, Nat.le_refl _, fun _ _ => rfl⟩

theorem unfrozen {w : World} {g : Nat} {cur : Array Value} {ty : TypeId} (hb : w.heap[g]? = some (.cells cur ty (0, 0))) (j : Nat) : w.frozen? ⟨g, j, none⟩ = false := by
  unfold World.frozen?
  simp [hb]
theorem size_putCells_id (off : Nat) (F c : Array Value) : (putCells id off F c).size = c.size := by simp [putCells]

end Go.Proofs.Ytdeenfpcmaadcaa.Pr

/- A row of elements that lie apart, laid open cell by cell and put together again in another order. -/
namespace Go.Proofs.Ytdeenfpcmaadcaa.Pr
open Go.RowKit Go.Sort Go.Proofs.YtdeenfpcmaadcaaW.PrintWords Go.Proofs.YtdeenfpcmaadcaaW.PrintLast Go.Proofs.YtdeenfpcmaadcaaW.PrintMore
set_option linter.unusedVariables false
set_option linter.unusedSimpArgs false

/-- An element's cells, the element, its index. -/
abbrev CE (α : Type) := List Value × (α × Nat)
def CellsAt (W : World) (g sz : Nat) (cs : List (List Value)) : Prop := ∀ j (hj : j < cs.length) i, i < sz → W.cell? ⟨g, j * sz + i, none⟩ = cs[j][i]?
theorem idx_lt {j n i sz : Nat} (hj : j < n) (hi : i < sz) : j * sz + i < n * sz := by
  have := Nat.mul_le_mul_right sz (show j + 1 ≤ n from hj)
  rw [Nat.add_mul, Nat.one_mul] at this
  omega
theorem S_open {α : Type} {d : Kd α} {e : Nat} {W : World} {base : Nat} {ok : Nat → Prop} {v : Value} {xs : List α} (h : Kd.S d e W base ok v xs) :
    (v = .slice none 0 0 ∧ xs = []) ∨ ∃ (f : Nat → Nat) (g cap : Nat) (cur : Array Value) (cs : List (CE α)), v = .slice (some ⟨g, 0, none⟩) xs.length cap ∧ ok g ∧ base ≤ g ∧ W.heap[g]? = some (.cells cur e (0, 0)) ∧ xs.length ≤ cap ∧ cap ≤ maxLen ∧ cur.size = cap * d.sz ∧
      cs.map (·.2) = xs.zipIdx ∧ (∀ c ∈ cs, d.M W base (fun k => (ok k ∧ k ≠ g) ∧ f k = c.2.2) c.2.1 c.1) ∧ CellsAt W g d.sz (cs.map (·.1)) := by
  obtain ⟨f, h0, inner, ⟨hl, hv⟩, hr⟩ := h
  rw [List.length_zipIdx] at hl hv
  rcases hv with ⟨rfl, hn⟩ | ⟨g, cap, cur, rfl, hg, hb, hn, hm, hs, ht⟩
  · exact .inl ⟨rfl, List.eq_nil_of_length_eq_zero hn⟩
  · refine .inr ⟨f, g, cap, cur, xs.zipIdx.map (fun q => ((inner.drop (q.2 * d.sz)).take d.sz, q)), rfl, h0 g rfl, hg, hb, hn, hm, hs, ?_, fun c hc => ?_, fun j hj i hi => ?_⟩
    · rw [List.map_map]
      exact List.map_id _
    · obtain ⟨q, hq, rfl⟩ := List.mem_map.1 hc
      obtain ⟨x, i⟩ := q
      have hq2 := List.mem_zipIdx' hq
      have hz : xs.zipIdx[i]? = some (x, i) := Kd.zip_at (by rw [hq2.2]; exact List.getElem?_eq_getElem hq2.1)
      have hM := hr.2 i (x, i) hz
      exact d.M_mono (fun k hk => ⟨⟨hk.1.1, fun e => hk.1.2 (by rw [e]; rfl)⟩, hk.2⟩) hM
    · simp only [List.length_map, List.length_zipIdx] at hj
      have hlt := idx_lt hj hi
      simp only [List.getElem_map, List.getElem_zipIdx, Nat.zero_add]
      change cur.toList.take (xs.length * d.sz) = inner at ht
      rw [List.getElem?_take_of_lt hi, List.getElem?_drop, blk_cell hb, ← ht]
      rw [List.getElem?_take_of_lt hlt, Array.getElem?_toList]
theorem S_shut {α : Type} {d : Kd α} {e : Nat} {W : World} {base g cap : Nat} {ok : Nat → Prop} {cur : Array Value} {cs : List (CE α)} {f : Nat → Nat} (hok : ok g) (hg : base ≤ g) (hb : W.heap[g]? = some (.cells cur e (0, 0))) (hn : cs.length ≤ cap) (hm : cap ≤ maxLen) (hs : cur.size = cap * d.sz)
    (hnd : (cs.map (·.2.2)).Nodup) (hM : ∀ c ∈ cs, d.M W base (fun k => (ok k ∧ k ≠ g) ∧ f k = c.2.2) c.2.1 c.1) (hc : CellsAt W g d.sz (cs.map (·.1))) :
    Kd.S d e W base ok (.slice (some ⟨g, 0, none⟩) cs.length cap) (cs.map (·.2.1)) := by
  classical
  obtain ⟨f', hf⟩ : ∃ f' : Nat → Nat, ∀ (i : Nat) (hi : i < cs.length) (k : Nat), f k = cs[i].2.2 → f' k = i := by
    refine ⟨fun k => if hx : ∃ i, ∃ hi : i < cs.length, f k = cs[i].2.2 then Classical.choose hx else 0, fun i hi k hk => ?_⟩
    have hx : ∃ i, ∃ hi : i < cs.length, f k = cs[i].2.2 := ⟨i, hi, hk⟩
    simp only [dif_pos hx]
    obtain ⟨hj, ek⟩ := Classical.choose_spec hx
    have hp := List.pairwise_iff_getElem.1 hnd
    rcases Nat.lt_trichotomy (Classical.choose hx) i with hlt | heq | hgt
    · exact absurd (ek.symm.trans hk) (by have := hp _ _ (by rw [List.length_map]; exact hj) (by rw [List.length_map]; exact hi) hlt; simpa only [List.getElem_map] using this)
    · exact heq
    · exact absurd (hk.symm.trans ek) (by have := hp _ _ (by rw [List.length_map]; exact hi) (by rw [List.length_map]; exact hj) hgt; simpa only [List.getElem_map] using this)
  have hle : cs.length * d.sz ≤ cur.toList.length := by
    have e : cur.toList.length = cap * d.sz := by rw [Array.length_toList]; exact hs
    rw [e]; exact Nat.mul_le_mul_right _ hn
  have hli : (cur.toList.take (cs.length * d.sz)).length = cs.length * d.sz := by rw [List.length_take]; exact Nat.min_eq_left hle
  refine ⟨f', fun k hk => by have : g = k := by simpa [Value.ownBlock] using hk
                             subst this; exact hok, cur.toList.take (cs.length * d.sz), ?_, ?_, fun j p hj => ?_⟩
  · rw [List.length_zipIdx, List.length_map]
    exact ⟨hli, .inr ⟨g, cap, cur, rfl, hg, hb, hn, hm, hs, rfl⟩⟩
  · rw [List.length_zipIdx, List.length_map]; exact hli
  · rw [List.getElem?_zipIdx, Nat.zero_add] at hj
    obtain ⟨x, hx, rfl⟩ := Option.map_eq_some_iff.1 hj
    rw [List.getElem?_map] at hx
    obtain ⟨c, hcj, rfl⟩ := Option.map_eq_some_iff.1 hx
    have hjl : j < cs.length := (List.getElem?_eq_some_iff.1 hcj).1
    have hcj2 : cs[j] = c := (List.getElem?_eq_some_iff.1 hcj).2
    have hMc := hM c (List.mem_of_getElem? hcj)
    have hlen := d.K_len (d.K_of_M hMc)
    have e1 : ((cur.toList.take (cs.length * d.sz)).drop (j * d.sz)).take d.sz = c.1 := by
      apply List.ext_getElem?
      intro q
      by_cases hq : q < d.sz
      · have h1 := hc j (by rw [List.length_map]; exact hjl) q hq
        rw [blk_cell hb, List.getElem_map, hcj2] at h1
        rw [List.getElem?_take_of_lt hq, List.getElem?_drop, List.getElem?_take_of_lt (idx_lt hjl hq), Array.getElem?_toList, h1]
      · rw [List.getElem?_eq_none (by rw [List.length_take]; omega), List.getElem?_eq_none (by omega)]
    show d.M W base _ c.2.1 _
    rw [show (Kd.tag f' d).sz = d.sz from rfl, e1]
    refine d.M_mono (fun k hk => ⟨⟨hk.1.1, fun e => hk.1.2 ?_⟩, hf j hjl k (by rw [hcj2]; exact hk.2)⟩) hMc
    injection e
end Go.Proofs.Ytdeenfpcmaadcaa.Pr

/-
  DERIVED: THE SHELF's CONTRACTS AT THIS DUMP, IN PLAIN WORDS (tools/lay-plain.mjs out of 'YtdeenfpcmaadcaaSortRgLay.lean', which tools/lay-shelf.mjs wrote): THE SAME DECLARATIONS UNDER THE SAME NAMES: 'import', 'namespace', 'open', 'def', 'theorem' AND NOTHING ELSE: no command of the shelf's: FOR A HAND-IN. Each laying: the table of numbers ('.._ren') and one theorem, a field a fact of the dump's own or the kernel's comparison; each contract: ONE APPLICATION.
-/
namespace Go.Proofs
open Go.Shelf
def Try.sortRg_ren : Go.Shelf.Ren := ⟨fun | 6 => 64 | 15 => 85 | 14 => 84 | 28 => 103 | 29 => 104 | 20 => 95 | 21 => 96 | 22 => 97 | 23 => 98 | 24 => 99 | 25 => 100 | 26 => 101 | 27 => 102 | 46 => 114 | 47 => 115 | 48 => 116 | 49 => 117 | 50 => 118 | 57 => 122 | n => n, fun | 22 => 50 | 24 => 54 | 25 => 75 | 3 => 3 | 39 => 83 | 0 => 0 | 53 => 97 | 55 => 99 | 4 => 4 | 46 => 91 | 45 => 90 | 50 => 34 | 5 => 5 | 9 => 9 | 66 => 105 | 70 => 109 | 76 => 113 | 77 => 114 | n => n, fun | n => n⟩
theorem Try.sortRg : Go.Proofs.SlLaysF0.n6 Try.prog Try.sortRg_ren := {
  mixed := by kernel_rfl
  f6 := ⟨Try.f64.name, by decide, Try.func64.trans (congrArg some (by kernel_rfl))⟩
  f14 := ⟨Try.f84.name, by decide, Try.func84.trans (congrArg some (by kernel_rfl))⟩
  f15 := Try.func85.trans (congrArg some (by kernel_rfl))
  f20 := ⟨Try.f95.name, by decide, Try.func95.trans (congrArg some (by kernel_rfl))⟩
  f21 := ⟨Try.f96.name, by decide, Try.func96.trans (congrArg some (by kernel_rfl))⟩
  f22 := ⟨Try.f97.name, by decide, Try.func97.trans (congrArg some (by kernel_rfl))⟩
  f23 := ⟨Try.f98.name, by decide, Try.func98.trans (congrArg some (by kernel_rfl))⟩
  f24 := ⟨Try.f99.name, by decide, Try.func99.trans (congrArg some (by kernel_rfl))⟩
  f25 := ⟨Try.f100.name, by decide, Try.func100.trans (congrArg some (by kernel_rfl))⟩
  f26 := ⟨Try.f101.name, by decide, Try.func101.trans (congrArg some (by kernel_rfl))⟩
  f27 := ⟨Try.f102.name, by decide, Try.func102.trans (congrArg some (by kernel_rfl))⟩
  f28 := Try.func103.trans (congrArg some (by kernel_rfl))
  f29 := Try.func104.trans (congrArg some (by kernel_rfl))
  f46 := ⟨Try.f114.name, by decide, Try.func114.trans (congrArg some (by kernel_rfl))⟩
  f47 := Try.func115.trans (congrArg some (by kernel_rfl))
  f48 := Try.func116.trans (congrArg some (by kernel_rfl))
  f49 := ⟨Try.f117.name, by decide, Try.func117.trans (congrArg some (by kernel_rfl))⟩
  f50 := ⟨Try.f118.name, by decide, Try.func118.trans (congrArg some (by kernel_rfl))⟩
  f57 := ⟨Try.f122.name, by decide, Try.func122.trans (congrArg some (by kernel_rfl))⟩
  t0 := Try.underlying0
  a0 := Try.isAgg0
  z0 := Try.sizeOf0
  v0 := Try.zeroValue0
  t3 := Try.underlying3
  a3 := Try.isAgg3
  z3 := Try.sizeOf3
  v3 := Try.zeroValue3
  t4 := Try.underlying4
  a4 := Try.isAgg4
  z4 := Try.sizeOf4
  v4 := Try.zeroValue4
  t5 := Try.underlying5
  a5 := Try.isAgg5
  z5 := Try.sizeOf5
  v5 := Try.zeroValue5
  t9 := Try.underlying9
  a9 := Try.isAgg9
  z9 := Try.sizeOf9
  v9 := Try.zeroValue9
  t22 := Try.underlying50
  a22 := Try.isAgg50
  z22 := Try.sizeOf50
  v22 := Try.zeroValue50
  t25 := Try.underlying75
  a25 := Try.isAgg75
  z25 := Try.sizeOf75
  v25 := Try.zeroValue75
  t39 := Try.underlying83
  a39 := Try.isAgg83
  z39 := Try.sizeOf83
  v39 := Try.zeroValue83
  t45 := Try.underlying90
  a45 := Try.isAgg90
  z45 := Try.sizeOf90
  v45 := Try.zeroValue90
  t46 := Try.underlying91
  a46 := Try.isAgg91
  z46 := Try.sizeOf91
  v46 := Try.zeroValue91
  t50 := Try.underlying34
  a50 := Try.isAgg34
  z50 := Try.sizeOf34
  v50 := Try.zeroValue34
  t53 := Try.underlying97
  a53 := Try.isAgg97
  z53 := Try.sizeOf97
  v53 := Try.zeroValue97
  t55 := Try.underlying99
  a55 := Try.isAgg99
  z55 := Try.sizeOf99
  v55 := Try.zeroValue99
  t66 := Try.underlying105
  a66 := Try.isAgg105
  z66 := Try.sizeOf105
  v66 := Try.zeroValue105
  t70 := Try.underlying109
  a70 := Try.isAgg109
  z70 := Try.sizeOf109
  v70 := Try.zeroValue109
  t76 := Try.underlying113
  a76 := Try.isAgg113
  z76 := Try.sizeOf113
  v76 := Try.zeroValue113
  t77 := Try.underlying114
  a77 := Try.isAgg114
  z77 := Try.sizeOf114
  v77 := Try.zeroValue114 }
end Go.Proofs

/- The sort of a row of regions: the row in the order of the points. -/
namespace Go.Proofs.Ytdeenfpcmaadcaa.Pr
open Go.RowKit Go.Sort Go.Lib Go.Proofs.YtdeenfpcmaadcaaW.PrintWords Go.Proofs.YtdeenfpcmaadcaaW.PrintLast Go.Proofs.YtdeenfpcmaadcaaW.PrintMore
set_option linter.unusedVariables false
set_option linter.unusedSimpArgs false
abbrev SR := S54
/-- The regions in order. -/
def sortR (xs : List SR) : List SR := xs.mergeSort fun x y => !(M.lexB y.f0 x.f0)
theorem cmpL_lt (a b : List Int) : decide (M.cmpL a b < 0) = M.lexB a b := by
  unfold M.cmpL
  cases h : M.lexB a b with
  | true => simp
  | false =>
    cases M.lexB b a with
    | true => simp
    | false => simp
theorem kept_world {α : Type} {enc : α → List Value} [Inhabited α] {w : World} {g m k : Nat} {dk : Array α} {os : Array Obj} (q : Nat) (hq : q ≠ g) (hl : q < w.heap.size) : (sortWorldK enc k w g 0 m dk os).heap[q]? = w.heap[q]? := by
  show ((putRowK enc k (Sort.ahead w m) g 0 dk).heap ++ os)[q]? = _
  rw [Array.getElem?_append_left (by rw [size_putRowK]; exact hl)]
  show (w.heap.modify g (onCells (putCells id 0 _)))[q]? = _
  rw [Array.getElem?_modify, if_neg (fun e => hq e.symm)]
theorem below_sortWorld {α : Type} {enc : α → List Value} [Inhabited α] {w : World} {base g m k : Nat} {dk : Array α} {os : Array Obj} (hg : base ≤ g) (hB : base ≤ w.heap.size) : Below base w (sortWorldK enc k w g 0 m dk os) := by
  refine ((below_ahead m).trans (below_putRow (flatK enc k dk) hg)).trans (below_grow os ?_)
  rw [show (putRow id (Sort.ahead w m) g 0 (flatK enc k dk)).heap.size = w.heap.size from by simp [putRow, mapBlock, Sort.ahead]]
  exact hB
theorem sort_any {T : Type} [Inhabited T] (enc : T → List Value) (hel : ∀ x, (enc x).length = 3) (heo : ∀ x, ∀ u ∈ enc x, u.oneCell' = true) (cf : T → T → Int) (hO : SWO (ltOf cf)) (g cap : Nat) (d : Array T) (w : World) (hcmp : Go.Proofs.CmpLays Try.prog 65 #[] enc 3 cf g 0 d.size w) (hH : HoldsK enc 3 w g 0 d) (hg : g < w.heap.size) (hsz : d.size < 4611686018427387904) (hT : ∀ x y, ltOf cf x y = false → ltOf cf y x = false → x = y) :
    Calls Try.prog 64 #[.slice (some ⟨g, 0, none⟩) d.size cap, .func (.func 65) #[] #[]] w fun e w' => e = .returned (.tuple #[]) ∧ ∃ n os, w' = sortWorldK enc 3 w g 0 n (d.toList.mergeSort fun x y => !(ltOf cf) y x).toArray os := by
  have h := AnyQ.slices_SortFunc_total Try.sortRg 3 (fun w => Try.isAgg54 w) (fun w => Try.sizeOf54 w) enc hel heo cf hO 65 #[] g 0 cap d w (enters_of Try.func65 (by kernel_rfl) rfl) hcmp hH hg hsz hT
  exact h
set_option maxHeartbeats 400000 in
theorem sort_region (base : Nat) (ok : Nat → Prop) (v : Value) (xs : List SR) (w : World) (h : Kd.S k54 54 w base ok v xs) (hB : base ≤ w.heap.size) (hx : xs ≠ []) (hxl : xs.length ≤ 1000000) (hl : ∀ x ∈ xs, x.f0.length ≤ 1000000) (hd : (xs.map (·.f0)).Nodup) :
    Calls Try.prog 64 #[v, .func (.func 65) #[] #[]] w fun e w' => e = .returned (.tuple #[]) ∧ Kd.S k54 54 w' base ok v (sortR xs) ∧ Below base w w' := by
  rcases S_open h with ⟨rfl, h0⟩ | ⟨f, g, cap, cur, cs, rfl, hok, hg, hb, hn, hm, hs, hz, hM, hc⟩
  · exact absurd h0 hx
  have hcl : cs.length = xs.length := by
    have e := congrArg List.length hz
    rwa [List.length_map, List.length_zipIdx] at e
  have hgs : g < w.heap.size := (Array.getElem?_eq_some_iff.1 hb).1
  have hsz : k54.sz = 3 := rfl
  have hz1 : cs.map (·.2.1) = xs := by
    have e := congrArg (List.map Prod.fst) hz
    rw [List.map_map, List.zipIdx_map_fst] at e
    exact e
  have hz2 : (cs.map (·.2.2)).Nodup := by
    have e := congrArg (List.map Prod.snd) hz
    rw [List.map_map, List.zipIdx_map_snd] at e
    have e2 : cs.map (·.2.2) = List.range' 0 xs.length := e
    rw [e2]
    exact List.nodup_range' ..
  have hz3 : (cs.map (·.2.1.f0)).Nodup := by
    rw [← hz1, List.map_map] at hd
    exact hd
  have hne : cs ≠ [] := fun e => hx (by rw [e] at hcl; exact List.eq_nil_of_length_eq_zero hcl.symm)
  obtain ⟨c0, hc0⟩ := List.exists_mem_of_ne_nil cs hne
  let T := {c : CE SR // c ∈ cs}
  letI : Inhabited T := ⟨⟨c0, hc0⟩⟩
  let enc : T → List Value := fun c => c.1.1
  let cf : T → T → Int := fun a b => M.cmpL a.1.2.1.f0 b.1.2.1.f0
  have hel : ∀ x, (enc x).length = 3 := fun x => k54.K_len (k54.K_of_M (hM x.1 x.2))
  have heo : ∀ x, ∀ u ∈ enc x, u.oneCell' = true := fun x => k54.K_one (k54.K_of_M (hM x.1 x.2))
  have hlt : ∀ a b : T, ltOf cf a b = M.lexB a.1.2.1.f0 b.1.2.1.f0 := fun a b => cmpL_lt _ _
  have hO : SWO (ltOf cf) := {
    irrefl := fun x => by rw [hlt]; exact M.lexB_irrefl _
    trans := fun x y z h1 h2 => by rw [hlt] at *; exact M.lexB_trans _ _ _ h1 h2
    ntrans := fun x y z h1 h2 => by rw [hlt] at *; exact M.lexB_ge_trans h2 h1 }
  have hT : ∀ x y : T, ltOf cf x y = false → ltOf cf y x = false → x = y := fun x y h1 h2 => by
    rw [hlt] at h1 h2
    have e := M.lexB_tri _ _ h1 h2
    apply Subtype.ext
    obtain ⟨i, hi, e1⟩ := List.getElem_of_mem x.2
    obtain ⟨j, hj, e2⟩ := List.getElem_of_mem y.2
    have hij : i = j := by
      have hp := List.pairwise_iff_getElem.1 hz3
      rcases Nat.lt_trichotomy i j with q | q | q
      · exact absurd (by rw [List.getElem_map, List.getElem_map, e1, e2]; exact e) (hp i j (by rw [List.length_map]; exact hi) (by rw [List.length_map]; exact hj) q)
      · exact q
      · exact absurd (by rw [List.getElem_map, List.getElem_map, e1, e2]; exact e.symm) (hp j i (by rw [List.length_map]; exact hj) (by rw [List.length_map]; exact hi) q)
    subst hij
    rw [← e1, ← e2]
  have hda : cs.attach.toArray.size = xs.length := by simp [hcl]
  have hH : HoldsK enc 3 w g 0 cs.attach.toArray := fun j hj => by
    have hj0 : j < cs.attach.toArray.size * 3 := by rw [size_flatK] at hj; exact hj
    have hj' : j < cs.length * 3 := by rw [hda] at hj0; rw [hcl]; exact hj0
    rw [Nat.zero_add]
    refine ⟨?_, blk_frozen hb j⟩
    rw [get_flatK _ _ _ _ hj0]
    have hd3 : j / 3 < cs.length := by omega
    have e : cs.attach.toArray[j / 3]! = ⟨cs[j / 3], List.getElem_mem hd3⟩ := by
      rw [getElem!_pos _ _ (by rw [hda, ← hcl]; exact hd3)]
      simp
    rw [e]
    have h1 := hc (j / 3) (by rw [List.length_map]; exact hd3) (j % 3) (Nat.mod_lt _ (by decide))
    rw [List.getElem_map, hsz, show j / 3 * 3 + j % 3 = j by omega] at h1
    rw [h1]
    have h2 := hel ⟨cs[j / 3], List.getElem_mem hd3⟩
    have h3 : j % 3 < (enc ⟨cs[j / 3], List.getElem_mem hd3⟩).length := by rw [h2]; exact Nat.mod_lt _ (by decide)
    show (enc ⟨cs[j / 3], List.getElem_mem hd3⟩)[j % 3]? = some (enc ⟨cs[j / 3], List.getElem_mem hd3⟩)[j % 3]!
    rw [getElem!_pos (enc ⟨cs[j / 3], List.getElem_mem hd3⟩) (j % 3) h3, List.getElem?_eq_getElem h3]
  have hcmp : Go.Proofs.CmpLays Try.prog 65 #[] enc 3 cf g 0 cs.attach.toArray.size w := fun m os dk hsd x y => by
    obtain ⟨v0, v1, v2, ex, r0, r1, r2⟩ := k54_openM (hM x.1 x.2)
    obtain ⟨u0, u1, u2, ey, s0, s1, s2⟩ := k54_openM (hM y.1 y.2)
    obtain ⟨A, c, rfl⟩ := Kd.R_slice r0
    obtain ⟨B, e, rfl⟩ := Kd.R_slice s0
    have t0 := Kd.R_step (w1 := sortWorldK enc 3 w g 0 m dk os) r0 (fun k hk hlt => kept_world k hk.1.2 hlt)
    have t1 := Kd.R_step (w1 := sortWorldK enc 3 w g 0 m dk os) s0 (fun k hk hlt => kept_world k hk.1.2 hlt)
    have hq := cmpR_calls A B c e x.1.2.1.f0 y.1.2.1.f0 v1 v2 u1 u2 (sortWorldK enc 3 w g 0 m dk os) (Kd.R_reads' t0).2.2 (Kd.R_reads' t0).2.1 (Kd.R_reads' t1).2.2 (Kd.R_reads' t1).2.1
      (hl _ (by rw [← hz1]; exact List.mem_map.2 ⟨x.1, x.2, rfl⟩)) (Kd.R_val r1).2 (Kd.R_val r2).2 (Kd.R_val s1).2 (Kd.R_val s2).2
    have ea : (#[.agg (enc x).toArray, .agg (enc y).toArray] ++ #[] : Array Value) = #[.agg #[.slice A x.1.2.1.f0.length c, v1, v2], .agg #[.slice B y.1.2.1.f0.length e, u1, u2]] := by
      rw [show enc x = _ from ex, show enc y = _ from ey]
      rfl
    rw [ea]
    exact hq.mono fun _ _ h => h
  have hsort := sort_any enc hel heo cf hO g cap cs.attach.toArray w hcmp hH hgs (by rw [hda]; omega) hT
  rw [hda] at hsort
  refine hsort.mono ?_
  rintro e w' ⟨rfl, n, os, hw⟩
  refine ⟨rfl, ?_, hw ▸ below_sortWorld hg hB⟩
  obtain ⟨ds, hds⟩ : ∃ ds, ds = cs.attach.mergeSort fun x y => !(ltOf cf) y x := ⟨_, rfl⟩
  have hw2 : w' = sortWorldK enc 3 w g 0 n ds.toArray os := by rw [hw, hds]
  have hpm : ds.Perm cs.attach := by rw [hds]; exact List.mergeSort_perm _ _
  have hdl : ds.length = xs.length := by rw [hpm.length_eq, List.length_attach, hcl]
  have hH1 : HoldsK enc 3 w' g 0 ds.toArray := by
    rw [hw2]
    exact Go.Proofs.holdsK_sortWorldK_c enc 3 w g 0 cs.attach.toArray ds.toArray n os hH hgs (by rw [hda]; simp [hdl])
  have hb1 : w'.heap[g]? = some (.cells (putCells id 0 (flatK enc 3 ds.toArray) cur) 54 (0, 0)) := by
    rw [hw2]
    show ((putRowK enc 3 (Sort.ahead w n) g 0 ds.toArray).heap ++ os)[g]? = _
    rw [Array.getElem?_append_left (by rw [size_putRowK]; exact hgs)]
    exact blk_putRow (w := Sort.ahead w n) (flatK enc 3 ds.toArray) hb
  have hS := S_shut (d := k54) (e := 54) (W := w') (base := base) (g := g) (cap := cap) (ok := ok) (cs := ds.map (·.1)) (f := f) hok hg hb1 (by rw [List.length_map, hdl]; exact hn) hm (by rw [size_putCells_id]; exact hs)
    (by
      have e : (cs.attach.map (·.1)).map (·.2.2) = cs.map (·.2.2) := by rw [List.attach_map_subtype_val]
      exact (((hpm.map (·.1)).map (·.2.2)).nodup_iff).2 (by rw [e]; exact hz2))
    (fun c hcm => by
      obtain ⟨t, ht, rfl⟩ := List.mem_map.1 hcm
      refine Kd.M_step (hM t.1 t.2) (fun k hk hlt => ?_)
      rw [hw2]
      exact kept_world k hk.1.2 hlt)
    (fun j hj i hi => by
      simp only [List.length_map] at hj
      have h1 := (HoldsK.cell hH1 (show j < ds.toArray.size by simpa using hj) (show i < 3 from hi)).1
      rw [Nat.zero_add, getElem!_pos ds.toArray j (by simpa using hj)] at h1
      have e1 : ds.toArray[j]'(by simpa using hj) = ds[j] := by simp
      rw [e1, getElem!_pos (enc ds[j]) i (by rw [hel]; exact hi)] at h1
      rw [show k54.sz = 3 from rfl, h1]
      simp only [List.getElem_map]
      exact (List.getElem?_eq_getElem (by rw [hel]; exact hi)).symm)
  have e1 : (ds.map (·.1)).map (·.2.1) = sortR xs := by
    rw [hds, List.map_map]
    have e2 := List.map_mergeSort (r := fun x y : T => !(ltOf cf) y x) (s := fun x y : SR => !(M.lexB y.f0 x.f0)) (f := fun t : T => t.1.2.1) (l := cs.attach) (fun a _ b _ => by simp only [hlt])
    have e3 : cs.attach.map (fun t : T => t.1.2.1) = xs := by
      rw [← hz1]
      conv => rhs; rw [← List.attach_map_subtype_val cs, List.map_map]
      rfl
    rw [e3] at e2
    exact e2
  rw [e1, List.length_map, hdl] at hS
  exact hS
end Go.Proofs.Ytdeenfpcmaadcaa.Pr

-- Written by a program for this claim.
namespace Go.Proofs.Ytdeenfpcmaadcaa.Pr
open Go.RowKit Go.Proofs.YtdeenfpcmaadcaaW.PrintWords Go.Proofs.YtdeenfpcmaadcaaW.PrintLast Go.Proofs.YtdeenfpcmaadcaaW.PrintMore
attribute [local go_sem] max2_int min2_int max_two min_two max_three min_three max_four min_four   -- for this text's walks alone
set_option linter.unusedVariables false
set_option linter.unusedSimpArgs false

/-! ### impl_isCircle: function 81 -/
def impl_isCircle.f (a0 : Int) : Option (Bool) := (impl_within.f a0 3 60).bind fun t217 => (some t217)
set_option maxHeartbeats 8000000 in
set_option maxRecDepth 100000 in
theorem impl_isCircle.calls (a0 : Int) (r : Bool) (w : World) (h : impl_isCircle.f a0 = some r) :
    Calls Try.prog 81 #[.int .i64 a0] w fun e w' => e = .returned (.bool r) ∧ Drawn0 w w' := by
  have H : ((impl_within.f a0 3 60).bind fun t217 => (some t217)) = some r := h
  clear h
  replace H := Option.bind_eq_some_iff.mp H
  obtain ⟨t217, A20, H⟩ := H
  replace H : (some t217) = some r := H
  have A2 := Aside0.mk A20
  clear A20
  obtain rfl := Option.some.inj H
  go_enter Try.func81, Try.ntmps81
  go_wp2_with (first | ((with_reducible refine gate_callee (f := 39) rfl ?_); refine goesL_ (some 4) rfl rfl Try.func39 (by kernel_rfl) rfl #[.int .i64 a0, .int .i64 3, .int .i64 60] rfl (by (try simp only [List.map_toArray, List.map_cons, List.map_nil]); first | done | rfl | (simp only [List.length_drop, List.length_take]; rfl)) ?_; (with_reducible refine (impl_within.calls a0 3 60 t217 _ A2.out).mono ?_); rintro e w' ⟨rfl, ⟨nd, rfl⟩⟩; refine ⟨_, rfl, ?_⟩))
  go_ret
  exact ⟨by first | rfl | (simp; done) | (simp [*]; done), by repeat (first | exact Drawn0.refl _ | apply Drawn0.step)⟩

end Go.Proofs.Ytdeenfpcmaadcaa.Pr

-- Written by a program for this claim.
namespace Go.Proofs.Ytdeenfpcmaadcaa.Pr
open Go.RowKit Go.Proofs.YtdeenfpcmaadcaaW.PrintWords Go.Proofs.YtdeenfpcmaadcaaW.PrintLast Go.Proofs.YtdeenfpcmaadcaaW.PrintMore
attribute [local go_sem] max2_int min2_int max_two min_two max_three min_three max_four min_four   -- for this text's walks alone
set_option linter.unusedVariables false
set_option linter.unusedSimpArgs false

/-! ### impl_isChord: function 93 -/
def impl_isChord.f (a0 : Int) (a1_0 : Int) (a1_1 : Int) : Option (Bool) := if a1_0 ≥ 0 then (if a1_0 < a1_1 then (some (decide (a1_1 < a0))) else (some false)) else (some false)
set_option maxHeartbeats 8000000 in
set_option maxRecDepth 100000 in
theorem impl_isChord.calls (a0 : Int) (a1_0 : Int) (a1_1 : Int) (r : Bool) (w : World) (h : impl_isChord.f a0 a1_0 a1_1 = some r) :
    Calls Try.prog 93 #[.int .i64 a0, .agg #[.int .i64 a1_0, .int .i64 a1_1]] w fun e w' => e = .returned (.bool r) ∧ Below w.heap.size w w' := by
  have hu47 := Try.underlying47
  have HB := Aside0.mk (Below.refl w.heap.size w)
  have H : (if a1_0 ≥ 0 then (if a1_0 < a1_1 then (some (decide (a1_1 < a0))) else (some false)) else (some false)) = some r := h
  clear h
  by_cases c3 : a1_0 ≥ 0
  · rw [if_pos c3] at H
    have c3b0 : decide (0 ≤ a1_0) = true := decide_eq_true c3
    clear c3
    by_cases c4 : a1_0 < a1_1
    · rw [if_pos c4] at H
      have c4b0 : decide (a1_0 < a1_1) = true := decide_eq_true c4
      clear c4
      obtain rfl := Option.some.inj H
      go_enter Try.func93, Try.ntmps93
      go_wp2_with (first | ((with_reducible refine gate_dst (N := 3) rfl ?_); refine box_event ?hg (N := 3) ?hd (cs := #[.int .i64 a1_0, .int .i64 a1_1]) (t := 47) ?hr ?_; (case hd => rfl); (case hg => rfl); (case hr => first | (go_simp; done) | (go_simp; rfl)); intro gb218 hg w5 hbox hb; have n0_ := Aside0.mk (below_step (by repeat (first | (with_reducible first | exact HB.out | apply below_alloc | apply pw_below_drewN | apply below_drew1) | exact HB.out)) hb); have n1_ := Aside0.mk (hbox); have n2_ := Aside0.mk ((by rw [hg]; exact (below_size (by repeat (first | (with_reducible first | exact HB.out | apply below_alloc | apply pw_below_drewN | apply below_drew1) | exact HB.out))) : w.heap.size ≤ gb218)); have n3_ := Aside0.mk ((by rw [hg]; exact (below_size (by repeat (first | (with_reducible first | exact HB.out | apply below_alloc | apply pw_below_drewN | apply below_drew1) | exact HB.out))) : w.heap.size ≤ gb218)); clear HB; have HB := n0_; have BK218 := n1_; have GW218 := n2_; have GE218 := n3_; clear n0_ n1_ n2_ n3_; clear hb hbox hg; have hcz6_0 : w5.cell? ⟨gb218, 0, none⟩ = some (.int .i64 a1_0) := (blk_cell BK218.out 0).trans rfl; have hcz6_1 : w5.cell? ⟨gb218, 1, none⟩ = some (.int .i64 a1_1) := (blk_cell BK218.out 1).trans rfl; have hfz6_0 := blk_frozen BK218.out 0; have hfz6_1 := blk_frozen BK218.out 1))
      go_ret
      exact ⟨by first | rfl | (simp [errW_none, errW_some] <;> rfl) | (simp [*, errW_none, errW_some] <;> rfl), by repeat (first | (with_reducible first | exact HB.out | apply below_alloc | apply pw_below_drewN | apply below_drew1 | refine below_set ?_ GE218.out) | exact HB.out)⟩
    · rw [if_neg c4] at H
      have c4b0 : decide (a1_0 < a1_1) = false := decide_eq_false c4
      clear c4
      obtain rfl := Option.some.inj H
      go_enter Try.func93, Try.ntmps93
      go_wp2_with (first | ((with_reducible refine gate_dst (N := 3) rfl ?_); refine box_event ?hg (N := 3) ?hd (cs := #[.int .i64 a1_0, .int .i64 a1_1]) (t := 47) ?hr ?_; (case hd => rfl); (case hg => rfl); (case hr => first | (go_simp; done) | (go_simp; rfl)); intro gb218 hg w7 hbox hb; have n0_ := Aside0.mk (below_step (by repeat (first | (with_reducible first | exact HB.out | apply below_alloc | apply pw_below_drewN | apply below_drew1) | exact HB.out)) hb); have n1_ := Aside0.mk (hbox); have n2_ := Aside0.mk ((by rw [hg]; exact (below_size (by repeat (first | (with_reducible first | exact HB.out | apply below_alloc | apply pw_below_drewN | apply below_drew1) | exact HB.out))) : w.heap.size ≤ gb218)); have n3_ := Aside0.mk ((by rw [hg]; exact (below_size (by repeat (first | (with_reducible first | exact HB.out | apply below_alloc | apply pw_below_drewN | apply below_drew1) | exact HB.out))) : w.heap.size ≤ gb218)); clear HB; have HB := n0_; have BK218 := n1_; have GW218 := n2_; have GE218 := n3_; clear n0_ n1_ n2_ n3_; clear hb hbox hg; have hcz8_0 : w7.cell? ⟨gb218, 0, none⟩ = some (.int .i64 a1_0) := (blk_cell BK218.out 0).trans rfl; have hcz8_1 : w7.cell? ⟨gb218, 1, none⟩ = some (.int .i64 a1_1) := (blk_cell BK218.out 1).trans rfl; have hfz8_0 := blk_frozen BK218.out 0; have hfz8_1 := blk_frozen BK218.out 1))
      go_ret
      exact ⟨by first | rfl | (simp [errW_none, errW_some] <;> rfl) | (simp [*, errW_none, errW_some] <;> rfl), by repeat (first | (with_reducible first | exact HB.out | apply below_alloc | apply pw_below_drewN | apply below_drew1 | refine below_set ?_ GE218.out) | exact HB.out)⟩
  · rw [if_neg c3] at H
    have c3b0 : decide (0 ≤ a1_0) = false := decide_eq_false c3
    clear c3
    obtain rfl := Option.some.inj H
    go_enter Try.func93, Try.ntmps93
    go_wp2_with (first | ((with_reducible refine gate_dst (N := 3) rfl ?_); refine box_event ?hg (N := 3) ?hd (cs := #[.int .i64 a1_0, .int .i64 a1_1]) (t := 47) ?hr ?_; (case hd => rfl); (case hg => rfl); (case hr => first | (go_simp; done) | (go_simp; rfl)); intro gb218 hg w9 hbox hb; have n0_ := Aside0.mk (below_step (by repeat (first | (with_reducible first | exact HB.out | apply below_alloc | apply pw_below_drewN | apply below_drew1) | exact HB.out)) hb); have n1_ := Aside0.mk (hbox); have n2_ := Aside0.mk ((by rw [hg]; exact (below_size (by repeat (first | (with_reducible first | exact HB.out | apply below_alloc | apply pw_below_drewN | apply below_drew1) | exact HB.out))) : w.heap.size ≤ gb218)); have n3_ := Aside0.mk ((by rw [hg]; exact (below_size (by repeat (first | (with_reducible first | exact HB.out | apply below_alloc | apply pw_below_drewN | apply below_drew1) | exact HB.out))) : w.heap.size ≤ gb218)); clear HB; have HB := n0_; have BK218 := n1_; have GW218 := n2_; have GE218 := n3_; clear n0_ n1_ n2_ n3_; clear hb hbox hg; have hcz10_0 : w9.cell? ⟨gb218, 0, none⟩ = some (.int .i64 a1_0) := (blk_cell BK218.out 0).trans rfl; have hcz10_1 : w9.cell? ⟨gb218, 1, none⟩ = some (.int .i64 a1_1) := (blk_cell BK218.out 1).trans rfl; have hfz10_0 := blk_frozen BK218.out 0; have hfz10_1 := blk_frozen BK218.out 1))
    go_ret
    exact ⟨by first | rfl | (simp [errW_none, errW_some] <;> rfl) | (simp [*, errW_none, errW_some] <;> rfl), by repeat (first | (with_reducible first | exact HB.out | apply below_alloc | apply pw_below_drewN | apply below_drew1 | refine below_set ?_ GE218.out) | exact HB.out)⟩

end Go.Proofs.Ytdeenfpcmaadcaa.Pr

-- Written by a program for this claim.
namespace Go.Proofs.Ytdeenfpcmaadcaa.Pr
open Go.RowKit Go.Proofs.YtdeenfpcmaadcaaW.PrintWords Go.Proofs.YtdeenfpcmaadcaaW.PrintLast Go.Proofs.YtdeenfpcmaadcaaW.PrintMore
attribute [local go_sem] max2_int min2_int max_two min_two max_three min_three max_four min_four   -- for this text's walks alone
set_option linter.unusedVariables false
set_option linter.unusedSimpArgs false

/-! ### impl_AreChords: function 82 -/
def impl_AreChords.l0 : Nat → Int → List (S47) → List (S47) → Int → Int → Option (Bool)
  | 0, _, _, _, _, _ => none
  | k + 1, x0, x1, x10, x11, x12 => if x12 < x11 then (if 0 ≤ x12 then (if x12 < (x10.length : Int) then ((impl_isChord.f x0 ((rd_T47 x10 x12).f0) ((rd_T47 x10 x12).f1)).bind fun t222 => (if t222 = true then (if x12 > 0 then (if 0 ≤ (wrap64 (x12 - 1)) then (if (wrap64 (x12 - 1)) < (x1.length : Int) then ((impl_compareChords.f k ((rd_T47 x1 (wrap64 (x12 - 1))).f0) ((rd_T47 x1 (wrap64 (x12 - 1))).f1) ((rd_T47 x10 x12).f0) ((rd_T47 x10 x12).f1)).bind fun t224 => (if t224 ≥ 0 then (some false) else (impl_AreChords.l0 k x0 x1 x10 x11 (wrap64 (x12 + 1))))) else (none)) else (none)) else (impl_AreChords.l0 k x0 x1 x10 x11 (wrap64 (x12 + 1)))) else (some false))) else (none)) else (none)) else (some (decide ((x1.length : Int) ≤ 40)))
def impl_AreChords.f (k : Nat) (a0 : Int) (l1 : List (S47)) : Option (Bool) := (impl_within.f a0 3 60).bind fun t219 => (if t219 = true then (impl_AreChords.l0 k a0 l1 l1 (l1.length : Int) 0) else (some false))
theorem impl_AreChords.mono_l : ∀ k, (∀ y0 y1 y2 y3 y4, LeO (impl_AreChords.l0 k y0 y1 y2 y3 y4) (impl_AreChords.l0 (k + 1) y0 y1 y2 y3 y4))
  | 0 => fun _ _ _ _ _ r h => by simp [impl_AreChords.l0] at h
  | k + 1 => by
    have ih0 := impl_AreChords.mono_l k
    · intro y0 y1 y2 y3 y4
      unfold impl_AreChords.l0
      repeat' first
      | (with_reducible exact ih0 _ _ _ _ _)
      | (with_reducible exact impl_compareChords.mono _ _ _ _ _)
      | (with_reducible exact LeO.refl _)
      | (with_reducible exact LeO.none _)
      | (with_reducible refine LeO.ite ?_ ?_)
      | (with_reducible refine LeO.bind ?_ (fun _ => ?_))
      | exact ih0 _ _ _ _ _
      | exact impl_compareChords.mono _ _ _ _ _
      | exact LeO.none _
      | refine LeO.ite ?_ ?_
      | refine LeO.bind ?_ (fun _ => ?_)
theorem impl_AreChords.mono : ∀ a0 a1 k, LeO (impl_AreChords.f k a0 a1) (impl_AreChords.f (k + 1) a0 a1) := by
  intro a0 a1 k
  have ih0 := impl_AreChords.mono_l k
  unfold impl_AreChords.f
  repeat' first
      | (with_reducible exact ih0 _ _ _ _ _)
      | (with_reducible exact impl_compareChords.mono _ _ _ _ _)
      | (with_reducible exact LeO.refl _)
      | (with_reducible exact LeO.none _)
      | (with_reducible refine LeO.ite ?_ ?_)
      | (with_reducible refine LeO.bind ?_ (fun _ => ?_))
      | exact ih0 _ _ _ _ _
      | exact impl_compareChords.mono _ _ _ _ _
      | exact LeO.none _
      | refine LeO.ite ?_ ?_
      | refine LeO.bind ?_ (fun _ => ?_)
def impl_AreChords.T6 : Bool × List (List Nat × List Nat) := (true, [([], []), ([], []), ([0, 1], [0, 1]), ([2], [2]), ([3, 2], [3]), ([4], [4]), ([5, 4], [4, 5]), ([6, 4, 4], [4, 6]), ([7], [7]), ([7], [7]), ([9, 7], [7, 9]), ([8, 10, 7], [7, 8, 10]), ([11, 7], [7, 11]), ([7], [7]), ([12, 13, 7, 7], [7, 12, 13]), ([14, 7], [7, 14]), ([7, 15, 4], [4, 7, 15]), ([4, 16], [4, 16])])
def impl_AreChords.B6 : List Nat := [0, 0, 3, 7, 15, 31, 63, 127, 255, 255, 767, 2047, 4095, 255, 16383, 32767, 65535, 131071]
theorem impl_AreChords.tab6 : rtab .any (opsOf Try.f82 6) = impl_AreChords.T6 := by kernel_rfl
theorem impl_AreChords.bits6 : waitsOk impl_AreChords.T6.2 impl_AreChords.B6 = true := by kernel_rfl
set_option maxHeartbeats 8000000 in
set_option maxRecDepth 100000 in
theorem impl_AreChords.calls (k : Nat) (a0 : Int) (A1 : Option Addr) (c1 : Nat) (l1 : List (S47)) (r : Bool) (w : World) (hr1 : Kd.C k47 w A1 l1.length l1) (hc1 : l1.length ≤ c1) (h : impl_AreChords.f k a0 l1 = some r) :
    Calls Try.prog 82 #[.int .i64 a0, .slice A1 l1.length c1] w fun e w' => e = .returned (.bool r) ∧ Below w.heap.size w w' := by
  have hu47 := Try.underlying47
  have HR1 := Aside0.mk hr1
  have HC1 := Aside0.mk hc1
  clear hr1 hc1
  have HB := Aside0.mk (Below.refl w.heap.size w)
  have H : ((impl_within.f a0 3 60).bind fun t219 => (if t219 = true then (impl_AreChords.l0 k a0 l1 l1 (l1.length : Int) 0) else (some false))) = some r := h
  clear h
  replace H := Option.bind_eq_some_iff.mp H
  obtain ⟨t219, A30, H⟩ := H
  replace H : (if t219 = true then (impl_AreChords.l0 k a0 l1 l1 (l1.length : Int) 0) else (some false)) = some r := H
  have A3 := Aside0.mk A30
  clear A30
  by_cases c4 : t219 = true
  · subst c4
    have H1 : (impl_AreChords.l0 k a0 l1 l1 (l1.length : Int) 0) = some r := by rw [if_pos rfl] at H; exact H
    clear H
    have H := H1
    clear H1
    have H' := Aside0.mk H
    clear H
    go_enter Try.func82, Try.ntmps82
    go_wp2_with (first | ((with_reducible refine gate_callee (f := 39) rfl ?_); refine goesL_ (some 8) rfl rfl Try.func39 (by kernel_rfl) rfl #[.int .i64 a0, .int .i64 3, .int .i64 60] rfl (by (try simp only [List.map_toArray, List.map_cons, List.map_nil]); first | done | rfl | (simp only [List.length_drop, List.length_take]; rfl)) ?_; (with_reducible refine (impl_within.calls a0 3 60 true _ A3.out).mono ?_); rintro e w' ⟨rfl, ⟨nd, rfl⟩⟩; refine ⟨_, rfl, ?_⟩))
    go_loopg [12] k (fun kq v12 w' => ∃ (x12_1 : Int), v12 = .int .i64 x12_1 ∧ Aside0 (impl_AreChords.l0 kq a0 l1 l1 (l1.length : Int) x12_1 = some r) ∧ Aside0 (kq ≤ k) ∧ Aside0 (Below w.heap.size w w'))
    case atStart => exact ⟨(0), (by first | rfl | (simp; done) | (simp [*]; done)), H', ⟨Nat.le_refl _⟩, ⟨by repeat (first | (with_reducible first | exact HB.out | apply below_alloc | apply pw_below_drewN | apply below_drew1) | exact HB.out)⟩⟩
    case round =>
      clear H'
      try clear c1
      try clear p2
      try clear c3
      try clear c4
      obtain ⟨x12_1, rfl, HA, HK1, HB⟩ := hrel
      cases gk with
      | zero => exact absurd HA.out (by simp [impl_AreChords.l0])
      | succ k1 =>
        have H := HA.out
        clear HA
        simp only [impl_AreChords.l0] at H
        by_cases c5 : x12_1 < (l1.length : Int)
        · rw [if_pos c5] at H
          have c5b0 : decide (x12_1 < (l1.length : Int)) = true := decide_eq_true c5
          clear c5
          by_cases c6 : 0 ≤ x12_1
          · rw [if_pos c6] at H
            have c6b0 : decide (0 ≤ x12_1) = true := decide_eq_true c6
            clear c6
            by_cases c7 : x12_1 < (l1.length : Int)
            · rw [if_pos c7] at H
              have c7b0 : decide (x12_1 < (l1.length : Int)) = true := decide_eq_true c7
              clear c7
              replace H := Option.bind_eq_some_iff.mp H
              obtain ⟨t222, A80, H⟩ := H
              replace H : (if t222 = true then (if x12_1 > 0 then (if 0 ≤ (wrap64 (x12_1 - 1)) then (if (wrap64 (x12_1 - 1)) < (l1.length : Int) then ((impl_compareChords.f k1 ((rd_T47 l1 (wrap64 (x12_1 - 1))).f0) ((rd_T47 l1 (wrap64 (x12_1 - 1))).f1) ((rd_T47 l1 x12_1).f0) ((rd_T47 l1 x12_1).f1)).bind fun t224 => (if t224 ≥ 0 then (some false) else (impl_AreChords.l0 k1 a0 l1 l1 (l1.length : Int) (wrap64 (x12_1 + 1))))) else (none)) else (none)) else (impl_AreChords.l0 k1 a0 l1 l1 (l1.length : Int) (wrap64 (x12_1 + 1)))) else (some false)) = some r := H
              have A8 := Aside0.mk A80
              clear A80
              by_cases c9 : t222 = true
              · subst c9
                have H1 : (if x12_1 > 0 then (if 0 ≤ (wrap64 (x12_1 - 1)) then (if (wrap64 (x12_1 - 1)) < (l1.length : Int) then ((impl_compareChords.f k1 ((rd_T47 l1 (wrap64 (x12_1 - 1))).f0) ((rd_T47 l1 (wrap64 (x12_1 - 1))).f1) ((rd_T47 l1 x12_1).f0) ((rd_T47 l1 x12_1).f1)).bind fun t224 => (if t224 ≥ 0 then (some false) else (impl_AreChords.l0 k1 a0 l1 l1 (l1.length : Int) (wrap64 (x12_1 + 1))))) else (none)) else (none)) else (impl_AreChords.l0 k1 a0 l1 l1 (l1.length : Int) (wrap64 (x12_1 + 1)))) = some r := by rw [if_pos rfl] at H; exact H
                clear H
                have H := H1
                clear H1
                by_cases c10 : x12_1 > 0
                · rw [if_pos c10] at H
                  have c10b0 : decide (0 < x12_1) = true := decide_eq_true c10
                  clear c10
                  obtain ⟨ji11, hji11⟩ : ∃ j_ : Int, (wrap64 (x12_1 - 1)) = j_ := ⟨_, rfl⟩
                  replace H : (if 0 ≤ (ji11) then (if (ji11) < (l1.length : Int) then ((impl_compareChords.f k1 ((rd_T47 l1 (ji11)).f0) ((rd_T47 l1 (ji11)).f1) ((rd_T47 l1 x12_1).f0) ((rd_T47 l1 x12_1).f1)).bind fun t224 => (if t224 ≥ 0 then (some false) else (impl_AreChords.l0 k1 a0 l1 l1 (l1.length : Int) (wrap64 (x12_1 + 1))))) else (none)) else (none)) = some r := by first | (rw [hji11] at H; exact H) | (simp only [hji11] at H ⊢; exact H)
                  (try rw [hji11] at A8)
                  have hji11w : (IntKind.i64.wrap (x12_1 - 1)) = ji11 := (i64_w _).trans hji11
                  by_cases c12 : 0 ≤ (ji11)
                  · rw [if_pos c12] at H
                    have c12b0 : decide (0 ≤ (ji11)) = true := decide_eq_true c12
                    clear c12
                    by_cases c13 : (ji11) < (l1.length : Int)
                    · rw [if_pos c13] at H
                      have c13b0 : decide ((ji11) < (l1.length : Int)) = true := decide_eq_true c13
                      clear c13
                      replace H := Option.bind_eq_some_iff.mp H
                      obtain ⟨t224, A140, H⟩ := H
                      replace H : (if t224 ≥ 0 then (some false) else (impl_AreChords.l0 k1 a0 l1 l1 (l1.length : Int) (wrap64 (x12_1 + 1)))) = some r := H
                      have A14 := Aside0.mk A140
                      clear A140
                      by_cases c15 : t224 ≥ 0
                      · rw [if_pos c15] at H
                        have c15b0 : decide (0 ≤ t224) = true := decide_eq_true c15
                        clear c15
                        obtain rfl := Option.some.inj H
                        have p220 : 0 ≤ (x12_1 : Int) := of_decide_eq_true (by first | (with_reducible assumption) | assumption)
                        have q220 : x12_1 < (l1.length : Int) := of_decide_eq_true (by first | (with_reducible assumption) | assumption)
                        obtain ⟨ad220, e220, hx220_0, hx220_1⟩ := at_T47 HR1.out x12_1 p220 q220
                        cases e220
                        replace hx220_0 := (HB.out.cell (World.block_lt_of_cell? w _ hx220_0)).trans hx220_0
                        replace hx220_1 := (HB.out.cell (World.block_lt_of_cell? w _ hx220_1)).trans hx220_1
                        replace p220 := eq_true p220
                        replace q220 := eq_true q220
                        try go_wp2_with (first | ((with_reducible refine gate_dst (N := 6) rfl ?_); refine box_event ?hg (N := 6) ?hd (cs := #[.int .i64 0, .int .i64 0]) (t := 47) ?hr ?_; (case hd => rfl); (case hg => rfl); (case hr => first | (go_simp; done) | (go_simp; rfl)); intro gb221 hg w16 hbox hb; have n0_ := Aside0.mk (below_step (by repeat (first | (with_reducible first | exact HB.out | apply below_alloc | apply pw_below_drewN | apply below_drew1) | exact HB.out)) hb); have n1_ := Aside0.mk (hbox); have n2_ := Aside0.mk ((by rw [hg]; exact (below_size (by repeat (first | (with_reducible first | exact HB.out | apply below_alloc | apply pw_below_drewN | apply below_drew1) | exact HB.out))) : w.heap.size ≤ gb221)); have n3_ := Aside0.mk ((by rw [hg]; exact (below_size (by repeat (first | (with_reducible first | exact HB.out | apply below_alloc | apply pw_below_drewN | apply below_drew1) | exact HB.out))) : w.heap.size ≤ gb221)); clear HB; have HB := n0_; have BK221 := n1_; have GW221 := n2_; have GE221 := n3_; clear n0_ n1_ n2_ n3_; clear hb hbox hg; have hcz17_0 : w16.cell? ⟨gb221, 0, none⟩ = some (.int .i64 0) := (blk_cell BK221.out 0).trans rfl; have hcz17_1 : w16.cell? ⟨gb221, 1, none⟩ = some (.int .i64 0) := (blk_cell BK221.out 1).trans rfl; have hfz17_0 := blk_frozen BK221.out 0; have hfz17_1 := blk_frozen BK221.out 1))
                        have n0_ : Aside0 (((w16.setCell ⟨gb221, 0, none⟩ (.int .i64 ((rd_T47 l1 x12_1).f0))).setCell ⟨gb221, 1, none⟩ (.int .i64 ((rd_T47 l1 x12_1).f1))).heap[gb221]? = some (.cells #[.int .i64 ((rd_T47 l1 x12_1).f0), .int .i64 ((rd_T47 l1 x12_1).f1)] 47 (0, 0))) := ⟨by (with_reducible repeat (first | refine blk_drewN ?_ _ | refine blk_drew ?_ | refine blk_alloc ?_ _)); refine blk_put (cs := #[.int .i64 ((rd_T47 l1 x12_1).f0), .int .i64 0]) ?_ 1 _ rfl; (with_reducible repeat (first | refine blk_drewN ?_ _ | refine blk_drew ?_ | refine blk_alloc ?_ _)); refine blk_put (cs := #[.int .i64 0, .int .i64 0]) ?_ 0 _ rfl; (with_reducible repeat (first | refine blk_drewN ?_ _ | refine blk_drew ?_ | refine blk_alloc ?_ _)); exact BK221.out⟩
                        have n1_ : Aside0 (Below w.heap.size w ((w16.setCell ⟨gb221, 0, none⟩ (.int .i64 ((rd_T47 l1 x12_1).f0))).setCell ⟨gb221, 1, none⟩ (.int .i64 ((rd_T47 l1 x12_1).f1)))) := ⟨by repeat (first | (with_reducible first | exact HB.out | apply below_alloc | apply pw_below_drewN | apply below_drew1 | refine below_set ?_ GE221.out) | exact HB.out)⟩
                        (try clear BK221)
                        (try clear HB)
                        generalize ((w16.setCell ⟨gb221, 0, none⟩ (.int .i64 ((rd_T47 l1 x12_1).f0))).setCell ⟨gb221, 1, none⟩ (.int .i64 ((rd_T47 l1 x12_1).f1))) = w18 at n0_ n1_ ⊢
                        have BK221 := n0_
                        have HB := n1_
                        clear n0_ n1_
                        have n0_ := Aside0.mk (blk_drew BK221.out)
                        have n1_ := Aside0.mk (below_drew1 HB.out)
                        clear BK221
                        clear HB
                        have BK221 := n0_
                        have HB := n1_
                        clear n0_ n1_
                        have p223 : 0 ≤ ((ji11) : Int) := of_decide_eq_true (by first | (with_reducible assumption) | assumption)
                        have q223 : (ji11) < (l1.length : Int) := of_decide_eq_true (by first | (with_reducible assumption) | assumption)
                        obtain ⟨ad223, e223, hx223_0, hx223_1⟩ := at_T47 HR1.out (ji11) p223 q223
                        have hw223_1 := hx223_1
                        have hw223_0 := hx223_0
                        obtain rfl : ad220 = ad223 := (by injection e223)
                        replace hx223_0 := (HB.out.cell (World.block_lt_of_cell? w _ hx223_0)).trans hx223_0
                        replace hx223_1 := (HB.out.cell (World.block_lt_of_cell? w _ hx223_1)).trans hx223_1
                        replace p223 := eq_true p223
                        replace q223 := eq_true q223
                        refine start_ (n := 18) (S := fun w' => w'.cell? ⟨gb221, 0, none⟩ = some (.int .i64 ((rd_T47 l1 x12_1).f0)) ∧ w'.cell? ⟨gb221, 1, none⟩ = some (.int .i64 ((rd_T47 l1 x12_1).f1)) ∧ w'.cell? (ad220.add (((ji11)).toNat * 2)) = some (.int .i64 ((rd_T47 l1 (ji11)).f0)) ∧ w'.cell? ⟨(ad220.add (((ji11)).toNat * 2)).block, (ad220.add (((ji11)).toNat * 2)).off + 1, none⟩ = some (.int .i64 ((rd_T47 l1 (ji11)).f1))) (ds := []) #[false, false, false, false, false, false, false, false, false, false, false, false, false, false, false, false, false, false] (by kernel_rfl) rfl rfl ⟨(blk_cell BK221.out 0).trans rfl, (blk_cell BK221.out 1).trans rfl, ((HB.out.cell (World.block_lt_of_cell? w _ hw223_0)).trans hw223_0), ((HB.out.cell (World.block_lt_of_cell? w _ hw223_1)).trans hw223_1)⟩ (fun hHeld => ?_); refine with_tabW impl_AreChords.tab6 impl_AreChords.bits6 (fun HT_ HW_ => ?_)
                        generalize w18.drew = w19 at BK221 HB hx223_0 hx223_1 hHeld ⊢
                        refine pure_ (i := 0) (N := some 17) (v := ?_) (a' := ?_) #[true, false, false, false, false, false, false, false, false, false, false, false, false, false, false, false, false, false] rfl rfl (any_of HT_.out (by kernel_rfl)) (fun _ _ _ h => h) (Or.inl ⟨by rfl, ?_⟩) ?_ ?_
                        rotate_left
                        · intro w'
                          go_simp
                          with_reducible rfl
                        rotate_left
                        · simp only [Act.put, List.setIfInBounds_toArray, List.set_cons_zero, List.set_cons_succ, i64_w, i32_w]
                          rfl
                        refine take_ (i := 1) (N := some 18) (v := ?_) (a' := ?_) #[true, true, false, false, false, false, false, false, false, false, false, false, false, false, false, false, false, false] rfl rfl (take_ofW HT_.out HW_.out (by kernel_rfl)) (fun _ _ _ h => h) (Or.inl ⟨by rfl, ?_⟩) hHeld ?_ ?_
                        rotate_left
                        · rintro w' ⟨s0, s1, s2, s3⟩
                          go_simp
                          with_reducible rfl
                        rotate_left
                        · simp only [Act.put, List.setIfInBounds_toArray, List.set_cons_zero, List.set_cons_succ, i64_w, i32_w]
                          rfl
                        refine one_ (i := 2) (N := some 19) #[true, true, true, false, false, false, false, false, false, false, false, false, false, false, false, false, false, false] rfl rfl (one_of HT_.out (by kernel_rfl)) (by decide) (fun K hK => ?_)
                        refine goes_ Try.func93 (by kernel_rfl) rfl #[.int .i64 a0, .agg #[.int .i64 ((rd_T47 l1 x12_1).f0), .int .i64 ((rd_T47 l1 x12_1).f1)]] (by rfl) rfl rfl (by (try simp only [List.map_toArray, List.map_cons, List.map_nil]); first | done | rfl | (simp only [List.length_drop, List.length_take]; rfl)) ?_
                        with_reducible refine (impl_isChord.calls a0 ((rd_T47 l1 x12_1).f0) ((rd_T47 l1 x12_1).f1) true _ A8.out).mono ?_
                        rintro e w20 ⟨rfl, hb⟩
                        refine ⟨_, rfl, ?_⟩
                        have n0_ := Aside0.mk (blk_below (g := gb221) (o := .cells #[.int .i64 ((rd_T47 l1 x12_1).f0), .int .i64 ((rd_T47 l1 x12_1).f1)] 47 (0, 0)) (by (with_reducible repeat (first | refine blk_drewN ?_ _ | refine blk_drew ?_ | refine blk_alloc ?_ _)); exact BK221.out) hb)
                        have n1_ := Aside0.mk (below_step (by repeat (first | (with_reducible first | exact HB.out | apply below_alloc | apply pw_below_drewN | apply below_drew1 | refine below_set ?_ GE221.out) | exact HB.out)) hb)
                        clear BK221
                        clear HB
                        have BK221 := n0_
                        have HB := n1_
                        clear n0_ n1_
                        (try clear hb)
                        (try clear hb2)
                        (try clear hk)
                        (try clear hi)
                        refine hK.out _ _ ⟨(blk_cell BK221.out 0).trans rfl, (blk_cell BK221.out 1).trans rfl, ((HB.out.cell (World.block_lt_of_cell? w _ hw223_0)).trans hw223_0), ((HB.out.cell (World.block_lt_of_cell? w _ hw223_1)).trans hw223_1)⟩ (fun hHeld => ?_)
                        clear hK K
                        refine norm_ (a' := ?_) ?_ ?_
                        rotate_left
                        · show Act.put _ (some 19) _ = _
                          simp only [Act.put, List.setIfInBounds_toArray, List.set_cons_zero, List.set_cons_succ, i64_w, i32_w]
                          rfl
                        refine pure_ (i := 3) (N := some 20) (v := ?_) (a' := ?_) #[true, true, true, true, false, false, false, false, false, false, false, false, false, false, false, false, false, false] rfl rfl (any_of HT_.out (by kernel_rfl)) (fun _ _ _ h => h) (Or.inl ⟨by rfl, ?_⟩) ?_ ?_
                        rotate_left
                        · intro w'
                          go_simp
                          with_reducible rfl
                        rotate_left
                        · simp only [Act.put, List.setIfInBounds_toArray, List.set_cons_zero, List.set_cons_succ, i64_w, i32_w]
                          rfl
                        refine pure_ (i := 4) (N := some 21) (v := ?_) (a' := ?_) #[true, true, true, true, true, false, false, false, false, false, false, false, false, false, false, false, false, false] rfl rfl (any_of HT_.out (by kernel_rfl)) (fun _ _ _ h => h) (Or.inl ⟨by rfl, ?_⟩) ?_ ?_
                        rotate_left
                        · intro w'
                          go_simp
                          with_reducible rfl
                        rotate_left
                        · simp only [Act.put, List.setIfInBounds_toArray, List.set_cons_zero, List.set_cons_succ, i64_w, i32_w]
                          rfl
                        refine pure_ (i := 5) (N := some 22) (v := ?_) (a' := ?_) #[true, true, true, true, true, true, false, false, false, false, false, false, false, false, false, false, false, false] rfl rfl (any_of HT_.out (by kernel_rfl)) (fun _ _ _ h => h) (Or.inl ⟨by rfl, ?_⟩) ?_ ?_
                        rotate_left
                        · intro w'
                          go_simp
                          with_reducible rfl
                        rotate_left
                        · simp only [Act.put, List.setIfInBounds_toArray, List.set_cons_zero, List.set_cons_succ, i64_w, i32_w]
                          rfl
                        refine pure_ (i := 6) (N := some 23) (v := ?_) (a' := ?_) #[true, true, true, true, true, true, true, false, false, false, false, false, false, false, false, false, false, false] rfl rfl (any_of HT_.out (by kernel_rfl)) (fun _ _ _ h => h) (Or.inl ⟨by rfl, ?_⟩) ?_ ?_
                        rotate_left
                        · intro w'
                          go_simp
                          with_reducible rfl
                        rotate_left
                        · simp only [Act.put, List.setIfInBounds_toArray, List.set_cons_zero, List.set_cons_succ, i64_w, i32_w]
                          rfl
                        refine pure_ (i := 7) (N := some 24) (v := ?_) (a' := ?_) #[true, true, true, true, true, true, true, true, false, false, false, false, false, false, false, false, false, false] rfl rfl (any_of HT_.out (by kernel_rfl)) (fun _ _ _ h => h) (Or.inl ⟨by rfl, ?_⟩) ?_ ?_
                        rotate_left
                        · intro w'
                          go_simp
                          with_reducible rfl
                        rotate_left
                        · simp only [Act.put, List.setIfInBounds_toArray, List.set_cons_zero, List.set_cons_succ, i64_w, i32_w]
                          rfl
                        refine pure_ (i := 8) (N := some 25) (v := ?_) (a' := ?_) #[true, true, true, true, true, true, true, true, true, false, false, false, false, false, false, false, false, false] rfl rfl (any_of HT_.out (by kernel_rfl)) (fun _ _ _ h => h) (Or.inl ⟨by rfl, ?_⟩) ?_ ?_
                        rotate_left
                        · intro w'
                          go_simp
                          with_reducible rfl
                        rotate_left
                        · simp only [Act.put, List.setIfInBounds_toArray, List.set_cons_zero, List.set_cons_succ, i64_w, i32_w]
                          rfl
                        refine pure_ (i := 9) (N := some 26) (v := ?_) (a' := ?_) #[true, true, true, true, true, true, true, true, true, true, false, false, false, false, false, false, false, false] rfl rfl (any_of HT_.out (by kernel_rfl)) (fun _ _ _ h => h) (Or.inl ⟨by rfl, ?_⟩) ?_ ?_
                        rotate_left
                        · intro w'
                          go_simp
                          with_reducible rfl
                        rotate_left
                        · simp only [Act.put, List.setIfInBounds_toArray, List.set_cons_zero, List.set_cons_succ, i64_w, i32_w]
                          rfl
                        refine pure_ (i := 10) (N := some 27) (v := ?_) (a' := ?_) #[true, true, true, true, true, true, true, true, true, true, true, false, false, false, false, false, false, false] rfl rfl (any_of HT_.out (by kernel_rfl)) (fun _ _ _ h => h) (Or.inl ⟨by rfl, ?_⟩) ?_ ?_
                        rotate_left
                        · intro w'
                          go_simp
                          with_reducible rfl
                        rotate_left
                        · simp only [Act.put, List.setIfInBounds_toArray, List.set_cons_zero, List.set_cons_succ, i64_w, i32_w]
                          rfl
                        refine pure_ (i := 11) (N := some 28) (v := ?_) (a' := ?_) #[true, true, true, true, true, true, true, true, true, true, true, true, false, false, false, false, false, false] rfl rfl (any_of HT_.out (by kernel_rfl)) (fun _ _ _ h => h) (Or.inl ⟨by rfl, ?_⟩) ?_ ?_
                        rotate_left
                        · intro w'
                          go_simp
                          with_reducible rfl
                        rotate_left
                        · simp only [Act.put, List.setIfInBounds_toArray, List.set_cons_zero, List.set_cons_succ, i64_w, i32_w]
                          rfl
                        refine take_ (i := 12) (N := some 29) (v := ?_) (a' := ?_) #[true, true, true, true, true, true, true, true, true, true, true, true, true, false, false, false, false, false] rfl rfl (take_ofW HT_.out HW_.out (by kernel_rfl)) (fun _ _ _ h => h) (Or.inl ⟨by rfl, ?_⟩) hHeld ?_ ?_
                        rotate_left
                        · rintro w' ⟨s0, s1, s2, s3⟩
                          go_simp
                          with_reducible rfl
                        rotate_left
                        · simp only [Act.put, List.setIfInBounds_toArray, List.set_cons_zero, List.set_cons_succ, i64_w, i32_w]
                          rfl
                        refine take_ (i := 13) (N := some 30) (v := ?_) (a' := ?_) #[true, true, true, true, true, true, true, true, true, true, true, true, true, true, false, false, false, false] rfl rfl (take_ofW HT_.out HW_.out (by kernel_rfl)) (fun _ _ _ h => h) (Or.inl ⟨by rfl, ?_⟩) hHeld ?_ ?_
                        rotate_left
                        · rintro w' ⟨s0, s1, s2, s3⟩
                          go_simp
                          with_reducible rfl
                        rotate_left
                        · simp only [Act.put, List.setIfInBounds_toArray, List.set_cons_zero, List.set_cons_succ, i64_w, i32_w]
                          rfl
                        refine one_ (i := 14) (N := some 31) #[true, true, true, true, true, true, true, true, true, true, true, true, true, true, true, false, false, false] rfl rfl (one_of HT_.out (by kernel_rfl)) (by decide) (fun K hK => ?_)
                        refine goes_ Try.func77 (by kernel_rfl) rfl #[.agg #[.int .i64 ((rd_T47 l1 (ji11)).f0), .int .i64 ((rd_T47 l1 (ji11)).f1)], .agg #[.int .i64 ((rd_T47 l1 x12_1).f0), .int .i64 ((rd_T47 l1 x12_1).f1)]] (by rfl) rfl rfl (by (try simp only [List.map_toArray, List.map_cons, List.map_nil]); first | done | (simp only [hji11]; rfl) | rfl | (simp only [List.length_drop, List.length_take]; rfl)) ?_
                        with_reducible refine (impl_compareChords.calls k1 ((rd_T47 l1 (ji11)).f0) ((rd_T47 l1 (ji11)).f1) ((rd_T47 l1 x12_1).f0) ((rd_T47 l1 x12_1).f1) t224 _ A14.out).mono ?_
                        rintro e w21 ⟨rfl, hb⟩
                        refine ⟨_, rfl, ?_⟩
                        have n0_ := Aside0.mk (blk_below (g := gb221) (o := .cells #[.int .i64 ((rd_T47 l1 x12_1).f0), .int .i64 ((rd_T47 l1 x12_1).f1)] 47 (0, 0)) (by (with_reducible repeat (first | refine blk_drewN ?_ _ | refine blk_drew ?_ | refine blk_alloc ?_ _)); exact BK221.out) hb)
                        have n1_ := Aside0.mk (below_step (by repeat (first | (with_reducible first | exact HB.out | apply below_alloc | apply pw_below_drewN | apply below_drew1 | refine below_set ?_ GE221.out) | exact HB.out)) hb)
                        clear BK221
                        clear HB
                        have BK221 := n0_
                        have HB := n1_
                        clear n0_ n1_
                        (try clear hb)
                        (try clear hb2)
                        (try clear hk)
                        (try clear hi)
                        refine hK.out _ _ ⟨(blk_cell BK221.out 0).trans rfl, (blk_cell BK221.out 1).trans rfl, ((HB.out.cell (World.block_lt_of_cell? w _ hw223_0)).trans hw223_0), ((HB.out.cell (World.block_lt_of_cell? w _ hw223_1)).trans hw223_1)⟩ (fun hHeld => ?_)
                        clear hK K
                        refine norm_ (a' := ?_) ?_ ?_
                        rotate_left
                        · show Act.put _ (some 31) _ = _
                          simp only [Act.put, List.setIfInBounds_toArray, List.set_cons_zero, List.set_cons_succ, i64_w, i32_w]
                          rfl
                        refine pure_ (i := 15) (N := some 32) (v := ?_) (a' := ?_) #[true, true, true, true, true, true, true, true, true, true, true, true, true, true, true, true, false, false] rfl rfl (any_of HT_.out (by kernel_rfl)) (fun _ _ _ h => h) (Or.inl ⟨by rfl, ?_⟩) ?_ ?_
                        rotate_left
                        · intro w'
                          go_simp
                          with_reducible rfl
                        rotate_left
                        · simp only [Act.put, List.setIfInBounds_toArray, List.set_cons_zero, List.set_cons_succ, i64_w, i32_w]
                          rfl
                        refine pure_ (i := 16) (N := some 33) (v := ?_) (a' := ?_) #[true, true, true, true, true, true, true, true, true, true, true, true, true, true, true, true, true, false] rfl rfl (any_of HT_.out (by kernel_rfl)) (fun _ _ _ h => h) (Or.inl ⟨by rfl, ?_⟩) ?_ ?_
                        rotate_left
                        · intro w'
                          go_simp
                          with_reducible rfl
                        rotate_left
                        · simp only [Act.put, List.setIfInBounds_toArray, List.set_cons_zero, List.set_cons_succ, i64_w, i32_w]
                          rfl
                        refine pure_ (i := 17) (N := some 34) (v := ?_) (a' := ?_) #[true, true, true, true, true, true, true, true, true, true, true, true, true, true, true, true, true, true] rfl rfl (any_of HT_.out (by kernel_rfl)) (fun _ _ _ h => h) (Or.inl ⟨by rfl, ?_⟩) ?_ ?_
                        rotate_left
                        · intro w'
                          go_simp
                          with_reducible rfl
                        rotate_left
                        · simp only [Act.put, List.setIfInBounds_toArray, List.set_cons_zero, List.set_cons_succ, i64_w, i32_w]
                          rfl
                        refine done_ (done_of HT_.out (by kernel_rfl)) ?_
                        try go_wp2
                        go_ret
                        exact ⟨by first | rfl | (simp [errW_none, errW_some] <;> rfl) | (simp only [← hji11]; first | rfl | (simp [errW_none, errW_some] <;> rfl)) | (simp [*, errW_none, errW_some] <;> rfl), by repeat (first | (with_reducible first | exact HB.out | apply below_alloc | apply pw_below_drewN | apply below_drew1 | refine below_set ?_ GE221.out) | exact HB.out)⟩
                      · rw [if_neg c15] at H
                        have c15b0 : decide (0 ≤ t224) = false := decide_eq_false c15
                        clear c15
                        have H' := Aside0.mk H
                        clear H
                        have p220 : 0 ≤ (x12_1 : Int) := of_decide_eq_true (by first | (with_reducible assumption) | assumption)
                        have q220 : x12_1 < (l1.length : Int) := of_decide_eq_true (by first | (with_reducible assumption) | assumption)
                        obtain ⟨ad220, e220, hx220_0, hx220_1⟩ := at_T47 HR1.out x12_1 p220 q220
                        cases e220
                        replace hx220_0 := (HB.out.cell (World.block_lt_of_cell? w _ hx220_0)).trans hx220_0
                        replace hx220_1 := (HB.out.cell (World.block_lt_of_cell? w _ hx220_1)).trans hx220_1
                        replace p220 := eq_true p220
                        replace q220 := eq_true q220
                        try go_wp2_with (first | ((with_reducible refine gate_dst (N := 6) rfl ?_); refine box_event ?hg (N := 6) ?hd (cs := #[.int .i64 0, .int .i64 0]) (t := 47) ?hr ?_; (case hd => rfl); (case hg => rfl); (case hr => first | (go_simp; done) | (go_simp; rfl)); intro gb221 hg w22 hbox hb; have n0_ := Aside0.mk (below_step (by repeat (first | (with_reducible first | exact HB.out | apply below_alloc | apply pw_below_drewN | apply below_drew1) | exact HB.out)) hb); have n1_ := Aside0.mk (hbox); have n2_ := Aside0.mk ((by rw [hg]; exact (below_size (by repeat (first | (with_reducible first | exact HB.out | apply below_alloc | apply pw_below_drewN | apply below_drew1) | exact HB.out))) : w.heap.size ≤ gb221)); have n3_ := Aside0.mk ((by rw [hg]; exact (below_size (by repeat (first | (with_reducible first | exact HB.out | apply below_alloc | apply pw_below_drewN | apply below_drew1) | exact HB.out))) : w.heap.size ≤ gb221)); clear HB; have HB := n0_; have BK221 := n1_; have GW221 := n2_; have GE221 := n3_; clear n0_ n1_ n2_ n3_; clear hb hbox hg; have hcz23_0 : w22.cell? ⟨gb221, 0, none⟩ = some (.int .i64 0) := (blk_cell BK221.out 0).trans rfl; have hcz23_1 : w22.cell? ⟨gb221, 1, none⟩ = some (.int .i64 0) := (blk_cell BK221.out 1).trans rfl; have hfz23_0 := blk_frozen BK221.out 0; have hfz23_1 := blk_frozen BK221.out 1))
                        have n0_ : Aside0 (((w22.setCell ⟨gb221, 0, none⟩ (.int .i64 ((rd_T47 l1 x12_1).f0))).setCell ⟨gb221, 1, none⟩ (.int .i64 ((rd_T47 l1 x12_1).f1))).heap[gb221]? = some (.cells #[.int .i64 ((rd_T47 l1 x12_1).f0), .int .i64 ((rd_T47 l1 x12_1).f1)] 47 (0, 0))) := ⟨by (with_reducible repeat (first | refine blk_drewN ?_ _ | refine blk_drew ?_ | refine blk_alloc ?_ _)); refine blk_put (cs := #[.int .i64 ((rd_T47 l1 x12_1).f0), .int .i64 0]) ?_ 1 _ rfl; (with_reducible repeat (first | refine blk_drewN ?_ _ | refine blk_drew ?_ | refine blk_alloc ?_ _)); refine blk_put (cs := #[.int .i64 0, .int .i64 0]) ?_ 0 _ rfl; (with_reducible repeat (first | refine blk_drewN ?_ _ | refine blk_drew ?_ | refine blk_alloc ?_ _)); exact BK221.out⟩
                        have n1_ : Aside0 (Below w.heap.size w ((w22.setCell ⟨gb221, 0, none⟩ (.int .i64 ((rd_T47 l1 x12_1).f0))).setCell ⟨gb221, 1, none⟩ (.int .i64 ((rd_T47 l1 x12_1).f1)))) := ⟨by repeat (first | (with_reducible first | exact HB.out | apply below_alloc | apply pw_below_drewN | apply below_drew1 | refine below_set ?_ GE221.out) | exact HB.out)⟩
                        (try clear BK221)
                        (try clear HB)
                        generalize ((w22.setCell ⟨gb221, 0, none⟩ (.int .i64 ((rd_T47 l1 x12_1).f0))).setCell ⟨gb221, 1, none⟩ (.int .i64 ((rd_T47 l1 x12_1).f1))) = w24 at n0_ n1_ ⊢
                        have BK221 := n0_
                        have HB := n1_
                        clear n0_ n1_
                        have n0_ := Aside0.mk (blk_drew BK221.out)
                        have n1_ := Aside0.mk (below_drew1 HB.out)
                        clear BK221
                        clear HB
                        have BK221 := n0_
                        have HB := n1_
                        clear n0_ n1_
                        have p223 : 0 ≤ ((ji11) : Int) := of_decide_eq_true (by first | (with_reducible assumption) | assumption)
                        have q223 : (ji11) < (l1.length : Int) := of_decide_eq_true (by first | (with_reducible assumption) | assumption)
                        obtain ⟨ad223, e223, hx223_0, hx223_1⟩ := at_T47 HR1.out (ji11) p223 q223
                        have hw223_1 := hx223_1
                        have hw223_0 := hx223_0
                        obtain rfl : ad220 = ad223 := (by injection e223)
                        replace hx223_0 := (HB.out.cell (World.block_lt_of_cell? w _ hx223_0)).trans hx223_0
                        replace hx223_1 := (HB.out.cell (World.block_lt_of_cell? w _ hx223_1)).trans hx223_1
                        replace p223 := eq_true p223
                        replace q223 := eq_true q223
                        refine start_ (n := 18) (S := fun w' => w'.cell? ⟨gb221, 0, none⟩ = some (.int .i64 ((rd_T47 l1 x12_1).f0)) ∧ w'.cell? ⟨gb221, 1, none⟩ = some (.int .i64 ((rd_T47 l1 x12_1).f1)) ∧ w'.cell? (ad220.add (((ji11)).toNat * 2)) = some (.int .i64 ((rd_T47 l1 (ji11)).f0)) ∧ w'.cell? ⟨(ad220.add (((ji11)).toNat * 2)).block, (ad220.add (((ji11)).toNat * 2)).off + 1, none⟩ = some (.int .i64 ((rd_T47 l1 (ji11)).f1))) (ds := []) #[false, false, false, false, false, false, false, false, false, false, false, false, false, false, false, false, false, false] (by kernel_rfl) rfl rfl ⟨(blk_cell BK221.out 0).trans rfl, (blk_cell BK221.out 1).trans rfl, ((HB.out.cell (World.block_lt_of_cell? w _ hw223_0)).trans hw223_0), ((HB.out.cell (World.block_lt_of_cell? w _ hw223_1)).trans hw223_1)⟩ (fun hHeld => ?_); refine with_tabW impl_AreChords.tab6 impl_AreChords.bits6 (fun HT_ HW_ => ?_)
                        generalize w24.drew = w25 at BK221 HB hx223_0 hx223_1 hHeld ⊢
                        refine pure_ (i := 0) (N := some 17) (v := ?_) (a' := ?_) #[true, false, false, false, false, false, false, false, false, false, false, false, false, false, false, false, false, false] rfl rfl (any_of HT_.out (by kernel_rfl)) (fun _ _ _ h => h) (Or.inl ⟨by rfl, ?_⟩) ?_ ?_
                        rotate_left
                        · intro w'
                          go_simp
                          with_reducible rfl
                        rotate_left
                        · simp only [Act.put, List.setIfInBounds_toArray, List.set_cons_zero, List.set_cons_succ, i64_w, i32_w]
                          rfl
                        refine take_ (i := 1) (N := some 18) (v := ?_) (a' := ?_) #[true, true, false, false, false, false, false, false, false, false, false, false, false, false, false, false, false, false] rfl rfl (take_ofW HT_.out HW_.out (by kernel_rfl)) (fun _ _ _ h => h) (Or.inl ⟨by rfl, ?_⟩) hHeld ?_ ?_
                        rotate_left
                        · rintro w' ⟨s0, s1, s2, s3⟩
                          go_simp
                          with_reducible rfl
                        rotate_left
                        · simp only [Act.put, List.setIfInBounds_toArray, List.set_cons_zero, List.set_cons_succ, i64_w, i32_w]
                          rfl
                        refine one_ (i := 2) (N := some 19) #[true, true, true, false, false, false, false, false, false, false, false, false, false, false, false, false, false, false] rfl rfl (one_of HT_.out (by kernel_rfl)) (by decide) (fun K hK => ?_)
                        refine goes_ Try.func93 (by kernel_rfl) rfl #[.int .i64 a0, .agg #[.int .i64 ((rd_T47 l1 x12_1).f0), .int .i64 ((rd_T47 l1 x12_1).f1)]] (by rfl) rfl rfl (by (try simp only [List.map_toArray, List.map_cons, List.map_nil]); first | done | rfl | (simp only [List.length_drop, List.length_take]; rfl)) ?_
                        with_reducible refine (impl_isChord.calls a0 ((rd_T47 l1 x12_1).f0) ((rd_T47 l1 x12_1).f1) true _ A8.out).mono ?_
                        rintro e w26 ⟨rfl, hb⟩
                        refine ⟨_, rfl, ?_⟩
                        have n0_ := Aside0.mk (blk_below (g := gb221) (o := .cells #[.int .i64 ((rd_T47 l1 x12_1).f0), .int .i64 ((rd_T47 l1 x12_1).f1)] 47 (0, 0)) (by (with_reducible repeat (first | refine blk_drewN ?_ _ | refine blk_drew ?_ | refine blk_alloc ?_ _)); exact BK221.out) hb)
                        have n1_ := Aside0.mk (below_step (by repeat (first | (with_reducible first | exact HB.out | apply below_alloc | apply pw_below_drewN | apply below_drew1 | refine below_set ?_ GE221.out) | exact HB.out)) hb)
                        clear BK221
                        clear HB
                        have BK221 := n0_
                        have HB := n1_
                        clear n0_ n1_
                        (try clear hb)
                        (try clear hb2)
                        (try clear hk)
                        (try clear hi)
                        refine hK.out _ _ ⟨(blk_cell BK221.out 0).trans rfl, (blk_cell BK221.out 1).trans rfl, ((HB.out.cell (World.block_lt_of_cell? w _ hw223_0)).trans hw223_0), ((HB.out.cell (World.block_lt_of_cell? w _ hw223_1)).trans hw223_1)⟩ (fun hHeld => ?_)
                        clear hK K
                        refine norm_ (a' := ?_) ?_ ?_
                        rotate_left
                        · show Act.put _ (some 19) _ = _
                          simp only [Act.put, List.setIfInBounds_toArray, List.set_cons_zero, List.set_cons_succ, i64_w, i32_w]
                          rfl
                        refine pure_ (i := 3) (N := some 20) (v := ?_) (a' := ?_) #[true, true, true, true, false, false, false, false, false, false, false, false, false, false, false, false, false, false] rfl rfl (any_of HT_.out (by kernel_rfl)) (fun _ _ _ h => h) (Or.inl ⟨by rfl, ?_⟩) ?_ ?_
                        rotate_left
                        · intro w'
                          go_simp
                          with_reducible rfl
                        rotate_left
                        · simp only [Act.put, List.setIfInBounds_toArray, List.set_cons_zero, List.set_cons_succ, i64_w, i32_w]
                          rfl
                        refine pure_ (i := 4) (N := some 21) (v := ?_) (a' := ?_) #[true, true, true, true, true, false, false, false, false, false, false, false, false, false, false, false, false, false] rfl rfl (any_of HT_.out (by kernel_rfl)) (fun _ _ _ h => h) (Or.inl ⟨by rfl, ?_⟩) ?_ ?_
                        rotate_left
                        · intro w'
                          go_simp
                          with_reducible rfl
                        rotate_left
                        · simp only [Act.put, List.setIfInBounds_toArray, List.set_cons_zero, List.set_cons_succ, i64_w, i32_w]
                          rfl
                        refine pure_ (i := 5) (N := some 22) (v := ?_) (a' := ?_) #[true, true, true, true, true, true, false, false, false, false, false, false, false, false, false, false, false, false] rfl rfl (any_of HT_.out (by kernel_rfl)) (fun _ _ _ h => h) (Or.inl ⟨by rfl, ?_⟩) ?_ ?_
                        rotate_left
                        · intro w'
                          go_simp
                          with_reducible rfl
                        rotate_left
                        · simp only [Act.put, List.setIfInBounds_toArray, List.set_cons_zero, List.set_cons_succ, i64_w, i32_w]
                          rfl
                        refine pure_ (i := 6) (N := some 23) (v := ?_) (a' := ?_) #[true, true, true, true, true, true, true, false, false, false, false, false, false, false, false, false, false, false] rfl rfl (any_of HT_.out (by kernel_rfl)) (fun _ _ _ h => h) (Or.inl ⟨by rfl, ?_⟩) ?_ ?_
                        rotate_left
                        · intro w'
                          go_simp
                          with_reducible rfl
                        rotate_left
                        · simp only [Act.put, List.setIfInBounds_toArray, List.set_cons_zero, List.set_cons_succ, i64_w, i32_w]
                          rfl
                        refine pure_ (i := 7) (N := some 24) (v := ?_) (a' := ?_) #[true, true, true, true, true, true, true, true, false, false, false, false, false, false, false, false, false, false] rfl rfl (any_of HT_.out (by kernel_rfl)) (fun _ _ _ h => h) (Or.inl ⟨by rfl, ?_⟩) ?_ ?_
                        rotate_left
                        · intro w'
                          go_simp
                          with_reducible rfl
                        rotate_left
                        · simp only [Act.put, List.setIfInBounds_toArray, List.set_cons_zero, List.set_cons_succ, i64_w, i32_w]
                          rfl
                        refine pure_ (i := 8) (N := some 25) (v := ?_) (a' := ?_) #[true, true, true, true, true, true, true, true, true, false, false, false, false, false, false, false, false, false] rfl rfl (any_of HT_.out (by kernel_rfl)) (fun _ _ _ h => h) (Or.inl ⟨by rfl, ?_⟩) ?_ ?_
                        rotate_left
                        · intro w'
                          go_simp
                          with_reducible rfl
                        rotate_left
                        · simp only [Act.put, List.setIfInBounds_toArray, List.set_cons_zero, List.set_cons_succ, i64_w, i32_w]
                          rfl
                        refine pure_ (i := 9) (N := some 26) (v := ?_) (a' := ?_) #[true, true, true, true, true, true, true, true, true, true, false, false, false, false, false, false, false, false] rfl rfl (any_of HT_.out (by kernel_rfl)) (fun _ _ _ h => h) (Or.inl ⟨by rfl, ?_⟩) ?_ ?_
                        rotate_left
                        · intro w'
                          go_simp
                          with_reducible rfl
                        rotate_left
                        · simp only [Act.put, List.setIfInBounds_toArray, List.set_cons_zero, List.set_cons_succ, i64_w, i32_w]
                          rfl
                        refine pure_ (i := 10) (N := some 27) (v := ?_) (a' := ?_) #[true, true, true, true, true, true, true, true, true, true, true, false, false, false, false, false, false, false] rfl rfl (any_of HT_.out (by kernel_rfl)) (fun _ _ _ h => h) (Or.inl ⟨by rfl, ?_⟩) ?_ ?_
                        rotate_left
                        · intro w'
                          go_simp
                          with_reducible rfl
                        rotate_left
                        · simp only [Act.put, List.setIfInBounds_toArray, List.set_cons_zero, List.set_cons_succ, i64_w, i32_w]
                          rfl
                        refine pure_ (i := 11) (N := some 28) (v := ?_) (a' := ?_) #[true, true, true, true, true, true, true, true, true, true, true, true, false, false, false, false, false, false] rfl rfl (any_of HT_.out (by kernel_rfl)) (fun _ _ _ h => h) (Or.inl ⟨by rfl, ?_⟩) ?_ ?_
                        rotate_left
                        · intro w'
                          go_simp
                          with_reducible rfl
                        rotate_left
                        · simp only [Act.put, List.setIfInBounds_toArray, List.set_cons_zero, List.set_cons_succ, i64_w, i32_w]
                          rfl
                        refine take_ (i := 12) (N := some 29) (v := ?_) (a' := ?_) #[true, true, true, true, true, true, true, true, true, true, true, true, true, false, false, false, false, false] rfl rfl (take_ofW HT_.out HW_.out (by kernel_rfl)) (fun _ _ _ h => h) (Or.inl ⟨by rfl, ?_⟩) hHeld ?_ ?_
                        rotate_left
                        · rintro w' ⟨s0, s1, s2, s3⟩
                          go_simp
                          with_reducible rfl
                        rotate_left
                        · simp only [Act.put, List.setIfInBounds_toArray, List.set_cons_zero, List.set_cons_succ, i64_w, i32_w]
                          rfl
                        refine take_ (i := 13) (N := some 30) (v := ?_) (a' := ?_) #[true, true, true, true, true, true, true, true, true, true, true, true, true, true, false, false, false, false] rfl rfl (take_ofW HT_.out HW_.out (by kernel_rfl)) (fun _ _ _ h => h) (Or.inl ⟨by rfl, ?_⟩) hHeld ?_ ?_
                        rotate_left
                        · rintro w' ⟨s0, s1, s2, s3⟩
                          go_simp
                          with_reducible rfl
                        rotate_left
                        · simp only [Act.put, List.setIfInBounds_toArray, List.set_cons_zero, List.set_cons_succ, i64_w, i32_w]
                          rfl
                        refine one_ (i := 14) (N := some 31) #[true, true, true, true, true, true, true, true, true, true, true, true, true, true, true, false, false, false] rfl rfl (one_of HT_.out (by kernel_rfl)) (by decide) (fun K hK => ?_)
                        refine goes_ Try.func77 (by kernel_rfl) rfl #[.agg #[.int .i64 ((rd_T47 l1 (ji11)).f0), .int .i64 ((rd_T47 l1 (ji11)).f1)], .agg #[.int .i64 ((rd_T47 l1 x12_1).f0), .int .i64 ((rd_T47 l1 x12_1).f1)]] (by rfl) rfl rfl (by (try simp only [List.map_toArray, List.map_cons, List.map_nil]); first | done | (simp only [hji11]; rfl) | rfl | (simp only [List.length_drop, List.length_take]; rfl)) ?_
                        with_reducible refine (impl_compareChords.calls k1 ((rd_T47 l1 (ji11)).f0) ((rd_T47 l1 (ji11)).f1) ((rd_T47 l1 x12_1).f0) ((rd_T47 l1 x12_1).f1) t224 _ A14.out).mono ?_
                        rintro e w27 ⟨rfl, hb⟩
                        refine ⟨_, rfl, ?_⟩
                        have n0_ := Aside0.mk (blk_below (g := gb221) (o := .cells #[.int .i64 ((rd_T47 l1 x12_1).f0), .int .i64 ((rd_T47 l1 x12_1).f1)] 47 (0, 0)) (by (with_reducible repeat (first | refine blk_drewN ?_ _ | refine blk_drew ?_ | refine blk_alloc ?_ _)); exact BK221.out) hb)
                        have n1_ := Aside0.mk (below_step (by repeat (first | (with_reducible first | exact HB.out | apply below_alloc | apply pw_below_drewN | apply below_drew1 | refine below_set ?_ GE221.out) | exact HB.out)) hb)
                        clear BK221
                        clear HB
                        have BK221 := n0_
                        have HB := n1_
                        clear n0_ n1_
                        (try clear hb)
                        (try clear hb2)
                        (try clear hk)
                        (try clear hi)
                        refine hK.out _ _ ⟨(blk_cell BK221.out 0).trans rfl, (blk_cell BK221.out 1).trans rfl, ((HB.out.cell (World.block_lt_of_cell? w _ hw223_0)).trans hw223_0), ((HB.out.cell (World.block_lt_of_cell? w _ hw223_1)).trans hw223_1)⟩ (fun hHeld => ?_)
                        clear hK K
                        refine norm_ (a' := ?_) ?_ ?_
                        rotate_left
                        · show Act.put _ (some 31) _ = _
                          simp only [Act.put, List.setIfInBounds_toArray, List.set_cons_zero, List.set_cons_succ, i64_w, i32_w]
                          rfl
                        refine pure_ (i := 15) (N := some 32) (v := ?_) (a' := ?_) #[true, true, true, true, true, true, true, true, true, true, true, true, true, true, true, true, false, false] rfl rfl (any_of HT_.out (by kernel_rfl)) (fun _ _ _ h => h) (Or.inl ⟨by rfl, ?_⟩) ?_ ?_
                        rotate_left
                        · intro w'
                          go_simp
                          with_reducible rfl
                        rotate_left
                        · simp only [Act.put, List.setIfInBounds_toArray, List.set_cons_zero, List.set_cons_succ, i64_w, i32_w]
                          rfl
                        refine pure_ (i := 16) (N := some 33) (v := ?_) (a' := ?_) #[true, true, true, true, true, true, true, true, true, true, true, true, true, true, true, true, true, false] rfl rfl (any_of HT_.out (by kernel_rfl)) (fun _ _ _ h => h) (Or.inl ⟨by rfl, ?_⟩) ?_ ?_
                        rotate_left
                        · intro w'
                          go_simp
                          with_reducible rfl
                        rotate_left
                        · simp only [Act.put, List.setIfInBounds_toArray, List.set_cons_zero, List.set_cons_succ, i64_w, i32_w]
                          rfl
                        refine pure_ (i := 17) (N := some 34) (v := ?_) (a' := ?_) #[true, true, true, true, true, true, true, true, true, true, true, true, true, true, true, true, true, true] rfl rfl (any_of HT_.out (by kernel_rfl)) (fun _ _ _ h => h) (Or.inl ⟨by rfl, ?_⟩) ?_ ?_
                        rotate_left
                        · intro w'
                          go_simp
                          with_reducible rfl
                        rotate_left
                        · simp only [Act.put, List.setIfInBounds_toArray, List.set_cons_zero, List.set_cons_succ, i64_w, i32_w]
                          rfl
                        refine done_ (done_of HT_.out (by kernel_rfl)) ?_
                        try go_wp2
                        go_roundg k1
                        case measure => have := HK1.out; omega
                        case rel => exact ⟨(wrap64 (x12_1 + 1)), (by first | rfl | (simp; done) | (simp [*]; done)), H', ⟨by have := HK1.out; omega⟩, ⟨by repeat (first | (with_reducible first | exact HB.out | apply below_alloc | apply pw_below_drewN | apply below_drew1 | refine below_set ?_ GE221.out) | exact HB.out)⟩⟩
                    · rw [if_neg c13] at H
                      exact absurd H (by simp)
                  · rw [if_neg c12] at H
                    exact absurd H (by simp)
                · rw [if_neg c10] at H
                  have c10b0 : decide (0 < x12_1) = false := decide_eq_false c10
                  clear c10
                  have H' := Aside0.mk H
                  clear H
                  have p220 : 0 ≤ (x12_1 : Int) := of_decide_eq_true (by first | (with_reducible assumption) | assumption)
                  have q220 : x12_1 < (l1.length : Int) := of_decide_eq_true (by first | (with_reducible assumption) | assumption)
                  obtain ⟨ad220, e220, hx220_0, hx220_1⟩ := at_T47 HR1.out x12_1 p220 q220
                  cases e220
                  replace hx220_0 := (HB.out.cell (World.block_lt_of_cell? w _ hx220_0)).trans hx220_0
                  replace hx220_1 := (HB.out.cell (World.block_lt_of_cell? w _ hx220_1)).trans hx220_1
                  replace p220 := eq_true p220
                  replace q220 := eq_true q220
                  try go_wp2_with (first | ((with_reducible refine gate_dst (N := 6) rfl ?_); refine box_event ?hg (N := 6) ?hd (cs := #[.int .i64 0, .int .i64 0]) (t := 47) ?hr ?_; (case hd => rfl); (case hg => rfl); (case hr => first | (go_simp; done) | (go_simp; rfl)); intro gb221 hg w28 hbox hb; have n0_ := Aside0.mk (below_step (by repeat (first | (with_reducible first | exact HB.out | apply below_alloc | apply pw_below_drewN | apply below_drew1) | exact HB.out)) hb); have n1_ := Aside0.mk (hbox); have n2_ := Aside0.mk ((by rw [hg]; exact (below_size (by repeat (first | (with_reducible first | exact HB.out | apply below_alloc | apply pw_below_drewN | apply below_drew1) | exact HB.out))) : w.heap.size ≤ gb221)); have n3_ := Aside0.mk ((by rw [hg]; exact (below_size (by repeat (first | (with_reducible first | exact HB.out | apply below_alloc | apply pw_below_drewN | apply below_drew1) | exact HB.out))) : w.heap.size ≤ gb221)); clear HB; have HB := n0_; have BK221 := n1_; have GW221 := n2_; have GE221 := n3_; clear n0_ n1_ n2_ n3_; clear hb hbox hg; have hcz29_0 : w28.cell? ⟨gb221, 0, none⟩ = some (.int .i64 0) := (blk_cell BK221.out 0).trans rfl; have hcz29_1 : w28.cell? ⟨gb221, 1, none⟩ = some (.int .i64 0) := (blk_cell BK221.out 1).trans rfl; have hfz29_0 := blk_frozen BK221.out 0; have hfz29_1 := blk_frozen BK221.out 1))
                  have n0_ : Aside0 (((w28.setCell ⟨gb221, 0, none⟩ (.int .i64 ((rd_T47 l1 x12_1).f0))).setCell ⟨gb221, 1, none⟩ (.int .i64 ((rd_T47 l1 x12_1).f1))).heap[gb221]? = some (.cells #[.int .i64 ((rd_T47 l1 x12_1).f0), .int .i64 ((rd_T47 l1 x12_1).f1)] 47 (0, 0))) := ⟨by (with_reducible repeat (first | refine blk_drewN ?_ _ | refine blk_drew ?_ | refine blk_alloc ?_ _)); refine blk_put (cs := #[.int .i64 ((rd_T47 l1 x12_1).f0), .int .i64 0]) ?_ 1 _ rfl; (with_reducible repeat (first | refine blk_drewN ?_ _ | refine blk_drew ?_ | refine blk_alloc ?_ _)); refine blk_put (cs := #[.int .i64 0, .int .i64 0]) ?_ 0 _ rfl; (with_reducible repeat (first | refine blk_drewN ?_ _ | refine blk_drew ?_ | refine blk_alloc ?_ _)); exact BK221.out⟩
                  have n1_ : Aside0 (Below w.heap.size w ((w28.setCell ⟨gb221, 0, none⟩ (.int .i64 ((rd_T47 l1 x12_1).f0))).setCell ⟨gb221, 1, none⟩ (.int .i64 ((rd_T47 l1 x12_1).f1)))) := ⟨by repeat (first | (with_reducible first | exact HB.out | apply below_alloc | apply pw_below_drewN | apply below_drew1 | refine below_set ?_ GE221.out) | exact HB.out)⟩
                  (try clear BK221)
                  (try clear HB)
                  generalize ((w28.setCell ⟨gb221, 0, none⟩ (.int .i64 ((rd_T47 l1 x12_1).f0))).setCell ⟨gb221, 1, none⟩ (.int .i64 ((rd_T47 l1 x12_1).f1))) = w30 at n0_ n1_ ⊢
                  have BK221 := n0_
                  have HB := n1_
                  clear n0_ n1_
                  have n0_ := Aside0.mk (blk_drew BK221.out)
                  have n1_ := Aside0.mk (below_drew1 HB.out)
                  clear BK221
                  clear HB
                  have BK221 := n0_
                  have HB := n1_
                  clear n0_ n1_
                  refine start_ (n := 18) (S := fun w' => w'.cell? ⟨gb221, 0, none⟩ = some (.int .i64 ((rd_T47 l1 x12_1).f0)) ∧ w'.cell? ⟨gb221, 1, none⟩ = some (.int .i64 ((rd_T47 l1 x12_1).f1))) (ds := []) #[false, false, false, false, false, false, false, false, false, false, false, false, false, false, false, false, false, false] (by kernel_rfl) rfl rfl ⟨(blk_cell BK221.out 0).trans rfl, (blk_cell BK221.out 1).trans rfl⟩ (fun hHeld => ?_); refine with_tabW impl_AreChords.tab6 impl_AreChords.bits6 (fun HT_ HW_ => ?_)
                  generalize w30.drew = w31 at BK221 HB hHeld ⊢
                  refine pure_ (i := 0) (N := some 17) (v := ?_) (a' := ?_) #[true, false, false, false, false, false, false, false, false, false, false, false, false, false, false, false, false, false] rfl rfl (any_of HT_.out (by kernel_rfl)) (fun _ _ _ h => h) (Or.inl ⟨by rfl, ?_⟩) ?_ ?_
                  rotate_left
                  · intro w'
                    go_simp
                    with_reducible rfl
                  rotate_left
                  · simp only [Act.put, List.setIfInBounds_toArray, List.set_cons_zero, List.set_cons_succ, i64_w, i32_w]
                    rfl
                  refine take_ (i := 1) (N := some 18) (v := ?_) (a' := ?_) #[true, true, false, false, false, false, false, false, false, false, false, false, false, false, false, false, false, false] rfl rfl (take_ofW HT_.out HW_.out (by kernel_rfl)) (fun _ _ _ h => h) (Or.inl ⟨by rfl, ?_⟩) hHeld ?_ ?_
                  rotate_left
                  · rintro w' ⟨s0, s1⟩
                    go_simp
                    with_reducible rfl
                  rotate_left
                  · simp only [Act.put, List.setIfInBounds_toArray, List.set_cons_zero, List.set_cons_succ, i64_w, i32_w]
                    rfl
                  refine one_ (i := 2) (N := some 19) #[true, true, true, false, false, false, false, false, false, false, false, false, false, false, false, false, false, false] rfl rfl (one_of HT_.out (by kernel_rfl)) (by decide) (fun K hK => ?_)
                  refine goes_ Try.func93 (by kernel_rfl) rfl #[.int .i64 a0, .agg #[.int .i64 ((rd_T47 l1 x12_1).f0), .int .i64 ((rd_T47 l1 x12_1).f1)]] (by rfl) rfl rfl (by (try simp only [List.map_toArray, List.map_cons, List.map_nil]); first | done | rfl | (simp only [List.length_drop, List.length_take]; rfl)) ?_
                  with_reducible refine (impl_isChord.calls a0 ((rd_T47 l1 x12_1).f0) ((rd_T47 l1 x12_1).f1) true _ A8.out).mono ?_
                  rintro e w32 ⟨rfl, hb⟩
                  refine ⟨_, rfl, ?_⟩
                  have n0_ := Aside0.mk (blk_below (g := gb221) (o := .cells #[.int .i64 ((rd_T47 l1 x12_1).f0), .int .i64 ((rd_T47 l1 x12_1).f1)] 47 (0, 0)) (by (with_reducible repeat (first | refine blk_drewN ?_ _ | refine blk_drew ?_ | refine blk_alloc ?_ _)); exact BK221.out) hb)
                  have n1_ := Aside0.mk (below_step (by repeat (first | (with_reducible first | exact HB.out | apply below_alloc | apply pw_below_drewN | apply below_drew1 | refine below_set ?_ GE221.out) | exact HB.out)) hb)
                  clear BK221
                  clear HB
                  have BK221 := n0_
                  have HB := n1_
                  clear n0_ n1_
                  (try clear hb)
                  (try clear hb2)
                  (try clear hk)
                  (try clear hi)
                  refine hK.out _ _ ⟨(blk_cell BK221.out 0).trans rfl, (blk_cell BK221.out 1).trans rfl⟩ (fun hHeld => ?_)
                  clear hK K
                  refine norm_ (a' := ?_) ?_ ?_
                  rotate_left
                  · show Act.put _ (some 19) _ = _
                    simp only [Act.put, List.setIfInBounds_toArray, List.set_cons_zero, List.set_cons_succ, i64_w, i32_w]
                    rfl
                  refine pure_ (i := 3) (N := some 20) (v := ?_) (a' := ?_) #[true, true, true, true, false, false, false, false, false, false, false, false, false, false, false, false, false, false] rfl rfl (any_of HT_.out (by kernel_rfl)) (fun _ _ _ h => h) (Or.inl ⟨by rfl, ?_⟩) ?_ ?_
                  rotate_left
                  · intro w'
                    go_simp
                    with_reducible rfl
                  rotate_left
                  · simp only [Act.put, List.setIfInBounds_toArray, List.set_cons_zero, List.set_cons_succ, i64_w, i32_w]
                    rfl
                  refine pure_ (i := 4) (N := some 21) (v := ?_) (a' := ?_) #[true, true, true, true, true, false, false, false, false, false, false, false, false, false, false, false, false, false] rfl rfl (any_of HT_.out (by kernel_rfl)) (fun _ _ _ h => h) (Or.inl ⟨by rfl, ?_⟩) ?_ ?_
                  rotate_left
                  · intro w'
                    go_simp
                    with_reducible rfl
                  rotate_left
                  · simp only [Act.put, List.setIfInBounds_toArray, List.set_cons_zero, List.set_cons_succ, i64_w, i32_w]
                    rfl
                  refine pure_ (i := 5) (N := some 22) (v := ?_) (a' := ?_) #[true, true, true, true, true, true, false, false, false, false, false, false, false, false, false, false, false, false] rfl rfl (any_of HT_.out (by kernel_rfl)) (fun _ _ _ h => h) (Or.inl ⟨by rfl, ?_⟩) ?_ ?_
                  rotate_left
                  · intro w'
                    go_simp
                    with_reducible rfl
                  rotate_left
                  · simp only [Act.put, List.setIfInBounds_toArray, List.set_cons_zero, List.set_cons_succ, i64_w, i32_w]
                    rfl
                  refine pure_ (i := 6) (N := some 23) (v := ?_) (a' := ?_) #[true, true, true, true, true, true, true, false, false, false, false, false, false, false, false, false, false, false] rfl rfl (any_of HT_.out (by kernel_rfl)) (fun _ _ _ h => h) (Or.inl ⟨by rfl, ?_⟩) ?_ ?_
                  rotate_left
                  · intro w'
                    go_simp
                    with_reducible rfl
                  rotate_left
                  · simp only [Act.put, List.setIfInBounds_toArray, List.set_cons_zero, List.set_cons_succ, i64_w, i32_w]
                    rfl
                  refine pure_ (i := 7) (N := some 24) (v := ?_) (a' := ?_) #[true, true, true, true, true, true, true, true, false, false, false, false, false, false, false, false, false, false] rfl rfl (any_of HT_.out (by kernel_rfl)) (fun _ _ _ h => h) (Or.inl ⟨by rfl, ?_⟩) ?_ ?_
                  rotate_left
                  · intro w'
                    go_simp
                    with_reducible rfl
                  rotate_left
                  · simp only [Act.put, List.setIfInBounds_toArray, List.set_cons_zero, List.set_cons_succ, i64_w, i32_w]
                    rfl
                  refine pure_ (i := 8) (N := some 25) (v := undef) (a' := ?_) #[true, true, true, true, true, true, true, true, true, false, false, false, false, false, false, false, false, false] rfl rfl (any_of HT_.out (by kernel_rfl)) (fun _ _ _ h => h) (Or.inr ⟨by rfl, rfl⟩) ?_ ?_
                  rotate_left
                  · simp only [Act.put, List.setIfInBounds_toArray, List.set_cons_zero, List.set_cons_succ, i64_w, i32_w]
                    rfl
                  refine pure_ (i := 9) (N := some 26) (v := undef) (a' := ?_) #[true, true, true, true, true, true, true, true, true, true, false, false, false, false, false, false, false, false] rfl rfl (any_of HT_.out (by kernel_rfl)) (fun _ _ _ h => h) (Or.inr ⟨by rfl, rfl⟩) ?_ ?_
                  rotate_left
                  · simp only [Act.put, List.setIfInBounds_toArray, List.set_cons_zero, List.set_cons_succ, i64_w, i32_w]
                    rfl
                  refine pure_ (i := 10) (N := some 27) (v := undef) (a' := ?_) #[true, true, true, true, true, true, true, true, true, true, true, false, false, false, false, false, false, false] rfl rfl (any_of HT_.out (by kernel_rfl)) (fun _ _ _ h => h) (Or.inr ⟨by rfl, rfl⟩) ?_ ?_
                  rotate_left
                  · simp only [Act.put, List.setIfInBounds_toArray, List.set_cons_zero, List.set_cons_succ, i64_w, i32_w]
                    rfl
                  refine pure_ (i := 11) (N := some 28) (v := undef) (a' := ?_) #[true, true, true, true, true, true, true, true, true, true, true, true, false, false, false, false, false, false] rfl rfl (any_of HT_.out (by kernel_rfl)) (fun _ _ _ h => h) (Or.inr ⟨by rfl, rfl⟩) ?_ ?_
                  rotate_left
                  · simp only [Act.put, List.setIfInBounds_toArray, List.set_cons_zero, List.set_cons_succ, i64_w, i32_w]
                    rfl
                  refine pure_ (i := 12) (N := some 29) (v := undef) (a' := ?_) #[true, true, true, true, true, true, true, true, true, true, true, true, true, false, false, false, false, false] rfl rfl (any_of HT_.out (by kernel_rfl)) (fun _ _ _ h => h) (Or.inr ⟨by rfl, rfl⟩) ?_ ?_
                  rotate_left
                  · simp only [Act.put, List.setIfInBounds_toArray, List.set_cons_zero, List.set_cons_succ, i64_w, i32_w]
                    rfl
                  refine pure_ (i := 13) (N := some 30) (v := undef) (a' := ?_) #[true, true, true, true, true, true, true, true, true, true, true, true, true, true, false, false, false, false] rfl rfl (any_of HT_.out (by kernel_rfl)) (fun _ _ _ h => h) (Or.inr ⟨by rfl, rfl⟩) ?_ ?_
                  rotate_left
                  · simp only [Act.put, List.setIfInBounds_toArray, List.set_cons_zero, List.set_cons_succ, i64_w, i32_w]
                    rfl
                  refine pure_ (i := 14) (N := some 31) (v := undef) (a' := ?_) #[true, true, true, true, true, true, true, true, true, true, true, true, true, true, true, false, false, false] rfl rfl (any_of HT_.out (by kernel_rfl)) (fun _ _ _ h => h) (Or.inr ⟨by rfl, rfl⟩) ?_ ?_
                  rotate_left
                  · simp only [Act.put, List.setIfInBounds_toArray, List.set_cons_zero, List.set_cons_succ, i64_w, i32_w]
                    rfl
                  refine pure_ (i := 15) (N := some 32) (v := undef) (a' := ?_) #[true, true, true, true, true, true, true, true, true, true, true, true, true, true, true, true, false, false] rfl rfl (any_of HT_.out (by kernel_rfl)) (fun _ _ _ h => h) (Or.inr ⟨by rfl, rfl⟩) ?_ ?_
                  rotate_left
                  · simp only [Act.put, List.setIfInBounds_toArray, List.set_cons_zero, List.set_cons_succ, i64_w, i32_w]
                    rfl
                  refine pure_ (i := 16) (N := some 33) (v := ?_) (a' := ?_) #[true, true, true, true, true, true, true, true, true, true, true, true, true, true, true, true, true, false] rfl rfl (any_of HT_.out (by kernel_rfl)) (fun _ _ _ h => h) (Or.inl ⟨by rfl, ?_⟩) ?_ ?_
                  rotate_left
                  · intro w'
                    go_simp
                    with_reducible rfl
                  rotate_left
                  · simp only [Act.put, List.setIfInBounds_toArray, List.set_cons_zero, List.set_cons_succ, i64_w, i32_w]
                    rfl
                  refine pure_ (i := 17) (N := some 34) (v := ?_) (a' := ?_) #[true, true, true, true, true, true, true, true, true, true, true, true, true, true, true, true, true, true] rfl rfl (any_of HT_.out (by kernel_rfl)) (fun _ _ _ h => h) (Or.inl ⟨by rfl, ?_⟩) ?_ ?_
                  rotate_left
                  · intro w'
                    go_simp
                    with_reducible rfl
                  rotate_left
                  · simp only [Act.put, List.setIfInBounds_toArray, List.set_cons_zero, List.set_cons_succ, i64_w, i32_w]
                    rfl
                  refine done_ (done_of HT_.out (by kernel_rfl)) ?_
                  try go_wp2
                  go_roundg k1
                  case measure => have := HK1.out; omega
                  case rel => exact ⟨(wrap64 (x12_1 + 1)), (by first | rfl | (simp; done) | (simp [*]; done)), H', ⟨by have := HK1.out; omega⟩, ⟨by repeat (first | (with_reducible first | exact HB.out | apply below_alloc | apply pw_below_drewN | apply below_drew1 | refine below_set ?_ GE221.out) | exact HB.out)⟩⟩
              · replace c9 := Bool.eq_false_iff.mpr c9
                subst c9
                have H1 : (some false) = some r := by rw [if_neg (show ¬ (false = true) by decide)] at H; exact H
                clear H
                have H := H1
                clear H1
                obtain rfl := Option.some.inj H
                have p220 : 0 ≤ (x12_1 : Int) := of_decide_eq_true (by first | (with_reducible assumption) | assumption)
                have q220 : x12_1 < (l1.length : Int) := of_decide_eq_true (by first | (with_reducible assumption) | assumption)
                obtain ⟨ad220, e220, hx220_0, hx220_1⟩ := at_T47 HR1.out x12_1 p220 q220
                cases e220
                replace hx220_0 := (HB.out.cell (World.block_lt_of_cell? w _ hx220_0)).trans hx220_0
                replace hx220_1 := (HB.out.cell (World.block_lt_of_cell? w _ hx220_1)).trans hx220_1
                replace p220 := eq_true p220
                replace q220 := eq_true q220
                try go_wp2_with (first | ((with_reducible refine gate_dst (N := 6) rfl ?_); refine box_event ?hg (N := 6) ?hd (cs := #[.int .i64 0, .int .i64 0]) (t := 47) ?hr ?_; (case hd => rfl); (case hg => rfl); (case hr => first | (go_simp; done) | (go_simp; rfl)); intro gb221 hg w33 hbox hb; have n0_ := Aside0.mk (below_step (by repeat (first | (with_reducible first | exact HB.out | apply below_alloc | apply pw_below_drewN | apply below_drew1) | exact HB.out)) hb); have n1_ := Aside0.mk (hbox); have n2_ := Aside0.mk ((by rw [hg]; exact (below_size (by repeat (first | (with_reducible first | exact HB.out | apply below_alloc | apply pw_below_drewN | apply below_drew1) | exact HB.out))) : w.heap.size ≤ gb221)); have n3_ := Aside0.mk ((by rw [hg]; exact (below_size (by repeat (first | (with_reducible first | exact HB.out | apply below_alloc | apply pw_below_drewN | apply below_drew1) | exact HB.out))) : w.heap.size ≤ gb221)); clear HB; have HB := n0_; have BK221 := n1_; have GW221 := n2_; have GE221 := n3_; clear n0_ n1_ n2_ n3_; clear hb hbox hg; have hcz34_0 : w33.cell? ⟨gb221, 0, none⟩ = some (.int .i64 0) := (blk_cell BK221.out 0).trans rfl; have hcz34_1 : w33.cell? ⟨gb221, 1, none⟩ = some (.int .i64 0) := (blk_cell BK221.out 1).trans rfl; have hfz34_0 := blk_frozen BK221.out 0; have hfz34_1 := blk_frozen BK221.out 1))
                have n0_ : Aside0 (((w33.setCell ⟨gb221, 0, none⟩ (.int .i64 ((rd_T47 l1 x12_1).f0))).setCell ⟨gb221, 1, none⟩ (.int .i64 ((rd_T47 l1 x12_1).f1))).heap[gb221]? = some (.cells #[.int .i64 ((rd_T47 l1 x12_1).f0), .int .i64 ((rd_T47 l1 x12_1).f1)] 47 (0, 0))) := ⟨by (with_reducible repeat (first | refine blk_drewN ?_ _ | refine blk_drew ?_ | refine blk_alloc ?_ _)); refine blk_put (cs := #[.int .i64 ((rd_T47 l1 x12_1).f0), .int .i64 0]) ?_ 1 _ rfl; (with_reducible repeat (first | refine blk_drewN ?_ _ | refine blk_drew ?_ | refine blk_alloc ?_ _)); refine blk_put (cs := #[.int .i64 0, .int .i64 0]) ?_ 0 _ rfl; (with_reducible repeat (first | refine blk_drewN ?_ _ | refine blk_drew ?_ | refine blk_alloc ?_ _)); exact BK221.out⟩
                have n1_ : Aside0 (Below w.heap.size w ((w33.setCell ⟨gb221, 0, none⟩ (.int .i64 ((rd_T47 l1 x12_1).f0))).setCell ⟨gb221, 1, none⟩ (.int .i64 ((rd_T47 l1 x12_1).f1)))) := ⟨by repeat (first | (with_reducible first | exact HB.out | apply below_alloc | apply pw_below_drewN | apply below_drew1 | refine below_set ?_ GE221.out) | exact HB.out)⟩
                (try clear BK221)
                (try clear HB)
                generalize ((w33.setCell ⟨gb221, 0, none⟩ (.int .i64 ((rd_T47 l1 x12_1).f0))).setCell ⟨gb221, 1, none⟩ (.int .i64 ((rd_T47 l1 x12_1).f1))) = w35 at n0_ n1_ ⊢
                have BK221 := n0_
                have HB := n1_
                clear n0_ n1_
                have n0_ := Aside0.mk (blk_drew BK221.out)
                have n1_ := Aside0.mk (below_drew1 HB.out)
                clear BK221
                clear HB
                have BK221 := n0_
                have HB := n1_
                clear n0_ n1_
                refine start_ (n := 18) (S := fun w' => w'.cell? ⟨gb221, 0, none⟩ = some (.int .i64 ((rd_T47 l1 x12_1).f0)) ∧ w'.cell? ⟨gb221, 1, none⟩ = some (.int .i64 ((rd_T47 l1 x12_1).f1))) (ds := []) #[false, false, false, false, false, false, false, false, false, false, false, false, false, false, false, false, false, false] (by kernel_rfl) rfl rfl ⟨(blk_cell BK221.out 0).trans rfl, (blk_cell BK221.out 1).trans rfl⟩ (fun hHeld => ?_); refine with_tabW impl_AreChords.tab6 impl_AreChords.bits6 (fun HT_ HW_ => ?_)
                generalize w35.drew = w36 at BK221 HB hHeld ⊢
                refine pure_ (i := 0) (N := some 17) (v := ?_) (a' := ?_) #[true, false, false, false, false, false, false, false, false, false, false, false, false, false, false, false, false, false] rfl rfl (any_of HT_.out (by kernel_rfl)) (fun _ _ _ h => h) (Or.inl ⟨by rfl, ?_⟩) ?_ ?_
                rotate_left
                · intro w'
                  go_simp
                  with_reducible rfl
                rotate_left
                · simp only [Act.put, List.setIfInBounds_toArray, List.set_cons_zero, List.set_cons_succ, i64_w, i32_w]
                  rfl
                refine take_ (i := 1) (N := some 18) (v := ?_) (a' := ?_) #[true, true, false, false, false, false, false, false, false, false, false, false, false, false, false, false, false, false] rfl rfl (take_ofW HT_.out HW_.out (by kernel_rfl)) (fun _ _ _ h => h) (Or.inl ⟨by rfl, ?_⟩) hHeld ?_ ?_
                rotate_left
                · rintro w' ⟨s0, s1⟩
                  go_simp
                  with_reducible rfl
                rotate_left
                · simp only [Act.put, List.setIfInBounds_toArray, List.set_cons_zero, List.set_cons_succ, i64_w, i32_w]
                  rfl
                refine one_ (i := 2) (N := some 19) #[true, true, true, false, false, false, false, false, false, false, false, false, false, false, false, false, false, false] rfl rfl (one_of HT_.out (by kernel_rfl)) (by decide) (fun K hK => ?_)
                refine goes_ Try.func93 (by kernel_rfl) rfl #[.int .i64 a0, .agg #[.int .i64 ((rd_T47 l1 x12_1).f0), .int .i64 ((rd_T47 l1 x12_1).f1)]] (by rfl) rfl rfl (by (try simp only [List.map_toArray, List.map_cons, List.map_nil]); first | done | rfl | (simp only [List.length_drop, List.length_take]; rfl)) ?_
                with_reducible refine (impl_isChord.calls a0 ((rd_T47 l1 x12_1).f0) ((rd_T47 l1 x12_1).f1) false _ A8.out).mono ?_
                rintro e w37 ⟨rfl, hb⟩
                refine ⟨_, rfl, ?_⟩
                have n0_ := Aside0.mk (blk_below (g := gb221) (o := .cells #[.int .i64 ((rd_T47 l1 x12_1).f0), .int .i64 ((rd_T47 l1 x12_1).f1)] 47 (0, 0)) (by (with_reducible repeat (first | refine blk_drewN ?_ _ | refine blk_drew ?_ | refine blk_alloc ?_ _)); exact BK221.out) hb)
                have n1_ := Aside0.mk (below_step (by repeat (first | (with_reducible first | exact HB.out | apply below_alloc | apply pw_below_drewN | apply below_drew1 | refine below_set ?_ GE221.out) | exact HB.out)) hb)
                clear BK221
                clear HB
                have BK221 := n0_
                have HB := n1_
                clear n0_ n1_
                (try clear hb)
                (try clear hb2)
                (try clear hk)
                (try clear hi)
                refine hK.out _ _ ⟨(blk_cell BK221.out 0).trans rfl, (blk_cell BK221.out 1).trans rfl⟩ (fun hHeld => ?_)
                clear hK K
                refine norm_ (a' := ?_) ?_ ?_
                rotate_left
                · show Act.put _ (some 19) _ = _
                  simp only [Act.put, List.setIfInBounds_toArray, List.set_cons_zero, List.set_cons_succ, i64_w, i32_w]
                  rfl
                refine pure_ (i := 3) (N := some 20) (v := ?_) (a' := ?_) #[true, true, true, true, false, false, false, false, false, false, false, false, false, false, false, false, false, false] rfl rfl (any_of HT_.out (by kernel_rfl)) (fun _ _ _ h => h) (Or.inl ⟨by rfl, ?_⟩) ?_ ?_
                rotate_left
                · intro w'
                  go_simp
                  with_reducible rfl
                rotate_left
                · simp only [Act.put, List.setIfInBounds_toArray, List.set_cons_zero, List.set_cons_succ, i64_w, i32_w]
                  rfl
                refine pure_ (i := 4) (N := some 21) (v := ?_) (a' := ?_) #[true, true, true, true, true, false, false, false, false, false, false, false, false, false, false, false, false, false] rfl rfl (any_of HT_.out (by kernel_rfl)) (fun _ _ _ h => h) (Or.inl ⟨by rfl, ?_⟩) ?_ ?_
                rotate_left
                · intro w'
                  go_simp
                  with_reducible rfl
                rotate_left
                · simp only [Act.put, List.setIfInBounds_toArray, List.set_cons_zero, List.set_cons_succ, i64_w, i32_w]
                  rfl
                refine pure_ (i := 5) (N := some 22) (v := undef) (a' := ?_) #[true, true, true, true, true, true, false, false, false, false, false, false, false, false, false, false, false, false] rfl rfl (any_of HT_.out (by kernel_rfl)) (fun _ _ _ h => h) (Or.inr ⟨by rfl, rfl⟩) ?_ ?_
                rotate_left
                · simp only [Act.put, List.setIfInBounds_toArray, List.set_cons_zero, List.set_cons_succ, i64_w, i32_w]
                  rfl
                refine pure_ (i := 6) (N := some 23) (v := undef) (a' := ?_) #[true, true, true, true, true, true, true, false, false, false, false, false, false, false, false, false, false, false] rfl rfl (any_of HT_.out (by kernel_rfl)) (fun _ _ _ h => h) (Or.inr ⟨by rfl, rfl⟩) ?_ ?_
                rotate_left
                · simp only [Act.put, List.setIfInBounds_toArray, List.set_cons_zero, List.set_cons_succ, i64_w, i32_w]
                  rfl
                refine pure_ (i := 7) (N := some 24) (v := undef) (a' := ?_) #[true, true, true, true, true, true, true, true, false, false, false, false, false, false, false, false, false, false] rfl rfl (any_of HT_.out (by kernel_rfl)) (fun _ _ _ h => h) (Or.inr ⟨by rfl, rfl⟩) ?_ ?_
                rotate_left
                · simp only [Act.put, List.setIfInBounds_toArray, List.set_cons_zero, List.set_cons_succ, i64_w, i32_w]
                  rfl
                refine pure_ (i := 8) (N := some 25) (v := undef) (a' := ?_) #[true, true, true, true, true, true, true, true, true, false, false, false, false, false, false, false, false, false] rfl rfl (any_of HT_.out (by kernel_rfl)) (fun _ _ _ h => h) (Or.inr ⟨by rfl, rfl⟩) ?_ ?_
                rotate_left
                · simp only [Act.put, List.setIfInBounds_toArray, List.set_cons_zero, List.set_cons_succ, i64_w, i32_w]
                  rfl
                refine pure_ (i := 9) (N := some 26) (v := undef) (a' := ?_) #[true, true, true, true, true, true, true, true, true, true, false, false, false, false, false, false, false, false] rfl rfl (any_of HT_.out (by kernel_rfl)) (fun _ _ _ h => h) (Or.inr ⟨by rfl, rfl⟩) ?_ ?_
                rotate_left
                · simp only [Act.put, List.setIfInBounds_toArray, List.set_cons_zero, List.set_cons_succ, i64_w, i32_w]
                  rfl
                refine pure_ (i := 10) (N := some 27) (v := undef) (a' := ?_) #[true, true, true, true, true, true, true, true, true, true, true, false, false, false, false, false, false, false] rfl rfl (any_of HT_.out (by kernel_rfl)) (fun _ _ _ h => h) (Or.inr ⟨by rfl, rfl⟩) ?_ ?_
                rotate_left
                · simp only [Act.put, List.setIfInBounds_toArray, List.set_cons_zero, List.set_cons_succ, i64_w, i32_w]
                  rfl
                refine pure_ (i := 11) (N := some 28) (v := undef) (a' := ?_) #[true, true, true, true, true, true, true, true, true, true, true, true, false, false, false, false, false, false] rfl rfl (any_of HT_.out (by kernel_rfl)) (fun _ _ _ h => h) (Or.inr ⟨by rfl, rfl⟩) ?_ ?_
                rotate_left
                · simp only [Act.put, List.setIfInBounds_toArray, List.set_cons_zero, List.set_cons_succ, i64_w, i32_w]
                  rfl
                refine pure_ (i := 12) (N := some 29) (v := undef) (a' := ?_) #[true, true, true, true, true, true, true, true, true, true, true, true, true, false, false, false, false, false] rfl rfl (any_of HT_.out (by kernel_rfl)) (fun _ _ _ h => h) (Or.inr ⟨by rfl, rfl⟩) ?_ ?_
                rotate_left
                · simp only [Act.put, List.setIfInBounds_toArray, List.set_cons_zero, List.set_cons_succ, i64_w, i32_w]
                  rfl
                refine pure_ (i := 13) (N := some 30) (v := undef) (a' := ?_) #[true, true, true, true, true, true, true, true, true, true, true, true, true, true, false, false, false, false] rfl rfl (any_of HT_.out (by kernel_rfl)) (fun _ _ _ h => h) (Or.inr ⟨by rfl, rfl⟩) ?_ ?_
                rotate_left
                · simp only [Act.put, List.setIfInBounds_toArray, List.set_cons_zero, List.set_cons_succ, i64_w, i32_w]
                  rfl
                refine pure_ (i := 14) (N := some 31) (v := undef) (a' := ?_) #[true, true, true, true, true, true, true, true, true, true, true, true, true, true, true, false, false, false] rfl rfl (any_of HT_.out (by kernel_rfl)) (fun _ _ _ h => h) (Or.inr ⟨by rfl, rfl⟩) ?_ ?_
                rotate_left
                · simp only [Act.put, List.setIfInBounds_toArray, List.set_cons_zero, List.set_cons_succ, i64_w, i32_w]
                  rfl
                refine pure_ (i := 15) (N := some 32) (v := undef) (a' := ?_) #[true, true, true, true, true, true, true, true, true, true, true, true, true, true, true, true, false, false] rfl rfl (any_of HT_.out (by kernel_rfl)) (fun _ _ _ h => h) (Or.inr ⟨by rfl, rfl⟩) ?_ ?_
                rotate_left
                · simp only [Act.put, List.setIfInBounds_toArray, List.set_cons_zero, List.set_cons_succ, i64_w, i32_w]
                  rfl
                refine pure_ (i := 16) (N := some 33) (v := undef) (a' := ?_) #[true, true, true, true, true, true, true, true, true, true, true, true, true, true, true, true, true, false] rfl rfl (any_of HT_.out (by kernel_rfl)) (fun _ _ _ h => h) (Or.inr ⟨by rfl, rfl⟩) ?_ ?_
                rotate_left
                · simp only [Act.put, List.setIfInBounds_toArray, List.set_cons_zero, List.set_cons_succ, i64_w, i32_w]
                  rfl
                refine pure_ (i := 17) (N := some 34) (v := ?_) (a' := ?_) #[true, true, true, true, true, true, true, true, true, true, true, true, true, true, true, true, true, true] rfl rfl (any_of HT_.out (by kernel_rfl)) (fun _ _ _ h => h) (Or.inl ⟨by rfl, ?_⟩) ?_ ?_
                rotate_left
                · intro w'
                  go_simp
                  with_reducible rfl
                rotate_left
                · simp only [Act.put, List.setIfInBounds_toArray, List.set_cons_zero, List.set_cons_succ, i64_w, i32_w]
                  rfl
                refine done_ (done_of HT_.out (by kernel_rfl)) ?_
                try go_wp2
                go_ret
                exact ⟨by first | rfl | (simp [errW_none, errW_some] <;> rfl) | (simp [*, errW_none, errW_some] <;> rfl), by repeat (first | (with_reducible first | exact HB.out | apply below_alloc | apply pw_below_drewN | apply below_drew1 | refine below_set ?_ GE221.out) | exact HB.out)⟩
            · rw [if_neg c7] at H
              exact absurd H (by simp)
          · rw [if_neg c6] at H
            exact absurd H (by simp)
        · rw [if_neg c5] at H
          have c5b0 : decide (x12_1 < (l1.length : Int)) = false := decide_eq_false c5
          clear c5
          obtain rfl := Option.some.inj H
          go_wp2
          go_ret
          exact ⟨by first | rfl | (simp [errW_none, errW_some] <;> rfl) | (simp [*, errW_none, errW_some] <;> rfl), by repeat (first | (with_reducible first | exact HB.out | apply below_alloc | apply pw_below_drewN | apply below_drew1) | exact HB.out)⟩
  · replace c4 := Bool.eq_false_iff.mpr c4
    subst c4
    have H1 : (some false) = some r := by rw [if_neg (show ¬ (false = true) by decide)] at H; exact H
    clear H
    have H := H1
    clear H1
    obtain rfl := Option.some.inj H
    go_enter Try.func82, Try.ntmps82
    go_wp2_with (first | ((with_reducible refine gate_callee (f := 39) rfl ?_); refine goesL_ (some 8) rfl rfl Try.func39 (by kernel_rfl) rfl #[.int .i64 a0, .int .i64 3, .int .i64 60] rfl (by (try simp only [List.map_toArray, List.map_cons, List.map_nil]); first | done | rfl | (simp only [List.length_drop, List.length_take]; rfl)) ?_; (with_reducible refine (impl_within.calls a0 3 60 false _ A3.out).mono ?_); rintro e w' ⟨rfl, ⟨nd, rfl⟩⟩; refine ⟨_, rfl, ?_⟩))
    go_ret
    exact ⟨by first | rfl | (simp [errW_none, errW_some] <;> rfl) | (simp [*, errW_none, errW_some] <;> rfl), by repeat (first | (with_reducible first | exact HB.out | apply below_alloc | apply pw_below_drewN | apply below_drew1) | exact HB.out)⟩

end Go.Proofs.Ytdeenfpcmaadcaa.Pr

-- Written by a program for this claim.
namespace Go.Proofs.Ytdeenfpcmaadcaa.Pr
open Go.RowKit Go.Proofs.YtdeenfpcmaadcaaW.PrintWords Go.Proofs.YtdeenfpcmaadcaaW.PrintLast Go.Proofs.YtdeenfpcmaadcaaW.PrintMore
attribute [local go_sem] max2_int min2_int max_two min_two max_three min_three max_four min_four   -- for this text's walks alone
set_option linter.unusedVariables false
set_option linter.unusedSimpArgs false

/-! ### impl_isSet: function 61 -/
def impl_isSet.f (k : Nat) (a0 : Int) (l1 : List (S47)) : Option (Bool) := (impl_isCircle.f a0).bind fun t225 => (if t225 = true then ((impl_AreChords.f k a0 l1).bind fun t226 => (some t226)) else (some false))
theorem impl_isSet.mono : ∀ a0 a1 k, LeO (impl_isSet.f k a0 a1) (impl_isSet.f (k + 1) a0 a1) := by
  intro a0 a1 k
  unfold impl_isSet.f
  repeat' first
      | (with_reducible exact impl_AreChords.mono _ _ _)
      | (with_reducible exact LeO.refl _)
      | (with_reducible exact LeO.none _)
      | (with_reducible refine LeO.ite ?_ ?_)
      | (with_reducible refine LeO.bind ?_ (fun _ => ?_))
      | exact impl_AreChords.mono _ _ _
      | exact LeO.none _
      | refine LeO.ite ?_ ?_
      | refine LeO.bind ?_ (fun _ => ?_)
set_option maxHeartbeats 8000000 in
set_option maxRecDepth 100000 in
theorem impl_isSet.calls (k : Nat) (a0 : Int) (A1 : Option Addr) (c1 : Nat) (l1 : List (S47)) (r : Bool) (w : World) (hr1 : Kd.C k47 w A1 l1.length l1) (hc1 : l1.length ≤ c1) (h : impl_isSet.f k a0 l1 = some r) :
    Calls Try.prog 61 #[.int .i64 a0, .slice A1 l1.length c1] w fun e w' => e = .returned (.bool r) ∧ Below w.heap.size w w' := by
  have HR1 := Aside0.mk hr1
  have HC1 := Aside0.mk hc1
  clear hr1 hc1
  have HB := Aside0.mk (Below.refl w.heap.size w)
  have H : ((impl_isCircle.f a0).bind fun t225 => (if t225 = true then ((impl_AreChords.f k a0 l1).bind fun t226 => (some t226)) else (some false))) = some r := h
  clear h
  replace H := Option.bind_eq_some_iff.mp H
  obtain ⟨t225, A30, H⟩ := H
  replace H : (if t225 = true then ((impl_AreChords.f k a0 l1).bind fun t226 => (some t226)) else (some false)) = some r := H
  have A3 := Aside0.mk A30
  clear A30
  by_cases c4 : t225 = true
  · subst c4
    have H1 : ((impl_AreChords.f k a0 l1).bind fun t226 => (some t226)) = some r := by rw [if_pos rfl] at H; exact H
    clear H
    have H := H1
    clear H1
    replace H := Option.bind_eq_some_iff.mp H
    obtain ⟨t226, A50, H⟩ := H
    replace H : (some t226) = some r := H
    have A5 := Aside0.mk A50
    clear A50
    obtain rfl := Option.some.inj H
    go_enter Try.func61, Try.ntmps61
    go_wp2_with (first | ((with_reducible refine gate_callee (f := 81) rfl ?_); refine goesL_ (some 6) rfl rfl Try.func81 (by kernel_rfl) rfl #[.int .i64 a0] rfl (by (try simp only [List.map_toArray, List.map_cons, List.map_nil]); first | done | rfl | (simp only [List.length_drop, List.length_take]; rfl)) ?_; (with_reducible refine (impl_isCircle.calls a0 true _ A3.out).mono ?_); rintro e w' ⟨rfl, ⟨nd, rfl⟩⟩; refine ⟨_, rfl, ?_⟩) | (go_at_call 82; (with_reducible refine (impl_AreChords.calls k a0 _ _ l1 t226 _ ?side1 ?side2 A5.out).mono ?_); (case side1 => repeat (first | exact HR1.out | (with_reducible refine Kd.C_alloc ?_ _) | (with_reducible refine Kd.C_drewN ?_ _) | (with_reducible refine Kd.C_drew ?_))); (case side2 => exact HC1.out); rintro e w6 ⟨rfl, hb⟩; have n0_ := Aside0.mk (below_step (by repeat (first | (with_reducible first | exact HB.out | apply below_alloc | apply pw_below_drewN | apply below_drew1) | exact HB.out)) hb); clear HB; have HB := n0_; clear n0_; (try clear hb); (try clear hb2); (try clear hk); (try clear hi)))
    go_ret
    exact ⟨by first | rfl | (simp [errW_none, errW_some] <;> rfl) | (simp [*, errW_none, errW_some] <;> rfl), by repeat (first | (with_reducible first | exact HB.out | apply below_alloc | apply pw_below_drewN | apply below_drew1) | exact HB.out)⟩
  · replace c4 := Bool.eq_false_iff.mpr c4
    subst c4
    have H1 : (some false) = some r := by rw [if_neg (show ¬ (false = true) by decide)] at H; exact H
    clear H
    have H := H1
    clear H1
    obtain rfl := Option.some.inj H
    go_enter Try.func61, Try.ntmps61
    go_wp2_with (first | ((with_reducible refine gate_callee (f := 81) rfl ?_); refine goesL_ (some 6) rfl rfl Try.func81 (by kernel_rfl) rfl #[.int .i64 a0] rfl (by (try simp only [List.map_toArray, List.map_cons, List.map_nil]); first | done | rfl | (simp only [List.length_drop, List.length_take]; rfl)) ?_; (with_reducible refine (impl_isCircle.calls a0 false _ A3.out).mono ?_); rintro e w' ⟨rfl, ⟨nd, rfl⟩⟩; refine ⟨_, rfl, ?_⟩))
    go_ret
    exact ⟨by first | rfl | (simp [errW_none, errW_some] <;> rfl) | (simp [*, errW_none, errW_some] <;> rfl), by repeat (first | (with_reducible first | exact HB.out | apply below_alloc | apply pw_below_drewN | apply below_drew1) | exact HB.out)⟩

end Go.Proofs.Ytdeenfpcmaadcaa.Pr

-- Written by a program for this claim.
namespace Go.Proofs.Ytdeenfpcmaadcaa.Pr
open Go.RowKit Go.Proofs.YtdeenfpcmaadcaaW.PrintWords Go.Proofs.YtdeenfpcmaadcaaW.PrintLast Go.Proofs.YtdeenfpcmaadcaaW.PrintMore
attribute [local go_sem] max2_int min2_int max_two min_two max_three min_three max_four min_four   -- for this text's walks alone
set_option linter.unusedVariables false
set_option linter.unusedSimpArgs false

/-! ### impl_crossed: function 83 -/
def impl_crossed.l0 : Nat → Int → List (S47) → Int → Int → Int → Int → Option (Int)
  | 0, _, _, _, _, _, _ => none
  | k + 1, x5, x8, x9, x10, x228000, x228001 => if x10 < x9 then (if 0 ≤ x10 then (if x10 < (x8.length : Int) then ((impl_crossing.f x228000 x228001 ((rd_T47 x8 x10).f0) ((rd_T47 x8 x10).f1)).bind fun t230 => (if t230 = true then (impl_crossed.l0 k (wrap64 (x5 + 1)) x8 x9 (wrap64 (x10 + 1)) x228000 x228001) else (impl_crossed.l0 k x5 x8 x9 (wrap64 (x10 + 1)) x228000 x228001))) else (none)) else (none)) else (some x5)
def impl_crossed.f (k : Nat) (l0 : List (S47)) (a1_0 : Int) (a1_1 : Int) : Option (Int) := impl_crossed.l0 k 0 l0 (l0.length : Int) 0 a1_0 a1_1
theorem impl_crossed.mono_l : ∀ k, (∀ y0 y1 y2 y3 y4 y5, LeO (impl_crossed.l0 k y0 y1 y2 y3 y4 y5) (impl_crossed.l0 (k + 1) y0 y1 y2 y3 y4 y5))
  | 0 => fun _ _ _ _ _ _ r h => by simp [impl_crossed.l0] at h
  | k + 1 => by
    have ih0 := impl_crossed.mono_l k
    · intro y0 y1 y2 y3 y4 y5
      unfold impl_crossed.l0
      repeat' first
      | (with_reducible exact ih0 _ _ _ _ _ _)
      | (with_reducible exact LeO.refl _)
      | (with_reducible exact LeO.none _)
      | (with_reducible refine LeO.ite ?_ ?_)
      | (with_reducible refine LeO.bind ?_ (fun _ => ?_))
      | exact ih0 _ _ _ _ _ _
      | exact LeO.none _
      | refine LeO.ite ?_ ?_
      | refine LeO.bind ?_ (fun _ => ?_)
theorem impl_crossed.mono : ∀ a0 a1 a2 k, LeO (impl_crossed.f k a0 a1 a2) (impl_crossed.f (k + 1) a0 a1 a2) := by
  intro a0 a1 a2 k
  have ih0 := impl_crossed.mono_l k
  unfold impl_crossed.f
  repeat' first
      | (with_reducible exact ih0 _ _ _ _ _ _)
      | (with_reducible exact LeO.refl _)
      | (with_reducible exact LeO.none _)
      | (with_reducible refine LeO.ite ?_ ?_)
      | (with_reducible refine LeO.bind ?_ (fun _ => ?_))
      | exact ih0 _ _ _ _ _ _
      | exact LeO.none _
      | refine LeO.ite ?_ ?_
      | refine LeO.bind ?_ (fun _ => ?_)
set_option maxHeartbeats 8000000 in
set_option maxRecDepth 100000 in
theorem impl_crossed.calls (k : Nat) (A0 : Option Addr) (c0 : Nat) (l0 : List (S47)) (a1_0 : Int) (a1_1 : Int) (r : Int) (w : World) (hr0 : Kd.C k47 w A0 l0.length l0) (hc0 : l0.length ≤ c0) (h : impl_crossed.f k l0 a1_0 a1_1 = some r) :
    Calls Try.prog 83 #[.slice A0 l0.length c0, .agg #[.int .i64 a1_0, .int .i64 a1_1]] w fun e w' => e = .returned (.int .i64 r) ∧ Below w.heap.size w w' := by
  have hu47 := Try.underlying47
  have HR0 := Aside0.mk hr0
  have HC0 := Aside0.mk hc0
  clear hr0 hc0
  have HB := Aside0.mk (Below.refl w.heap.size w)
  have H : (impl_crossed.l0 k 0 l0 (l0.length : Int) 0 a1_0 a1_1) = some r := h
  clear h
  have H' := Aside0.mk H
  clear H
  go_enter Try.func83, Try.ntmps83
  go_wp2_with (first | ((with_reducible refine gate_dst (N := 3) rfl ?_); refine box_event ?hg (N := 3) ?hd (cs := #[.int .i64 a1_0, .int .i64 a1_1]) (t := 47) ?hr ?_; (case hd => rfl); (case hg => rfl); (case hr => first | (go_simp; done) | (go_simp; rfl)); intro gb227 hg w3 hbox hb; have n0_ := Aside0.mk (below_step (by repeat (first | (with_reducible first | exact HB.out | apply below_alloc | apply pw_below_drewN | apply below_drew1) | exact HB.out)) hb); have n1_ := Aside0.mk (hbox); have n2_ := Aside0.mk ((by rw [hg]; exact (below_size (by repeat (first | (with_reducible first | exact HB.out | apply below_alloc | apply pw_below_drewN | apply below_drew1) | exact HB.out))) : w.heap.size ≤ gb227)); have n3_ := Aside0.mk ((by rw [hg]; exact (below_size (by repeat (first | (with_reducible first | exact HB.out | apply below_alloc | apply pw_below_drewN | apply below_drew1) | exact HB.out))) : w.heap.size ≤ gb227)); clear HB; have HB := n0_; have BK227 := n1_; have GW227 := n2_; have GE227 := n3_; clear n0_ n1_ n2_ n3_; clear hb hbox hg))
  go_loopg [5, 10] k (fun kq v5 v10 w' => ∃ (x5_1 : Int) (x10_1 : Int), v5 = .int .i64 x5_1 ∧ v10 = .int .i64 x10_1 ∧ Aside0 (impl_crossed.l0 kq x5_1 l0 (l0.length : Int) x10_1 a1_0 a1_1 = some r) ∧ Aside0 (kq ≤ k) ∧ Aside0 (w'.heap[gb227]? = some (.cells #[.int .i64 a1_0, .int .i64 a1_1] 47 (0, 0))) ∧ Aside0 (Below w.heap.size w w'))
  case atStart => exact ⟨(0), (0), (by first | rfl | (simp; done) | (simp [*]; done)), (by first | rfl | (simp; done) | (simp [*]; done)), H', ⟨Nat.le_refl _⟩, ⟨by (with_reducible repeat (first | refine blk_drewN ?_ _ | refine blk_drew ?_ | refine blk_alloc ?_ _)); exact BK227.out⟩, ⟨by repeat (first | (with_reducible first | exact HB.out | apply below_alloc | apply pw_below_drewN | apply below_drew1 | refine below_set ?_ GE227.out) | exact HB.out)⟩⟩
  case round =>
    clear H'
    try clear p2
    obtain ⟨x5_1, x10_1, rfl, rfl, HA, HK1, BK227, HB⟩ := hrel
    cases gk with
    | zero => exact absurd HA.out (by simp [impl_crossed.l0])
    | succ k1 =>
      have H := HA.out
      clear HA
      simp only [impl_crossed.l0] at H
      by_cases c4 : x10_1 < (l0.length : Int)
      · rw [if_pos c4] at H
        have c4b0 : decide (x10_1 < (l0.length : Int)) = true := decide_eq_true c4
        clear c4
        by_cases c5 : 0 ≤ x10_1
        · rw [if_pos c5] at H
          have c5b0 : decide (0 ≤ x10_1) = true := decide_eq_true c5
          clear c5
          by_cases c6 : x10_1 < (l0.length : Int)
          · rw [if_pos c6] at H
            have c6b0 : decide (x10_1 < (l0.length : Int)) = true := decide_eq_true c6
            clear c6
            replace H := Option.bind_eq_some_iff.mp H
            obtain ⟨t230, A70, H⟩ := H
            replace H : (if t230 = true then (impl_crossed.l0 k1 (wrap64 (x5_1 + 1)) l0 (l0.length : Int) (wrap64 (x10_1 + 1)) a1_0 a1_1) else (impl_crossed.l0 k1 x5_1 l0 (l0.length : Int) (wrap64 (x10_1 + 1)) a1_0 a1_1)) = some r := H
            have A7 := Aside0.mk A70
            clear A70
            by_cases c8 : t230 = true
            · subst c8
              have H1 : (impl_crossed.l0 k1 (wrap64 (x5_1 + 1)) l0 (l0.length : Int) (wrap64 (x10_1 + 1)) a1_0 a1_1) = some r := by rw [if_pos rfl] at H; exact H
              clear H
              have H := H1
              clear H1
              have H' := Aside0.mk H
              clear H
              have p228 : 0 ≤ (x10_1 : Int) := of_decide_eq_true (by first | (with_reducible assumption) | assumption)
              have q228 : x10_1 < (l0.length : Int) := of_decide_eq_true (by first | (with_reducible assumption) | assumption)
              obtain ⟨ad228, e228, hx228_0, hx228_1⟩ := at_T47 HR0.out x10_1 p228 q228
              cases e228
              replace hx228_0 := (HB.out.cell (World.block_lt_of_cell? w _ hx228_0)).trans hx228_0
              replace hx228_1 := (HB.out.cell (World.block_lt_of_cell? w _ hx228_1)).trans hx228_1
              replace p228 := eq_true p228
              replace q228 := eq_true q228
              go_wp2_with (first | ((with_reducible refine gate_dst (N := 7) rfl ?_); refine box_event ?hg (N := 7) ?hd (cs := #[.int .i64 0, .int .i64 0]) (t := 47) ?hr ?_; (case hd => rfl); (case hg => rfl); (case hr => first | (go_simp; done) | (go_simp; rfl)); intro gb229 hg w9 hbox hb; have n0_ := Aside0.mk (blk_below (g := gb227) (o := .cells #[.int .i64 a1_0, .int .i64 a1_1] 47 (0, 0)) (by (with_reducible repeat (first | refine blk_drewN ?_ _ | refine blk_drew ?_ | refine blk_alloc ?_ _)); exact BK227.out) hb); have n1_ := Aside0.mk (below_step (by repeat (first | (with_reducible first | exact HB.out | apply below_alloc | apply pw_below_drewN | apply below_drew1 | refine below_set ?_ GE227.out) | exact HB.out)) hb); have n2_ := Aside0.mk (hbox); have n3_ := Aside0.mk ((by rw [hg]; exact (below_size (by repeat (first | (with_reducible first | exact HB.out | apply below_alloc | apply pw_below_drewN | apply below_drew1 | refine below_set ?_ GE227.out) | exact HB.out))) : w.heap.size ≤ gb229)); have n4_ := Aside0.mk ((by rw [hg]; exact (below_size (by repeat (first | (with_reducible first | exact HB.out | apply below_alloc | apply pw_below_drewN | apply below_drew1 | refine below_set ?_ GE227.out) | exact HB.out))) : w.heap.size ≤ gb229)); have n5_ := Aside0.mk ((by rw [hg]; exact Nat.ne_of_lt (blk_lt (g := gb227) (o := .cells #[.int .i64 a1_0, .int .i64 a1_1] 47 (0, 0)) (by (with_reducible repeat (first | refine blk_drewN ?_ _ | refine blk_drew ?_ | refine blk_alloc ?_ _)); exact BK227.out)) : gb227 ≠ gb229)); have n6_ := Aside0.mk ((by rw [hg]; exact Nat.ne_of_gt (blk_lt (g := gb227) (o := .cells #[.int .i64 a1_0, .int .i64 a1_1] 47 (0, 0)) (by (with_reducible repeat (first | refine blk_drewN ?_ _ | refine blk_drew ?_ | refine blk_alloc ?_ _)); exact BK227.out)) : gb229 ≠ gb227)); clear BK227; clear HB; have BK227 := n0_; have HB := n1_; have BK229 := n2_; have GW229 := n3_; have GE229 := n4_; have NB227_229 := n5_; have NB229_227 := n6_; clear n0_ n1_ n2_ n3_ n4_ n5_ n6_; clear hb hbox hg; have hnb10 := NB229_227.out; have hnc10 := NB227_229.out; have hcz11_0 : w9.cell? ⟨gb229, 0, none⟩ = some (.int .i64 0) := (blk_cell BK229.out 0).trans rfl; have hcz11_1 : w9.cell? ⟨gb229, 1, none⟩ = some (.int .i64 0) := (blk_cell BK229.out 1).trans rfl; have hfz11_0 := blk_frozen BK229.out 0; have hfz11_1 := blk_frozen BK229.out 1; have hcz12_0 : w9.cell? ⟨gb227, 0, none⟩ = some (.int .i64 a1_0) := (blk_cell BK227.out 0).trans rfl; have hcz12_1 : w9.cell? ⟨gb227, 1, none⟩ = some (.int .i64 a1_1) := (blk_cell BK227.out 1).trans rfl; have hfz12_0 := blk_frozen BK227.out 0; have hfz12_1 := blk_frozen BK227.out 1) | ((with_reducible refine gate_callee (f := 94) rfl ?_); refine goesL_ (some 16) rfl rfl Try.func94 (by kernel_rfl) rfl #[.agg #[.int .i64 a1_0, .int .i64 a1_1], .agg #[.int .i64 ((rd_T47 l0 x10_1).f0), .int .i64 ((rd_T47 l0 x10_1).f1)]] rfl (by (try simp only [List.map_toArray, List.map_cons, List.map_nil]); first | done | rfl | (simp only [List.length_drop, List.length_take]; rfl)) ?_; (with_reducible refine (impl_crossing.calls a1_0 a1_1 ((rd_T47 l0 x10_1).f0) ((rd_T47 l0 x10_1).f1) true _ A7.out).mono ?_); rintro e w13 ⟨rfl, hb⟩; refine ⟨_, rfl, ?_⟩; have n0_ := Aside0.mk (blk_below (g := gb227) (o := .cells #[.int .i64 a1_0, .int .i64 a1_1] 47 (0, 0)) (by (with_reducible repeat (first | refine blk_drewN ?_ _ | refine blk_drew ?_ | refine blk_alloc ?_ _)); refine blk_far ?_ NB227_229.out _; (with_reducible repeat (first | refine blk_drewN ?_ _ | refine blk_drew ?_ | refine blk_alloc ?_ _)); refine blk_far ?_ NB227_229.out _; (with_reducible repeat (first | refine blk_drewN ?_ _ | refine blk_drew ?_ | refine blk_alloc ?_ _)); exact BK227.out) hb); have n1_ := Aside0.mk (blk_below (g := gb229) (o := .cells #[.int .i64 ((rd_T47 l0 x10_1).f0), .int .i64 ((rd_T47 l0 x10_1).f1)] 47 (0, 0)) (by (with_reducible repeat (first | refine blk_drewN ?_ _ | refine blk_drew ?_ | refine blk_alloc ?_ _)); refine blk_put (cs := #[.int .i64 ((rd_T47 l0 x10_1).f0), .int .i64 0]) ?_ 1 _ rfl; (with_reducible repeat (first | refine blk_drewN ?_ _ | refine blk_drew ?_ | refine blk_alloc ?_ _)); refine blk_put (cs := #[.int .i64 0, .int .i64 0]) ?_ 0 _ rfl; (with_reducible repeat (first | refine blk_drewN ?_ _ | refine blk_drew ?_ | refine blk_alloc ?_ _)); exact BK229.out) hb); have n2_ := Aside0.mk (below_step (by repeat (first | (with_reducible first | exact HB.out | apply below_alloc | apply pw_below_drewN | apply below_drew1 | refine below_set ?_ GE227.out | refine below_set ?_ GE229.out) | exact HB.out)) hb); clear BK227; clear BK229; clear HB; have BK227 := n0_; have BK229 := n1_; have HB := n2_; clear n0_ n1_ n2_; (try clear hb); (try clear hb2); (try clear hk); (try clear hi)))
              go_roundg k1
              case measure => have := HK1.out; omega
              case rel => exact ⟨(wrap64 (x5_1 + 1)), (wrap64 (x10_1 + 1)), (by first | rfl | (simp; done) | (simp [*]; done)), (by first | rfl | (simp; done) | (simp [*]; done)), H', ⟨by have := HK1.out; omega⟩, ⟨by (with_reducible repeat (first | refine blk_drewN ?_ _ | refine blk_drew ?_ | refine blk_alloc ?_ _)); exact BK227.out⟩, ⟨by repeat (first | (with_reducible first | exact HB.out | apply below_alloc | apply pw_below_drewN | apply below_drew1 | refine below_set ?_ GE227.out | refine below_set ?_ GE229.out) | exact HB.out)⟩⟩
            · replace c8 := Bool.eq_false_iff.mpr c8
              subst c8
              have H1 : (impl_crossed.l0 k1 x5_1 l0 (l0.length : Int) (wrap64 (x10_1 + 1)) a1_0 a1_1) = some r := by rw [if_neg (show ¬ (false = true) by decide)] at H; exact H
              clear H
              have H := H1
              clear H1
              have H' := Aside0.mk H
              clear H
              have p228 : 0 ≤ (x10_1 : Int) := of_decide_eq_true (by first | (with_reducible assumption) | assumption)
              have q228 : x10_1 < (l0.length : Int) := of_decide_eq_true (by first | (with_reducible assumption) | assumption)
              obtain ⟨ad228, e228, hx228_0, hx228_1⟩ := at_T47 HR0.out x10_1 p228 q228
              cases e228
              replace hx228_0 := (HB.out.cell (World.block_lt_of_cell? w _ hx228_0)).trans hx228_0
              replace hx228_1 := (HB.out.cell (World.block_lt_of_cell? w _ hx228_1)).trans hx228_1
              replace p228 := eq_true p228
              replace q228 := eq_true q228
              go_wp2_with (first | ((with_reducible refine gate_dst (N := 7) rfl ?_); refine box_event ?hg (N := 7) ?hd (cs := #[.int .i64 0, .int .i64 0]) (t := 47) ?hr ?_; (case hd => rfl); (case hg => rfl); (case hr => first | (go_simp; done) | (go_simp; rfl)); intro gb229 hg w14 hbox hb; have n0_ := Aside0.mk (blk_below (g := gb227) (o := .cells #[.int .i64 a1_0, .int .i64 a1_1] 47 (0, 0)) (by (with_reducible repeat (first | refine blk_drewN ?_ _ | refine blk_drew ?_ | refine blk_alloc ?_ _)); exact BK227.out) hb); have n1_ := Aside0.mk (below_step (by repeat (first | (with_reducible first | exact HB.out | apply below_alloc | apply pw_below_drewN | apply below_drew1 | refine below_set ?_ GE227.out) | exact HB.out)) hb); have n2_ := Aside0.mk (hbox); have n3_ := Aside0.mk ((by rw [hg]; exact (below_size (by repeat (first | (with_reducible first | exact HB.out | apply below_alloc | apply pw_below_drewN | apply below_drew1 | refine below_set ?_ GE227.out) | exact HB.out))) : w.heap.size ≤ gb229)); have n4_ := Aside0.mk ((by rw [hg]; exact (below_size (by repeat (first | (with_reducible first | exact HB.out | apply below_alloc | apply pw_below_drewN | apply below_drew1 | refine below_set ?_ GE227.out) | exact HB.out))) : w.heap.size ≤ gb229)); have n5_ := Aside0.mk ((by rw [hg]; exact Nat.ne_of_lt (blk_lt (g := gb227) (o := .cells #[.int .i64 a1_0, .int .i64 a1_1] 47 (0, 0)) (by (with_reducible repeat (first | refine blk_drewN ?_ _ | refine blk_drew ?_ | refine blk_alloc ?_ _)); exact BK227.out)) : gb227 ≠ gb229)); have n6_ := Aside0.mk ((by rw [hg]; exact Nat.ne_of_gt (blk_lt (g := gb227) (o := .cells #[.int .i64 a1_0, .int .i64 a1_1] 47 (0, 0)) (by (with_reducible repeat (first | refine blk_drewN ?_ _ | refine blk_drew ?_ | refine blk_alloc ?_ _)); exact BK227.out)) : gb229 ≠ gb227)); clear BK227; clear HB; have BK227 := n0_; have HB := n1_; have BK229 := n2_; have GW229 := n3_; have GE229 := n4_; have NB227_229 := n5_; have NB229_227 := n6_; clear n0_ n1_ n2_ n3_ n4_ n5_ n6_; clear hb hbox hg; have hnb15 := NB229_227.out; have hnc15 := NB227_229.out; have hcz16_0 : w14.cell? ⟨gb229, 0, none⟩ = some (.int .i64 0) := (blk_cell BK229.out 0).trans rfl; have hcz16_1 : w14.cell? ⟨gb229, 1, none⟩ = some (.int .i64 0) := (blk_cell BK229.out 1).trans rfl; have hfz16_0 := blk_frozen BK229.out 0; have hfz16_1 := blk_frozen BK229.out 1; have hcz17_0 : w14.cell? ⟨gb227, 0, none⟩ = some (.int .i64 a1_0) := (blk_cell BK227.out 0).trans rfl; have hcz17_1 : w14.cell? ⟨gb227, 1, none⟩ = some (.int .i64 a1_1) := (blk_cell BK227.out 1).trans rfl; have hfz17_0 := blk_frozen BK227.out 0; have hfz17_1 := blk_frozen BK227.out 1) | ((with_reducible refine gate_callee (f := 94) rfl ?_); refine goesL_ (some 16) rfl rfl Try.func94 (by kernel_rfl) rfl #[.agg #[.int .i64 a1_0, .int .i64 a1_1], .agg #[.int .i64 ((rd_T47 l0 x10_1).f0), .int .i64 ((rd_T47 l0 x10_1).f1)]] rfl (by (try simp only [List.map_toArray, List.map_cons, List.map_nil]); first | done | rfl | (simp only [List.length_drop, List.length_take]; rfl)) ?_; (with_reducible refine (impl_crossing.calls a1_0 a1_1 ((rd_T47 l0 x10_1).f0) ((rd_T47 l0 x10_1).f1) false _ A7.out).mono ?_); rintro e w18 ⟨rfl, hb⟩; refine ⟨_, rfl, ?_⟩; have n0_ := Aside0.mk (blk_below (g := gb227) (o := .cells #[.int .i64 a1_0, .int .i64 a1_1] 47 (0, 0)) (by (with_reducible repeat (first | refine blk_drewN ?_ _ | refine blk_drew ?_ | refine blk_alloc ?_ _)); refine blk_far ?_ NB227_229.out _; (with_reducible repeat (first | refine blk_drewN ?_ _ | refine blk_drew ?_ | refine blk_alloc ?_ _)); refine blk_far ?_ NB227_229.out _; (with_reducible repeat (first | refine blk_drewN ?_ _ | refine blk_drew ?_ | refine blk_alloc ?_ _)); exact BK227.out) hb); have n1_ := Aside0.mk (blk_below (g := gb229) (o := .cells #[.int .i64 ((rd_T47 l0 x10_1).f0), .int .i64 ((rd_T47 l0 x10_1).f1)] 47 (0, 0)) (by (with_reducible repeat (first | refine blk_drewN ?_ _ | refine blk_drew ?_ | refine blk_alloc ?_ _)); refine blk_put (cs := #[.int .i64 ((rd_T47 l0 x10_1).f0), .int .i64 0]) ?_ 1 _ rfl; (with_reducible repeat (first | refine blk_drewN ?_ _ | refine blk_drew ?_ | refine blk_alloc ?_ _)); refine blk_put (cs := #[.int .i64 0, .int .i64 0]) ?_ 0 _ rfl; (with_reducible repeat (first | refine blk_drewN ?_ _ | refine blk_drew ?_ | refine blk_alloc ?_ _)); exact BK229.out) hb); have n2_ := Aside0.mk (below_step (by repeat (first | (with_reducible first | exact HB.out | apply below_alloc | apply pw_below_drewN | apply below_drew1 | refine below_set ?_ GE227.out | refine below_set ?_ GE229.out) | exact HB.out)) hb); clear BK227; clear BK229; clear HB; have BK227 := n0_; have BK229 := n1_; have HB := n2_; clear n0_ n1_ n2_; (try clear hb); (try clear hb2); (try clear hk); (try clear hi)))
              go_roundg k1
              case measure => have := HK1.out; omega
              case rel => exact ⟨(x5_1), (wrap64 (x10_1 + 1)), (by first | rfl | (simp; done) | (simp [*]; done)), (by first | rfl | (simp; done) | (simp [*]; done)), H', ⟨by have := HK1.out; omega⟩, ⟨by (with_reducible repeat (first | refine blk_drewN ?_ _ | refine blk_drew ?_ | refine blk_alloc ?_ _)); exact BK227.out⟩, ⟨by repeat (first | (with_reducible first | exact HB.out | apply below_alloc | apply pw_below_drewN | apply below_drew1 | refine below_set ?_ GE227.out | refine below_set ?_ GE229.out) | exact HB.out)⟩⟩
          · rw [if_neg c6] at H
            exact absurd H (by simp)
        · rw [if_neg c5] at H
          exact absurd H (by simp)
      · rw [if_neg c4] at H
        have c4b0 : decide (x10_1 < (l0.length : Int)) = false := decide_eq_false c4
        clear c4
        obtain rfl := Option.some.inj H
        go_wp2
        go_ret
        exact ⟨by first | rfl | (simp [errW_none, errW_some] <;> rfl) | (simp [*, errW_none, errW_some] <;> rfl), by repeat (first | (with_reducible first | exact HB.out | apply below_alloc | apply pw_below_drewN | apply below_drew1 | refine below_set ?_ GE227.out) | exact HB.out)⟩

end Go.Proofs.Ytdeenfpcmaadcaa.Pr

-- Written by a program for this claim.
namespace Go.Proofs.Ytdeenfpcmaadcaa.Pr
open Go.RowKit Go.Proofs.YtdeenfpcmaadcaaW.PrintWords Go.Proofs.YtdeenfpcmaadcaaW.PrintLast Go.Proofs.YtdeenfpcmaadcaaW.PrintMore
attribute [local go_sem] max2_int min2_int max_two min_two max_three min_three max_four min_four   -- for this text's walks alone
set_option linter.unusedVariables false
set_option linter.unusedSimpArgs false

/-! ### impl_crossings: function 62 -/
def impl_crossings.l0 : Nat → List (S47) → Int → List (S47) → Int → Int → Option (Int)
  | 0, _, _, _, _, _ => none
  | k + 1, x0, x3, x6, x7, x8 => if x8 < x7 then (if 0 ≤ x8 then (if x8 < (x6.length : Int) then (if x8 ≤ (x0.length : Int) then ((impl_crossed.f k (x0.take (x8 : Int).toNat) ((rd_T47 x6 x8).f0) ((rd_T47 x6 x8).f1)).bind fun t237 => (impl_crossings.l0 k x0 (wrap64 (x3 + t237)) x6 x7 (wrap64 (x8 + 1)))) else (none)) else (none)) else (none)) else (some x3)
def impl_crossings.f (k : Nat) (l0 : List (S47)) : Option (Int) := impl_crossings.l0 k l0 0 l0 (l0.length : Int) 0
theorem impl_crossings.mono_l : ∀ k, (∀ y0 y1 y2 y3 y4, LeO (impl_crossings.l0 k y0 y1 y2 y3 y4) (impl_crossings.l0 (k + 1) y0 y1 y2 y3 y4))
  | 0 => fun _ _ _ _ _ r h => by simp [impl_crossings.l0] at h
  | k + 1 => by
    have ih0 := impl_crossings.mono_l k
    · intro y0 y1 y2 y3 y4
      unfold impl_crossings.l0
      repeat' first
      | (with_reducible exact ih0 _ _ _ _ _)
      | (with_reducible exact impl_crossed.mono _ _ _ _)
      | (with_reducible exact LeO.refl _)
      | (with_reducible exact LeO.none _)
      | (with_reducible refine LeO.ite ?_ ?_)
      | (with_reducible refine LeO.bind ?_ (fun _ => ?_))
      | exact ih0 _ _ _ _ _
      | exact impl_crossed.mono _ _ _ _
      | exact LeO.none _
      | refine LeO.ite ?_ ?_
      | refine LeO.bind ?_ (fun _ => ?_)
theorem impl_crossings.mono : ∀ a0 k, LeO (impl_crossings.f k a0) (impl_crossings.f (k + 1) a0) := by
  intro a0 k
  have ih0 := impl_crossings.mono_l k
  unfold impl_crossings.f
  repeat' first
      | (with_reducible exact ih0 _ _ _ _ _)
      | (with_reducible exact impl_crossed.mono _ _ _ _)
      | (with_reducible exact LeO.refl _)
      | (with_reducible exact LeO.none _)
      | (with_reducible refine LeO.ite ?_ ?_)
      | (with_reducible refine LeO.bind ?_ (fun _ => ?_))
      | exact ih0 _ _ _ _ _
      | exact impl_crossed.mono _ _ _ _
      | exact LeO.none _
      | refine LeO.ite ?_ ?_
      | refine LeO.bind ?_ (fun _ => ?_)
def impl_crossings.T5 : Bool × List (List Nat × List Nat) := (true, [([], []), ([], []), ([], []), ([1, 2], [1, 2]), ([], []), ([3, 4], [3, 4]), ([0, 5], [0, 5]), ([6, 5, 0, 1, 2, 3, 4, 5, 6], [0, 6])])
def impl_crossings.B5 : List Nat := [0, 0, 0, 6, 0, 30, 63, 127]
theorem impl_crossings.tab5 : rtab .any (opsOf Try.f62 5) = impl_crossings.T5 := by kernel_rfl
theorem impl_crossings.bits5 : waitsOk impl_crossings.T5.2 impl_crossings.B5 = true := by kernel_rfl
set_option maxHeartbeats 8000000 in
set_option maxRecDepth 100000 in
theorem impl_crossings.calls (k : Nat) (A0 : Option Addr) (c0 : Nat) (l0 : List (S47)) (r : Int) (w : World) (hr0 : Kd.C k47 w A0 l0.length l0) (hc0 : l0.length ≤ c0) (h : impl_crossings.f k l0 = some r) :
    Calls Try.prog 62 #[.slice A0 l0.length c0] w fun e w' => e = .returned (.int .i64 r) ∧ Below w.heap.size w w' := by
  have hu47 := Try.underlying47
  have HR0 := Aside0.mk hr0
  have HC0 := Aside0.mk hc0
  clear hr0 hc0
  have HB := Aside0.mk (Below.refl w.heap.size w)
  have H : (impl_crossings.l0 k l0 0 l0 (l0.length : Int) 0) = some r := h
  clear h
  have H' := Aside0.mk H
  clear H
  go_enter Try.func62, Try.ntmps62
  go_wp2
  go_loopg [3, 8] k (fun kq v3 v8 w' => ∃ (x3_1 : Int) (x8_1 : Int), v3 = .int .i64 x3_1 ∧ v8 = .int .i64 x8_1 ∧ Aside0 (impl_crossings.l0 kq l0 x3_1 l0 (l0.length : Int) x8_1 = some r) ∧ Aside0 (kq ≤ k) ∧ Aside0 (Below w.heap.size w w'))
  case atStart => exact ⟨(0), (0), (by first | rfl | (simp; done) | (simp [*]; done)), (by first | rfl | (simp; done) | (simp [*]; done)), H', ⟨Nat.le_refl _⟩, ⟨by repeat (first | (with_reducible first | exact HB.out | apply below_alloc | apply pw_below_drewN | apply below_drew1) | exact HB.out)⟩⟩
  case round =>
    clear H'
    obtain ⟨x3_1, x8_1, rfl, rfl, HA, HK1, HB⟩ := hrel
    cases gk with
    | zero => exact absurd HA.out (by simp [impl_crossings.l0])
    | succ k1 =>
      have H := HA.out
      clear HA
      simp only [impl_crossings.l0] at H
      by_cases c2 : x8_1 < (l0.length : Int)
      · rw [if_pos c2] at H
        have c2b0 : decide (x8_1 < (l0.length : Int)) = true := decide_eq_true c2
        clear c2
        by_cases c3 : 0 ≤ x8_1
        · rw [if_pos c3] at H
          have c3b0 : decide (0 ≤ x8_1) = true := decide_eq_true c3
          clear c3
          by_cases c4 : x8_1 < (l0.length : Int)
          · rw [if_pos c4] at H
            have c4b0 : decide (x8_1 < (l0.length : Int)) = true := decide_eq_true c4
            clear c4
            have c5b0 := eq_true (of_decide_eq_true (by first | (with_reducible assumption) | assumption) : 0 ≤ x8_1)
            by_cases c6 : x8_1 ≤ (l0.length : Int)
            · rw [if_pos c6] at H
              have c6b0 := eq_true c6
              have c6b1 : decide (x8_1 ≤ (l0.length : Int)) = true := decide_eq_true c6
              clear c6
              obtain ⟨y233, hy233⟩ : ∃ y_ : List (S47), y_ = (l0.take (x8_1 : Int).toNat) := ⟨_, rfl⟩
              replace H : ((impl_crossed.f k1 y233 ((rd_T47 l0 x8_1).f0) ((rd_T47 l0 x8_1).f1)).bind fun t237 => (impl_crossings.l0 k1 l0 (wrap64 (x3_1 + t237)) l0 (l0.length : Int) (wrap64 (x8_1 + 1)))) = some r := by first | (rw [hy233]; with_reducible exact H) | (have H2_ := (Option.bind_some _ _).symm.trans H; rw [hy233]; with_reducible exact H2_) | (have H2_ := (Option.bind_some _ _).symm.trans H; with_reducible exact H2_) | with_reducible exact H | (rw [hy233]; exact H) | exact H
              have Ny233 := Aside0.mk hy233
              clear hy233
              replace H := Option.bind_eq_some_iff.mp H
              obtain ⟨t237, A70, H⟩ := H
              replace H : (impl_crossings.l0 k1 l0 (wrap64 (x3_1 + t237)) l0 (l0.length : Int) (wrap64 (x8_1 + 1))) = some r := H
              have A7 := Aside0.mk A70
              clear A70
              have H' := Aside0.mk H
              clear H
              have p231 : 0 ≤ (x8_1 : Int) := of_decide_eq_true (by first | (with_reducible assumption) | assumption)
              have q231 : x8_1 < (l0.length : Int) := of_decide_eq_true (by first | (with_reducible assumption) | assumption)
              obtain ⟨ad231, e231, hx231_0, hx231_1⟩ := at_T47 HR0.out x8_1 p231 q231
              cases e231
              replace hx231_0 := (HB.out.cell (World.block_lt_of_cell? w _ hx231_0)).trans hx231_0
              replace hx231_1 := (HB.out.cell (World.block_lt_of_cell? w _ hx231_1)).trans hx231_1
              replace p231 := eq_true p231
              replace q231 := eq_true q231
              try go_wp2_with (first | ((with_reducible refine gate_dst (N := 5) rfl ?_); refine box_event ?hg (N := 5) ?hd (cs := #[.int .i64 0, .int .i64 0]) (t := 47) ?hr ?_; (case hd => rfl); (case hg => rfl); (case hr => first | (go_simp; done) | (go_simp; rfl)); intro gb232 hg w8 hbox hb; have n0_ := Aside0.mk (below_step (by repeat (first | (with_reducible first | exact HB.out | apply below_alloc | apply pw_below_drewN | apply below_drew1) | exact HB.out)) hb); have n1_ := Aside0.mk (hbox); have n2_ := Aside0.mk ((by rw [hg]; exact (below_size (by repeat (first | (with_reducible first | exact HB.out | apply below_alloc | apply pw_below_drewN | apply below_drew1) | exact HB.out))) : w.heap.size ≤ gb232)); have n3_ := Aside0.mk ((by rw [hg]; exact (below_size (by repeat (first | (with_reducible first | exact HB.out | apply below_alloc | apply pw_below_drewN | apply below_drew1) | exact HB.out))) : w.heap.size ≤ gb232)); clear HB; have HB := n0_; have BK232 := n1_; have GW232 := n2_; have GE232 := n3_; clear n0_ n1_ n2_ n3_; clear hb hbox hg; have hcz9_0 : w8.cell? ⟨gb232, 0, none⟩ = some (.int .i64 0) := (blk_cell BK232.out 0).trans rfl; have hcz9_1 : w8.cell? ⟨gb232, 1, none⟩ = some (.int .i64 0) := (blk_cell BK232.out 1).trans rfl; have hfz9_0 := blk_frozen BK232.out 0; have hfz9_1 := blk_frozen BK232.out 1))
              have n0_ : Aside0 (((w8.setCell ⟨gb232, 0, none⟩ (.int .i64 ((rd_T47 l0 x8_1).f0))).setCell ⟨gb232, 1, none⟩ (.int .i64 ((rd_T47 l0 x8_1).f1))).heap[gb232]? = some (.cells #[.int .i64 ((rd_T47 l0 x8_1).f0), .int .i64 ((rd_T47 l0 x8_1).f1)] 47 (0, 0))) := ⟨by (with_reducible repeat (first | refine blk_drewN ?_ _ | refine blk_drew ?_ | refine blk_alloc ?_ _)); refine blk_put (cs := #[.int .i64 ((rd_T47 l0 x8_1).f0), .int .i64 0]) ?_ 1 _ rfl; (with_reducible repeat (first | refine blk_drewN ?_ _ | refine blk_drew ?_ | refine blk_alloc ?_ _)); refine blk_put (cs := #[.int .i64 0, .int .i64 0]) ?_ 0 _ rfl; (with_reducible repeat (first | refine blk_drewN ?_ _ | refine blk_drew ?_ | refine blk_alloc ?_ _)); exact BK232.out⟩
              have n1_ : Aside0 (Below w.heap.size w ((w8.setCell ⟨gb232, 0, none⟩ (.int .i64 ((rd_T47 l0 x8_1).f0))).setCell ⟨gb232, 1, none⟩ (.int .i64 ((rd_T47 l0 x8_1).f1)))) := ⟨by repeat (first | (with_reducible first | exact HB.out | apply below_alloc | apply pw_below_drewN | apply below_drew1 | refine below_set ?_ GE232.out) | exact HB.out)⟩
              (try clear BK232)
              (try clear HB)
              generalize ((w8.setCell ⟨gb232, 0, none⟩ (.int .i64 ((rd_T47 l0 x8_1).f0))).setCell ⟨gb232, 1, none⟩ (.int .i64 ((rd_T47 l0 x8_1).f1))) = w10 at n0_ n1_ ⊢
              have BK232 := n0_
              have HB := n1_
              clear n0_ n1_
              have n0_ := Aside0.mk (blk_drew BK232.out)
              have n1_ := Aside0.mk (below_drew1 HB.out)
              clear BK232
              clear HB
              have BK232 := n0_
              have HB := n1_
              clear n0_ n1_
              have q12 : (x8_1 : Int) ≤ ((l0.length : Int) : Int) := of_decide_eq_true (by first | (with_reducible assumption) | assumption)
              obtain ⟨i012, hi012, _, hsz12, _⟩ := info_parts info47
              have hroom12 : l0.length ≤ c0 := HC0.out
              have hC12 : Kd.C k47 _ (some ad231) l0.length l0 := HR0.out
              have hcut12 := cut_to (P := Try.prog) 27 47 .i64 Try.underlying27 hi012 (some ad231) l0.length c0 x8_1 (of_decide_eq_true (by first | (with_reducible assumption) | assumption)) q12 hroom12
              have hr12 := Kd.C_take (m := (x8_1 : Int).toNat) hC12 (by omega)
              have hy12 : y233.length = (x8_1 : Int).toNat := (by rw [Ny233.out, List.length_take]; omega)
              rw [← Ny233.out] at hr12
              rw [← hy12] at hcut12
              have HR236 := Aside0.mk hr12
              have HC236 := Aside0.mk (show y233.length ≤ c0 from by omega)
              clear hr12 hC12 hroom12 hi012 hsz12
              have KY12 := Aside0.mk hy12
              clear hy12
              replace q12 := eq_true q12
              refine start_ (n := 8) (S := fun w' => w'.cell? ⟨gb232, 0, none⟩ = some (.int .i64 ((rd_T47 l0 x8_1).f0)) ∧ w'.cell? ⟨gb232, 1, none⟩ = some (.int .i64 ((rd_T47 l0 x8_1).f1))) (ds := []) #[false, false, false, false, false, false, false, false] (by kernel_rfl) rfl rfl ⟨(blk_cell BK232.out 0).trans rfl, (blk_cell BK232.out 1).trans rfl⟩ (fun hHeld => ?_); refine with_tabW impl_crossings.tab5 impl_crossings.bits5 (fun HT_ HW_ => ?_)
              generalize w10.drew = w11 at BK232 HB HR236 hHeld ⊢
              refine pure_ (i := 0) (N := some 13) (v := ?_) (a' := ?_) #[true, false, false, false, false, false, false, false] rfl rfl (any_of HT_.out (by kernel_rfl)) (fun _ _ _ h => h) (Or.inl ⟨by rfl, ?_⟩) ?_ ?_
              rotate_left
              · intro w'
                go_simp
                with_reducible rfl
              rotate_left
              · simp only [Act.put, List.setIfInBounds_toArray, List.set_cons_zero, List.set_cons_succ, i64_w, i32_w]
                rfl
              refine pure_ (i := 1) (N := some 14) (v := ?_) (a' := ?_) #[true, true, false, false, false, false, false, false] rfl rfl (any_of HT_.out (by kernel_rfl)) (fun _ _ _ h => h) (Or.inl ⟨by rfl, ?_⟩) ?_ ?_
              rotate_left
              · intro w'
                go_simp
                with_reducible rfl
              rotate_left
              · simp only [Act.put, List.setIfInBounds_toArray, List.set_cons_zero, List.set_cons_succ, i64_w, i32_w]
                rfl
              refine pure_ (i := 2) (N := some 15) (v := ?_) (a' := ?_) #[true, true, true, false, false, false, false, false] rfl rfl (any_of HT_.out (by kernel_rfl)) (fun _ _ _ h => h) (Or.inl ⟨by rfl, ?_⟩) ?_ ?_
              rotate_left
              · intro w'
                go_simp
                with_reducible rfl
              rotate_left
              · simp only [Act.put, List.setIfInBounds_toArray, List.set_cons_zero, List.set_cons_succ, i64_w, i32_w]
                rfl
              refine pure_ (i := 3) (N := some 16) (v := ?_) (a' := ?_) #[true, true, true, true, false, false, false, false] rfl rfl (any_of HT_.out (by kernel_rfl)) (fun _ _ _ h => h) (Or.inl ⟨by rfl, ?_⟩) ?_ ?_
              rotate_left
              · intro w'
                go_simp
                with_reducible rfl
              rotate_left
              · simp only [Act.put, List.setIfInBounds_toArray, List.set_cons_zero, List.set_cons_succ, i64_w, i32_w]
                rfl
              refine take_ (i := 4) (N := some 17) (v := ?_) (a' := ?_) #[true, true, true, true, true, false, false, false] rfl rfl (take_ofW HT_.out HW_.out (by kernel_rfl)) (fun _ _ _ h => h) (Or.inl ⟨by rfl, ?_⟩) hHeld ?_ ?_
              rotate_left
              · rintro w' ⟨s0, s1⟩
                go_simp
                with_reducible rfl
              rotate_left
              · simp only [Act.put, List.setIfInBounds_toArray, List.set_cons_zero, List.set_cons_succ, i64_w, i32_w]
                rfl
              refine one_ (i := 5) (N := some 18) #[true, true, true, true, true, true, false, false] rfl rfl (one_of HT_.out (by kernel_rfl)) (by decide) (fun K hK => ?_)
              refine goes_ Try.func83 (by kernel_rfl) rfl #[.slice (some ad231) y233.length c0, .agg #[.int .i64 ((rd_T47 l0 x8_1).f0), .int .i64 ((rd_T47 l0 x8_1).f1)]] (by rfl) rfl rfl (by (try simp only [List.map_toArray, List.map_cons, List.map_nil]); first | done | rfl | (simp only [List.length_drop, List.length_take]; rfl)) ?_
              with_reducible refine (impl_crossed.calls k1 _ _ y233 ((rd_T47 l0 x8_1).f0) ((rd_T47 l0 x8_1).f1) t237 _ ?side1 ?side2 A7.out).mono ?_
              (case side1 => repeat (first | exact (Kd.C_below HR236.out HB.out) | (with_reducible refine Kd.C_alloc ?_ _) | (with_reducible refine Kd.C_drewN ?_ _) | (with_reducible refine Kd.C_drew ?_)))
              (case side2 => exact HC236.out)
              rintro e w13 ⟨rfl, hb⟩
              refine ⟨_, rfl, ?_⟩
              have n0_ := Aside0.mk (blk_below (g := gb232) (o := .cells #[.int .i64 ((rd_T47 l0 x8_1).f0), .int .i64 ((rd_T47 l0 x8_1).f1)] 47 (0, 0)) (by (with_reducible repeat (first | refine blk_drewN ?_ _ | refine blk_drew ?_ | refine blk_alloc ?_ _)); exact BK232.out) hb)
              have n1_ := Aside0.mk (below_step (by repeat (first | (with_reducible first | exact HB.out | apply below_alloc | apply pw_below_drewN | apply below_drew1 | refine below_set ?_ GE232.out) | exact HB.out)) hb)
              clear BK232
              clear HB
              have BK232 := n0_
              have HB := n1_
              clear n0_ n1_
              (try clear hb)
              (try clear hb2)
              (try clear hk)
              (try clear hi)
              refine hK.out _ _ ⟨(blk_cell BK232.out 0).trans rfl, (blk_cell BK232.out 1).trans rfl⟩ (fun hHeld => ?_)
              clear hK K
              refine norm_ (a' := ?_) ?_ ?_
              rotate_left
              · show Act.put _ (some 18) _ = _
                simp only [Act.put, List.setIfInBounds_toArray, List.set_cons_zero, List.set_cons_succ, i64_w, i32_w]
                rfl
              refine pure_ (i := 6) (N := some 19) (v := ?_) (a' := ?_) #[true, true, true, true, true, true, true, false] rfl rfl (any_of HT_.out (by kernel_rfl)) (fun _ _ _ h => h) (Or.inl ⟨by rfl, ?_⟩) ?_ ?_
              rotate_left
              · intro w'
                go_simp
                with_reducible rfl
              rotate_left
              · simp only [Act.put, List.setIfInBounds_toArray, List.set_cons_zero, List.set_cons_succ, i64_w, i32_w]
                rfl
              refine pure_ (i := 7) (N := some 3) (v := ?_) (a' := ?_) #[true, true, true, true, true, true, true, true] rfl rfl (any_of HT_.out (by kernel_rfl)) (fun _ _ _ h => h) (Or.inl ⟨by rfl, ?_⟩) ?_ ?_
              rotate_left
              · intro w'
                go_simp
                with_reducible rfl
              rotate_left
              · simp only [Act.put, List.setIfInBounds_toArray, List.set_cons_zero, List.set_cons_succ, i64_w, i32_w]
                rfl
              refine done_ (done_of HT_.out (by kernel_rfl)) ?_
              try go_wp2
              go_roundg k1
              case measure => have := HK1.out; omega
              case rel => exact ⟨(wrap64 (x3_1 + t237)), (wrap64 (x8_1 + 1)), (by first | rfl | (simp; done) | (simp [*]; done)), (by first | rfl | (simp; done) | (simp [*]; done)), H', ⟨by have := HK1.out; omega⟩, ⟨by repeat (first | (with_reducible first | exact HB.out | apply below_alloc | apply pw_below_drewN | apply below_drew1 | refine below_set ?_ GE232.out) | exact HB.out)⟩⟩
            · rw [if_neg c6] at H
              exact absurd H (by simp)
          · rw [if_neg c4] at H
            exact absurd H (by simp)
        · rw [if_neg c3] at H
          exact absurd H (by simp)
      · rw [if_neg c2] at H
        have c2b0 : decide (x8_1 < (l0.length : Int)) = false := decide_eq_false c2
        clear c2
        obtain rfl := Option.some.inj H
        go_wp2
        go_ret
        exact ⟨by first | rfl | (simp [errW_none, errW_some] <;> rfl) | (simp [*, errW_none, errW_some] <;> rfl), by repeat (first | (with_reducible first | exact HB.out | apply below_alloc | apply pw_below_drewN | apply below_drew1) | exact HB.out)⟩

end Go.Proofs.Ytdeenfpcmaadcaa.Pr
