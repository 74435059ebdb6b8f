/- The program's FlipDiagonal returns what the reference's returns, for all arguments. (Part 3 of 6.) -/
import Derived.Deep.CutRange
import Derived.Deep.CutBlock
import Derived.Test.YtdeenfpcmaadcaaKFnExactFlipDiagonal0
import Derived.Test.YtdeenfpcmaadcaaKFnExactFlipDiagonal1
set_option linter.unusedVariables false
set_option linter.unusedSimpArgs false
/- Rows of rows as cells: what a row of slices holds, each slice told by itself. -/
namespace Go.Proofs.Ytdeenfpcmaadcaa.Pr
open Go.RowKit Go.Proofs.YtdeenfpcmaadcaaW.PrintWords Go.Proofs.YtdeenfpcmaadcaaW.PrintLast Go.Proofs.YtdeenfpcmaadcaaW.PrintMore
abbrev KI : Kd Int := Kd.int .i64
abbrev KV : Kd (List Value) := Kd.raw 1
def NeR (u v : Value) : Prop := ∀ k, u.ownBlock = some k → v.ownBlock ≠ some k
theorem NeR.symm {u v : Value} (h : NeR u v) : NeR v u := fun k hk e => h k e hk
/-- Rows, with what they hold. -/
abbrev RL := List (Value × List Int)
def vsOf (rs : RL) : List (List Value) := rs.map fun r => [r.1]
theorem vsOf_length (rs : RL) : (vsOf rs).length = rs.length := by simp [vsOf]
structure Regs (w W : World) (P : Nat → Prop) (v : Value) (rs : RL) : Prop where
  out : KV.R 24 W w.heap.size P v (vsOf rs)
  inn : ∀ r ∈ rs, KI.R 3 W w.heap.size P r.1 r.2
theorem Regs.mono {w W : World} {P P' : Nat → Prop} {v : Value} {rs : RL} (h : Regs w W P v rs) (hp : ∀ k, P k → P' k) : Regs w W P' v rs := ⟨Kd.R_mono h.out hp, fun r hr => Kd.R_mono (h.inn r hr) hp⟩
theorem Regs.step {w W W' : World} {P : Nat → Prop} {v : Value} {rs : RL} (h : Regs w W P v rs) (hp : ∀ k, P k → k < W.heap.size → W'.heap[k]? = W.heap[k]?) : Regs w W' P v rs := ⟨Kd.R_step h.out hp, fun r hr => Kd.R_step (h.inn r hr) hp⟩
theorem Regs.below {w W W' : World} {P : Nat → Prop} {v : Value} {rs : RL} (h : Regs w W P v rs) (hb : Below W.heap.size W W') : Regs w W' P v rs := h.step (fun k _ hk => hb.block k hk)
theorem Regs.grown {w W W' : World} {P : Nat → Prop} {v : Value} {rs : RL} {row : Option Nat} (h : Regs w W P v rs) (hg : W.grownBy W' row) (hr : ∀ k, P k → some k ≠ row) : Regs w W' P v rs := h.step (fun k hk hl => hg.block k hl (hr k hk))
theorem Regs.old {w W : World} {P : Nat → Prop} {v : Value} {rs : RL} (h : Regs w W P v rs) : Regs w W (fun k => P k ∧ k < W.heap.size) v rs := ⟨Kd.R_mono (Kd.R_bound h.out) (fun k hk => ⟨hk.1, hk.2.2.1⟩), fun r hr => Kd.R_mono (Kd.R_bound (h.inn r hr)) (fun k hk => ⟨hk.1, hk.2.2.1⟩)⟩
/-- No two of the rows share a block. -/
def Dist (rs : RL) : Prop := rs.Pairwise fun a b => NeR a.1 b.1
/-- A row's element, as the walk reads it. -/
theorem at_raw {W : World} {A : Option Addr} {rs : RL} (h : KV.C W A (vsOf rs).length (vsOf rs)) (i : Nat) (hi : i < rs.length) : ∃ ad, A = some ad ∧ W.cell? (ad.add i) = some rs[i].1 := by
  obtain ⟨ad, e, hc⟩ := h.2.2 (by rw [vsOf_length]; omega)
  refine ⟨ad, e, ?_⟩
  have hg : (vsOf rs)[i]? = some [rs[i].1] := by unfold vsOf; rw [List.getElem?_map, List.getElem?_eq_getElem hi]; rfl
  obtain ⟨cs, h1, h2, h3⟩ := hc i _ hg
  have h4 := h3 0 rs[i].1 (by rw [h2.1]; rfl)
  have : i * KV.sz + 0 = i := by show i * 1 + 0 = i; omega
  rwa [this] at h4
theorem Regs.slice {w W : World} {P : Nat → Prop} {v : Value} {rs : RL} (h : Regs w W P v rs) : ∃ A c, v = .slice A rs.length c ∧ rs.length ≤ c ∧ KV.C W A (vsOf rs).length (vsOf rs) := by
  obtain ⟨A, c, e, hl, hC⟩ := Kd.R_reads h.out
  rw [vsOf_length] at e hl
  exact ⟨A, c, e, hl, hC⟩
theorem take_reads {W : World} {A : Option Addr} {rs : RL} {i : Nat} (h : KV.C W A (vsOf rs).length (vsOf rs)) (hi : i ≤ rs.length) : KV.C W A i ((vsOf rs).take i) := by
  have e := Kd.C_take h (m := i) (by rw [vsOf_length]; exact hi)
  rwa [List.length_take, vsOf_length, Nat.min_eq_left hi] at e
theorem drop_reads {W : World} {A : Option Addr} {rs : RL} {i c : Nat} (h : KV.C W A (vsOf rs).length (vsOf rs)) (hi : i ≤ rs.length) (hc : rs.length ≤ c) : KV.C W (if c = i then A else A.map (·.add i)) (rs.length - i) ((vsOf rs).drop i) := by
  have e := Kd.C_drop h (m := i) (c := c) (by rw [vsOf_length]; exact hi) (by rw [vsOf_length]; exact hc)
  rw [List.length_drop, vsOf_length, show i * KV.sz = i from Nat.mul_one i] at e
  exact e
theorem raw_lit {w W : World} (hb : w.heap.size ≤ W.heap.size) (vs : List Value) (h1 : ∀ v ∈ vs, v.oneCell' = true) (hn : vs.length ≤ 1000000) :
    KV.R 24 (W.alloc (.cells vs.toArray 24)) w.heap.size (fun k => k = W.heap.size) (.slice (some ⟨W.heap.size, 0, none⟩) vs.length vs.length) (vs.map fun v => [v]) := by
  refine ⟨fun k hk => ?_, vs, ?_, (by rw [List.length_map]; exact (Nat.mul_one _).symm), fun j p hj => ?_⟩
  · simpa [Value.ownBlock] using hk.symm
  · have h2 := World.ownsRow_lit (base := w.heap.size) (e := 24) (size := 1) W vs.toArray vs.length hb (by unfold maxLen; omega) (by simp)
    rw [List.length_map]
    exact (by simpa using h2 : World.ownsRow _ _ _ 1 _ _ _)
  · rw [List.getElem?_map] at hj
    obtain ⟨v, hv, rfl⟩ := Option.map_eq_some_iff.1 hj
    have hjl := (List.getElem?_eq_some_iff.1 hv).1
    have hjv := (List.getElem?_eq_some_iff.1 hv).2
    refine ⟨?_, ?_, ?_⟩
    · show (vs.drop (j * 1)).take 1 = [v]
      rw [Nat.mul_one, List.drop_eq_getElem_cons hjl, hjv]
      rfl
    · show ((vs.drop (j * 1)).take 1).length = 1
      rw [Nat.mul_one, List.drop_eq_getElem_cons hjl]
      rfl
    · intro u hu
      exact h1 u (List.mem_of_mem_drop (List.mem_of_mem_take hu))
theorem regs_one {w W : World} (hb : Below w.heap.size w W) {v : Value} {xs : List Int} (h : KI.R 3 W w.heap.size (fun _ => True) v xs) :
    Regs w (W.alloc (.cells #[v] 24)) (fun _ => True) (.slice (some ⟨W.heap.size, 0, none⟩) 1 1) [(v, xs)] := by
  refine ⟨Kd.R_mono (raw_lit hb.size [v] (fun u hu => ?_) (by simp)) (fun _ _ => trivial), fun r hr => ?_⟩
  · rw [List.mem_singleton.1 hu]
    obtain ⟨A, c, e⟩ := Kd.R_slice h
    rw [e]; rfl
  · rw [List.mem_singleton.1 hr]
    exact Kd.R_alloc h _
theorem blk_two {W : World} {b t : Nat} {u v : Value} (h : W.heap[b]? = some (.cells #[u, v] t (0, 0))) : W.cell? ⟨b, 0, none⟩ = some u ∧ W.cell? ⟨b, 1, none⟩ = some v := by
  constructor <;> simp [World.cell?, h]
theorem calls_drawn {f : Nat} {vs : Array Value} {W : World} {v : Value} (h : Calls Try.prog f vs W fun e w' => e = .returned v ∧ Drawn0 W w') : Calls Try.prog f vs W fun e w' => e = .returned v ∧ Below W.heap.size W w' :=
  h.mono fun _ _ h => ⟨h.1, by obtain ⟨n, rfl⟩ := h.2.out; exact pw_below_drewN (Below.refl _ _) n⟩
theorem dist_split {rs : RL} {i : Nat} {x y : Value × List Int} (hd : Dist rs) (hxy : NeR x.1 y.1) (h : ∀ r ∈ rs, NeR r.1 x.1 ∧ NeR r.1 y.1) : Dist (rs.take i ++ x :: y :: rs.drop (i + 1)) := by
  unfold Dist at *
  have hs : (rs.take i ++ rs.drop (i + 1)).Pairwise fun a b => NeR a.1 b.1 := by
    refine hd.sublist ?_
    conv => rhs; rw [← List.take_append_drop i rs]
    refine List.Sublist.append_left ?_ _
    rw [← List.drop_drop]
    exact List.drop_sublist _ _
  obtain ⟨h1, h2, h3⟩ := List.pairwise_append.1 hs
  refine List.pairwise_append.2 ⟨h1, List.pairwise_cons.2 ⟨fun z hz => ?_, List.pairwise_cons.2 ⟨fun z hz => ((h z (List.mem_of_mem_drop hz)).2).symm, h2⟩⟩, fun a ha b hb => ?_⟩
  · rcases List.mem_cons.1 hz with rfl | hz
    · exact hxy
    · exact ((h z (List.mem_of_mem_drop hz)).1).symm
  · rcases List.mem_cons.1 hb with rfl | hb
    · exact (h a (List.mem_of_mem_take ha)).1
    · rcases List.mem_cons.1 hb with rfl | hb
      · exact (h a (List.mem_of_mem_take ha)).2
      · exact h3 a ha b hb
theorem split_mem {rs : RL} {i : Nat} {x y r : Value × List Int} (h : r ∈ rs.take i ++ x :: y :: rs.drop (i + 1)) : r ∈ rs ∨ r = x ∨ r = y := by
  rcases List.mem_append.1 h with h | h
  · exact .inl (List.mem_of_mem_take h)
  · rcases List.mem_cons.1 h with h | h
    · exact .inr (.inl h)
    · rcases List.mem_cons.1 h with h | h
      · exact .inr (.inr h)
      · exact .inl (List.mem_of_mem_drop h)
theorem split_vs (rs : RL) (i : Nat) (x y : Value × List Int) : vsOf (rs.take i ++ x :: y :: rs.drop (i + 1)) = (([] ++ (vsOf rs).take i) ++ [[x.1], [y.1]]) ++ (vsOf rs).drop (i + 1) := by
  unfold vsOf
  simp [List.map_take, List.map_drop]
theorem split_len (rs : RL) (i : Nat) (hi : i < rs.length) (x y : Value × List Int) : (rs.take i ++ x :: y :: rs.drop (i + 1)).length = rs.length + 1 := by
  simp only [List.length_append, List.length_take, List.length_cons, List.length_drop]
  omega
/-- Where a row goes in: from the end, ahead of all that it is ahead of. -/
def backK (lt : List Int → List Int → Bool) (r : List Int) (os : List (List Int)) : Nat → Nat
  | 0 => 0
  | k + 1 => if lt r (os.getD k []) = true then backK lt r os k else k + 1
theorem backK_le (lt : List Int → List Int → Bool) (r : List Int) (os : List (List Int)) : ∀ k, backK lt r os k ≤ k
  | 0 => Nat.le_refl _
  | k + 1 => by
    rw [backK]
    split
    · exact Nat.le_succ_of_le (backK_le lt r os k)
    · exact Nat.le_refl _
def insB (lt : List Int → List Int → Bool) (os : List (List Int)) (r : List Int) : List (List Int) := os.take (backK lt r os os.length) ++ r :: os.drop (backK lt r os os.length)
/-- Rows that are read, elder than block N. -/
structure BW (w W : World) (N : Nat) (v : Value) (rs : RL) (u : Value) (os : RL) : Prop where
  bl : Below w.heap.size w W
  hn : w.heap.size ≤ N ∧ N ≤ W.heap.size
  rg : Regs w W (fun k => k < N) v rs
  og : KV.R 24 W w.heap.size (fun k => k < N) u (vsOf os)
section
variable {w W W' : World} {N : Nat} {v u : Value} {rs os : RL}
theorem BW.grown {row : Option Nat} (h : BW w W N v rs u os) (hg : W.grownBy W' row) (hr : ∀ k, row = some k → N ≤ k) (hb : Below w.heap.size w W') : BW w W' N v rs u os :=
  ⟨hb, ⟨h.hn.1, Nat.le_trans h.hn.2 hg.size⟩, h.rg.grown hg (fun k hk e => by have := hr k e.symm; omega), Kd.R_grown h.og hg (fun k hk e => by have := hr k e.symm; omega)⟩
theorem BW.go (h : BW w W N v rs u os) (hb : Below W.heap.size W W') : BW w W' N v rs u os :=
  h.grown (grown_of_below hb none) (fun _ e => by cases e) (below_step h.bl hb)
theorem BW.now (hb : Below w.heap.size w W) (hr : Regs w W (fun _ => True) v rs) (ho : KV.R 24 W w.heap.size (fun _ => True) u (vsOf os)) : BW w W W.heap.size v rs u os :=
  ⟨hb, ⟨hb.size, Nat.le_refl _⟩, hr.old.mono (fun k hk => hk.2), Kd.R_mono (Kd.R_bound ho) (fun k hk => hk.2.2.1)⟩
end
theorem dist_perm {a b : RL} (h : a.Perm b) (hd : Dist a) : Dist b := (List.Perm.pairwise_iff (R := fun (x y : Value × List Int) => NeR x.1 y.1) (fun {x y} (q : NeR x.1 y.1) => q.symm) h).1 hd
theorem vs_ins (os : RL) (k : Nat) (x : Value × List Int) : vsOf (os.take k ++ x :: os.drop k) = (([] ++ (vsOf os).take k) ++ [[x.1]]) ++ (vsOf os).drop k := by
  unfold vsOf
  simp [List.map_take, List.map_drop]
/-- Rows of rows whose blocks are told apart, in the print's words. -/
theorem Regs.S {w W : World} {P : Nat → Prop} {v : Value} {rs : RL} (h : Regs w W P v rs) (hd : Dist rs) : Kd.S (Kd.slice 3 KI) 24 W w.heap.size (fun _ => True) v (rs.map (·.2)) := by
  classical
  obtain ⟨h0, inner, ho, hr⟩ := h.out
  obtain ⟨f, hf⟩ : ∃ f : Nat → Nat, ∀ (i : Nat) (hi : i < rs.length) (k : Nat), rs[i].1.ownBlock = some k → f k = i := by
    refine ⟨fun k => if hx : ∃ i, ∃ hi : i < rs.length, rs[i].1.ownBlock = some k then Classical.choose hx else 0, fun i hi k hk => ?_⟩
    have hx : ∃ i, ∃ hi : i < rs.length, rs[i].1.ownBlock = some k := ⟨i, hi, hk⟩
    simp only [dif_pos hx]
    obtain ⟨hj, ek⟩ := Classical.choose_spec hx
    rcases Nat.lt_trichotomy (Classical.choose hx) i with hlt | heq | hgt
    · exact absurd hk ((List.pairwise_iff_getElem.1 hd _ _ hj hi hlt) k ek)
    · exact heq
    · exact absurd ek ((List.pairwise_iff_getElem.1 hd _ _ hi hj hgt) k hk)
  have hlen : (vsOf rs).length = rs.length := vsOf_length rs
  refine ⟨f, fun k hk => trivial, inner, ?_, ?_, ?_⟩
  · rw [List.length_zipIdx, List.length_map, ← hlen]; exact ho
  · rw [List.length_zipIdx, List.length_map, ← hlen]; exact hr.1
  · intro j p hj
    rw [List.getElem?_zipIdx, Nat.zero_add] at hj
    obtain ⟨x, hx, rfl⟩ := Option.map_eq_some_iff.1 hj
    rw [List.getElem?_map] at hx
    obtain ⟨r, hrj, rfl⟩ := Option.map_eq_some_iff.1 hx
    have hjl : j < rs.length := (List.getElem?_eq_some_iff.1 hrj).1
    have hrj2 : rs[j] = r := (List.getElem?_eq_some_iff.1 hrj).2
    have hM := hr.2 j [r.1] (by unfold vsOf; rw [List.getElem?_map, hrj]; rfl)
    have hI := h.inn r (List.mem_of_getElem? hrj)
    have hne : ∀ k, r.1.ownBlock = some k → some k ≠ v.ownBlock := by
      intro k hk e
      obtain ⟨c1, e1⟩ := Kd.R_typed hI k hk
      obtain ⟨c2, e2⟩ := Kd.R_typed h.out k e.symm
      rw [e1] at e2
      injection e2 with e2
      injection e2 with _ e2 _
      exact absurd e2 (by decide)
    show ∃ v', _ = [v'] ∧ KI.R 3 W w.heap.size _ v' r.2
    refine ⟨r.1, hM.1, ?_⟩
    refine Kd.R_mono (Kd.R_tight rfl hI) (fun k hk => ⟨⟨trivial, hne k hk.symm⟩, ?_⟩)
    subst hrj2
    exact hf j hjl k hk.symm
end Go.Proofs.Ytdeenfpcmaadcaa.Pr
/- What the reference's reList computes: the regions that its splits leave, sorted. -/
namespace Go.Proofs.Ytdeenfpcmaadcaa.Pr
open Go.RowKit Go.Proofs.YtdeenfpcmaadcaaW.PrintWords Go.Proofs.YtdeenfpcmaadcaaW.PrintLast Go.Proofs.YtdeenfpcmaadcaaW.PrintMore
def spec_reList.f (a0 : Int) (l1 : List (S47)) : Option ((List (List Int))) := if (0 ≤ a0 ∧ a0 ≤ 1000) ∧ l1.length ≤ 1000 then some ((M.foldR l1 [M.ptsTo a0]).foldl (insB M.lexB) []) else none
theorem has_calls (A : Option Addr) (c : Nat) (l : List Int) (x : Int) (W : World) (hr : KI.C W A l.length l) (hc : l.length ≤ c) (hl : l.length ≤ 1000000) :
    Calls Try.prog 45 #[.slice A l.length c, .int .i64 x] W fun e w' => e = .returned (.bool (l.contains x)) ∧ Drawn0 W w' := by
  obtain ⟨k, hk⟩ := (M.l1Has_ev l x hl).rounds
  exact spec_l1Has.calls k A c l x _ W hr hc hk
theorem less_calls (A : Option Addr) (c : Nat) (l : List Int) (A' : Option Addr) (c' : Nat) (l' : List Int) (W : World) (hr : KI.C W A l.length l) (hc : l.length ≤ c) (hr' : KI.C W A' l'.length l') (hc' : l'.length ≤ c') (hl : l.length ≤ 1000000) :
    Calls Try.prog 60 #[.slice A l.length c, .slice A' l'.length c'] W fun e w' => e = .returned (.bool (M.lexB l l')) ∧ Drawn0 W w' := by
  obtain ⟨k, hk⟩ := (M.reLess_ev l l' hl).rounds
  exact spec_reLess.calls k A c l A' c' l' _ W hr hc hr' hc' hk
theorem in_calls (x a b : Int) (W : World) : Calls Try.prog 37 #[.int .i64 x, .int .i64 a, .int .i64 b] W fun e w' => e = .returned (.bool (decide (a ≤ x ∧ x ≤ b))) ∧ Drawn0 W w' :=
  spec_l1In.calls x a b _ W (M.l1In_eq x a b)
theorem pts_succ (n : Nat) : M.ptsTo ((n : Int) + 1) = M.ptsTo (n : Int) ++ [(n : Int)] := by
  unfold M.ptsTo
  rw [show ((n : Int) + 1).toNat = n + 1 by omega, Int.toNat_natCast, List.range_succ, List.map_append]
  rfl
theorem pts_len (n : Nat) : (M.ptsTo (n : Int)).length = n := by simp [M.ptsTo]
/-- A round's world: the rows that are there, and the chord in its block. -/
structure LW (w W : World) (H : Nat) (c : S47) (v : Value) (rs : RL) : Prop where
  bl : Below w.heap.size w W
  hh : w.heap.size ≤ H
  rg : Regs w W (fun k => k < H) v rs
  cb : W.heap[H]? = some (.cells #[.int .i64 c.f0, .int .i64 c.f1] 47 (0, 0))
theorem LW.go {w W W' : World} {H : Nat} {c : S47} {v : Value} {rs : RL} (h : LW w W H c v rs) (hb : Below W.heap.size W W') : LW w W' H c v rs := ⟨below_step h.bl hb, h.hh, h.rg.below hb, blk_below h.cb hb⟩
theorem LW.new {w W : World} {c : S47} {v : Value} {rs : RL} (hb : Below w.heap.size w W) (h : Regs w W (fun _ => True) v rs) : LW w (W.alloc (.cells #[.int .i64 c.f0, .int .i64 c.f1] 47)) W.heap.size c v rs :=
  ⟨below_alloc hb _, hb.size, (h.old.mono (fun k hk => hk.2)).below (below_alloc (Below.refl _ _) _), heap_alloc_new W _⟩
theorem LW.lt {w W : World} {H : Nat} {c : S47} {v : Value} {rs : RL} (h : LW w W H c v rs) : H < W.heap.size := blk_lt h.cb
theorem LW.grown {w W W' : World} {H : Nat} {c : S47} {v : Value} {rs : RL} {row : Option Nat} (h : LW w W H c v rs) (hg : W.grownBy W' row) (hr : ∀ k, row = some k → H < k) (hb : Below w.heap.size w W') : LW w W' H c v rs :=
  ⟨hb, h.hh, h.rg.grown hg (fun k hk e => by have := hr k e.symm; omega), (hg.block H h.lt (fun e => by have := hr H e.symm; omega)).trans h.cb⟩
/-- A round's world, with the two rows that are made. -/
structure FW (w W : World) (H : Nat) (c : S47) (v : Value) (rs : RL) (vi vo : Value) (li lo : List Int) : Prop where
  l : LW w W H c v rs
  i : KI.R 3 W w.heap.size (fun k => H < k ∧ some k ≠ vo.ownBlock) vi li
  o : KI.R 3 W w.heap.size (fun k => H < k ∧ some k ≠ vi.ownBlock) vo lo
section
variable {w W W' : World} {H : Nat} {c : S47} {v : Value} {rs : RL} {vi vo v1 : Value} {li lo : List Int}
theorem FW.go (h : FW w W H c v rs vi vo li lo) (hb : Below W.heap.size W W') : FW w W' H c v rs vi vo li lo := ⟨h.l.go hb, Kd.R_below h.i hb, Kd.R_below h.o hb⟩
theorem FW.new (h : LW w W H c v rs) : FW w W H c v rs (.slice none 0 0) (.slice none 0 0) [] [] := ⟨h, Kd.R_nil _ _ _ _ _, Kd.R_nil _ _ _ _ _⟩
theorem FW.freshI (h : FW w W H c v rs vi vo li lo) : ∀ k, W.heap.size ≤ k → H < k ∧ some k ≠ vo.ownBlock := fun k hk => ⟨by have := h.l.lt; omega, fun e => by have := Kd.R_lt h.o k e.symm; omega⟩
theorem FW.freshO (h : FW w W H c v rs vi vo li lo) : ∀ k, W.heap.size ≤ k → H < k ∧ some k ≠ vi.ownBlock := fun k hk => ⟨by have := h.l.lt; omega, fun e => by have := Kd.R_lt h.i k e.symm; omega⟩
theorem FW.appI {li' : List Int} (h : FW w W H c v rs vi vo li lo) (ho : KI.R 3 W' w.heap.size (fun k => H < k ∧ some k ≠ vo.ownBlock) v1 li') (hb : Below w.heap.size w W') (hg : W.grownBy W' vi.ownBlock) (hat : v1.ownBlock = vi.ownBlock ∨ ∃ b, v1.ownBlock = some b ∧ W.heap.size ≤ b) : FW w W' H c v rs v1 vo li' lo :=
  ⟨h.l.grown hg (fun k hk => (h.i.1 k hk).1) hb, ho, Kd.R_after h.o hg hat⟩
theorem FW.appO {lo' : List Int} (h : FW w W H c v rs vi vo li lo) (ho : KI.R 3 W' w.heap.size (fun k => H < k ∧ some k ≠ vi.ownBlock) v1 lo') (hb : Below w.heap.size w W') (hg : W.grownBy W' vo.ownBlock) (hat : v1.ownBlock = vo.ownBlock ∨ ∃ b, v1.ownBlock = some b ∧ W.heap.size ≤ b) : FW w W' H c v rs vi v1 li lo' :=
  ⟨h.l.grown hg (fun k hk => (h.o.1 k hk).1) hb, Kd.R_after h.i hg hat, ho⟩
end
/-- The rows that are there, and the two that were made, all of them elder than block N. -/
structure GW (w W : World) (N : Nat) (v : Value) (rs : RL) (vi vo : Value) (li lo : List Int) : Prop where
  bl : Below w.heap.size w W
  hn : w.heap.size ≤ N ∧ N ≤ W.heap.size
  rg : Regs w W (fun k => k < N) v rs
  i : KI.R 3 W w.heap.size (fun k => k < N) vi li
  o : KI.R 3 W w.heap.size (fun k => k < N) vo lo
  ne : NeR vi vo ∧ (∀ r ∈ rs, NeR r.1 vi ∧ NeR r.1 vo)
section
variable {w W W' : World} {H N : Nat} {c : S47} {v : Value} {rs : RL} {vi vo v1 : Value} {li lo : List Int}
theorem GW.of (h : FW w W H c v rs vi vo li lo) : GW w W W.heap.size v rs vi vo li lo :=
  ⟨h.l.bl, ⟨h.l.bl.size, Nat.le_refl _⟩, h.l.rg.old.mono (fun k hk => hk.2), Kd.R_mono (Kd.R_bound h.i) (fun k hk => hk.2.2.1), Kd.R_mono (Kd.R_bound h.o) (fun k hk => hk.2.2.1),
    fun k hk e => (h.o.1 k e).2 hk.symm, fun r hr => ⟨fun k hk e => by have := (h.l.rg.inn r hr).1 k hk; have := (h.i.1 k e).1; omega, fun k hk e => by have := (h.l.rg.inn r hr).1 k hk; have := (h.o.1 k e).1; omega⟩⟩
theorem GW.grown {row : Option Nat} (h : GW w W N v rs vi vo li lo) (hg : W.grownBy W' row) (hr : ∀ k, row = some k → N ≤ k) (hb : Below w.heap.size w W') : GW w W' N v rs vi vo li lo :=
  ⟨hb, ⟨h.hn.1, Nat.le_trans h.hn.2 hg.size⟩, h.rg.grown hg (fun k hk e => by have := hr k e.symm; omega), Kd.R_grown h.i hg (fun k hk e => by have := hr k e.symm; omega), Kd.R_grown h.o hg (fun k hk e => by have := hr k e.symm; omega), h.ne⟩
theorem GW.go (h : GW w W N v rs vi vo li lo) (hb : Below W.heap.size W W') : GW w W' N v rs vi vo li lo :=
  h.grown (grown_of_below hb none) (fun _ e => by cases e) (below_step h.bl hb)
end
theorem size_alloc1 (W : World) (o : Obj) : (W.alloc o).heap.size = W.heap.size + 1 := by simp
theorem cutIn_succ {c : S47} (l : List Int) (q : Nat) (h : q < l.length) : M.cutIn c (l.take (q + 1)) = M.cutIn c (l.take q) ++ (if c.f0 ≤ l[q] ∧ l[q] ≤ c.f1 then [l[q]] else []) := by
  unfold M.cutIn
  rw [List.take_succ_eq_append_getElem h, List.filter_append]
  congr 1
  by_cases e : c.f0 ≤ l[q] ∧ l[q] ≤ c.f1
  · rw [if_pos e, List.filter_cons, if_pos (decide_eq_true e)]; rfl
  · rw [if_neg e, List.filter_cons, if_neg (by rw [decide_eq_false e]; decide)]; rfl
theorem cutOut_succ {c : S47} (l : List Int) (q : Nat) (h : q < l.length) : M.cutOut c (l.take (q + 1)) = M.cutOut c (l.take q) ++ (if l[q] ≤ c.f0 ∨ c.f1 ≤ l[q] then [l[q]] else []) := by
  unfold M.cutOut
  rw [List.take_succ_eq_append_getElem h, List.filter_append]
  congr 1
  by_cases e : l[q] ≤ c.f0 ∨ c.f1 ≤ l[q]
  · rw [if_pos e, List.filter_cons, if_pos (decide_eq_true e)]; rfl
  · rw [if_neg e, List.filter_cons, if_neg (by rw [decide_eq_false e]; decide)]; rfl
theorem cutIn_len {c : S47} (l : List Int) : (M.cutIn c l).length ≤ l.length := List.length_filter_le _ _
theorem cutOut_len {c : S47} (l : List Int) : (M.cutOut c l).length ≤ l.length := List.length_filter_le _ _
theorem out_cases (c : S47) (x : Int) : (decide (x ≤ c.f0) = true ∧ (x ≤ c.f0 ∨ c.f1 ≤ x)) ∨ (decide (x ≤ c.f0) = false ∧ decide (c.f1 ≤ x) = true ∧ (x ≤ c.f0 ∨ c.f1 ≤ x)) ∨ (decide (x ≤ c.f0) = false ∧ decide (c.f1 ≤ x) = false ∧ ¬ (x ≤ c.f0 ∨ c.f1 ≤ x)) := by
  by_cases h : x ≤ c.f0
  · exact .inl ⟨decide_eq_true h, .inl h⟩
  · by_cases h2 : c.f1 ≤ x
    · exact .inr (.inl ⟨decide_eq_false h, decide_eq_true h2, .inr h2⟩)
    · exact .inr (.inr ⟨decide_eq_false h, decide_eq_false h2, fun e => e.elim h h2⟩)
theorem hasB_false {c : S47} {r : List Int} (h : r.contains c.f0 = false ∨ r.contains c.f1 = false) : M.hasB c r = false := by
  unfold M.hasB
  refine decide_eq_false fun e => ?_
  rcases h with h | h
  · rw [List.contains_iff_mem.2 e.1] at h; cases h
  · rw [List.contains_iff_mem.2 e.2] at h; cases h
theorem hasB_true {c : S47} {r : List Int} (h : r.contains c.f0 = true) (h' : r.contains c.f1 = true) : M.hasB c r = true := decide_eq_true ⟨List.contains_iff_mem.1 h, List.contains_iff_mem.1 h'⟩
theorem stepR_none {c : S47} : ∀ rs : List (List Int), (∀ r ∈ rs, M.hasB c r = false) → M.stepR c rs = rs
  | [], _ => rfl
  | r :: rs, h => by rw [M.stepR, if_neg (by rw [h r (List.mem_cons_self ..)]; decide), stepR_none rs (fun x hx => h x (List.mem_cons_of_mem _ hx))]
theorem stepR_at {c : S47} : ∀ (a : List (List Int)) (r : List Int) (b : List (List Int)), (∀ x ∈ a, M.hasB c x = false) → M.hasB c r = true → M.stepR c (a ++ r :: b) = a ++ M.cutIn c r :: M.cutOut c r :: b
  | [], r, b, _, hr => by rw [List.nil_append, M.stepR, if_pos hr]; rfl
  | x :: a, r, b, h, hr => by
    rw [List.cons_append, M.stepR, if_neg (by rw [h x (List.mem_cons_self ..)]; decide), stepR_at a r b (fun y hy => h y (List.mem_cons_of_mem _ hy)) hr]
    rfl
theorem ins_perm {rs os : RL} {i K0 : Nat} {re : Value × List Int} (hil : i < rs.length) (h : os.Perm (rs.take i)) (hre : re = rs[i]) : (os.take K0 ++ re :: os.drop K0).Perm (rs.take (i + 1)) := by
  rw [List.take_succ_eq_append_getElem hil, ← hre]
  refine List.perm_middle.trans ?_
  rw [List.take_append_drop]
  exact (h.cons re).trans (List.perm_append_singleton re _).symm
theorem ins_map {rs os : RL} {i K0 : Nat} {re : Value × List Int} (hil : i < rs.length) (h : os.map (·.2) = ((rs.take i).map (·.2)).foldl (insB M.lexB) []) (hre : re = rs[i]) (hK : K0 = backK M.lexB re.2 (os.map (·.2)) os.length) :
    (os.take K0 ++ re :: os.drop K0).map (·.2) = ((rs.take (i + 1)).map (·.2)).foldl (insB M.lexB) [] := by
  rw [List.take_succ_eq_append_getElem hil, ← hre]
  simp only [List.map_append, List.map_cons, List.map_nil, List.foldl_append, List.foldl_cons, List.foldl_nil, ← h]
  rw [insB, List.length_map, ← hK, List.map_take, List.map_drop]
set_option maxHeartbeats 4000000 in
set_option maxRecDepth 100000 in
theorem spec_reList.calls (a0 : Int) (A1 : Option Addr) (c1 : Nat) (l1 : List (S47)) (r : List (List Int)) (w : World) (hr1 : Kd.C k47 w A1 l1.length l1) (hc1 : l1.length ≤ c1) (h : spec_reList.f a0 l1 = some r) :
    Calls Try.prog 33 #[.int .i64 a0, .slice A1 l1.length c1] w fun e w' => ∃ v0_ : Value, e = .returned (v0_) ∧ Kd.S (Kd.slice 3 (Kd.int .i64)) 24 w' w.heap.size (fun _ => True) v0_ r ∧ Below w.heap.size w w' := by
  unfold spec_reList.f at h
  split at h
  rotate_left
  · cases h
  rename_i hb
  obtain ⟨⟨ha0, ha1⟩, hl1⟩ := hb
  obtain rfl := oI h
  clear h
  obtain ⟨p, rfl⟩ : ∃ p : Nat, a0 = (p : Int) := ⟨a0.toNat, by omega⟩
  have hp1 : p ≤ 1000 := by omega
  clear ha0 ha1
  have HR1 := Aside0.mk hr1
  have HB := Aside0.mk (Below.refl w.heap.size w)
  clear hr1
  go_enter Try.func33, Try.ntmps33
  go_wp2_with fail
  go_loopg [5, 6] p (fun gg v5 v6 W => ∃ (q : Nat), v6 = .int .i64 q ∧ Aside0 (q + gg = p) ∧ Aside0 (Below w.heap.size w W) ∧ Aside0 (KI.R 3 W w.heap.size (fun _ => True) v5 (M.ptsTo (q : Int))))
  case atStart => exact ⟨0, by first | rfl | (simp; done), ⟨by omega⟩, ⟨by first | exact HB.out | exact pw_below_drewN HB.out _⟩, ⟨by have : M.ptsTo ((0 : Nat) : Int) = [] := rfl; rw [this]; exact Kd.R_nil _ _ _ _ _⟩⟩
  case round =>
    clear HB
    obtain ⟨q, rfl, HG, HB, HO⟩ := hrel
    by_cases hq : q < p
    · have e1 : decide ((q : Int) < (p : Int)) = true := decide_eq_true (by omega)
      have e2 : IntKind.i64.wrap ((q : Int) + 1) = ((q + 1 : Nat) : Int) := by
        rw [i64_w]
        exact M.w64 (by omega) (by omega)
      obtain ⟨gm, rfl⟩ : ∃ gm, gk = gm + 1 := ⟨gk - 1, by have := HG.out; omega⟩
      have HLn := Aside0.mk (pts_len q)
      go_wp2_with ((with_reducible refine gate_builtin (b := .append) (xs := #[.tmp 27, .tmp 29]) rfl ?_); at_builtin; refine Kd.R_append (Kd.int .i64) (w0 := w) w.heap.size rfl (.tmp 27) (.tmp 29) 24 3 (.int .i64 0) 8 rfl Try.underlying24 info3 rfl (by decide) (by omega) _ (M.ptsTo (q : Int)) (q : Int) [.int .i64 (q : Int)] (fun _ => True) (fun _ => False) rfl rfl ?aP (fun _ hk => hk.elim) ?aF ?aO ?aB ?aS ?aL ?_; (case aP => exact rfl); (case aF => exact (fun _ _ => trivial)); (case aO => exact HO.out); (case aB => exact HB.out); (case aS => exact HB.out.size); (case aL => have := HLn.out; omega); intro v7 w7 ho hb hg hat; have HO2 := Aside0.mk ho; have HB2 := Aside0.mk hb; clear ho hb hg hat)
      go_roundg gm
      case measure => omega
      case rel => exact ⟨q + 1, by first | rfl | (simp; done), ⟨by have := HG.out; omega⟩, HB2, ⟨by have := HO2.out; rwa [← pts_succ] at this⟩⟩
    · obtain rfl : q = p := by have := HG.out; omega
      have e1 : decide ((q : Int) < (q : Int)) = false := decide_eq_false (by omega)
      obtain ⟨Av, cv, ev⟩ := Kd.R_slice HO.out
      subst ev
      have HR := Aside0.mk (regs_one HB.out HO.out)
      have HB2 := Aside0.mk (below_alloc HB.out (.cells #[.slice Av (M.ptsTo (q : Int)).length cv] 24))
      clear HB
      have HB := HB2
      clear HB2
      go_wp2_with fail
      obtain ⟨N, hN⟩ : ∃ N, N = l1.length := ⟨_, rfl⟩
      go_loopg [7, 35] N (fun gg v7 v35 W => ∃ (j : Nat) (rs : RL), v35 = .int .i64 j ∧ Aside0 (j + gg = N) ∧ Aside0 (Below w.heap.size w W) ∧ Aside0 (Regs w W (fun _ => True) v7 rs) ∧ Aside0 (Dist rs) ∧ Aside0 (rs.length ≤ j + 1 ∧ ∀ r ∈ rs, r.2.length ≤ 1000) ∧ Aside0 (M.foldR (l1.drop j) (rs.map (·.2)) = M.foldR l1 [M.ptsTo (q : Int)]))
      case atStart => exact ⟨0, [(_, M.ptsTo (q : Int))], by first | rfl | (simp; done), ⟨by omega⟩, HB, ⟨HR.out⟩, ⟨List.pairwise_singleton _ _⟩, ⟨by simp, fun r hr => by rw [List.mem_singleton.1 hr]; show (M.ptsTo (q : Int)).length ≤ 1000; rw [pts_len]; exact hp1⟩, ⟨rfl⟩⟩
      case round =>
        clear HB HR HO HG
        obtain ⟨j, rs, rfl, HG, HB, HR, HD, HLn, HF⟩ := hrel
        have hN2 : (N : Int) = (l1.length : Int) := by omega
        by_cases hj : j < N
        · have hjl : j < l1.length := by omega
          have e1 : decide ((j : Int) < (l1.length : Int)) = true := decide_eq_true (by omega)
          have e2 : IntKind.i64.wrap ((j : Int) + 1) = ((j + 1 : Nat) : Int) := by
            rw [i64_w]
            exact M.w64 (by omega) (by omega)
          obtain ⟨gm, rfl⟩ : ∃ gm, gk = gm + 1 := ⟨gk - 1, by have := HG.out; omega⟩
          obtain ⟨c, hc⟩ : ∃ c, c = l1[j] := ⟨_, rfl⟩
          have hF := HF.out
          rw [List.drop_eq_getElem_cons hjl, ← hc, M.foldR] at hF
          have HF2 := Aside0.mk hF
          clear hF HF
          obtain ⟨ad, ea, x0, x1⟩ := at_T47 (Kd.C_below HR1.out HB.out) (j : Int) (by omega) (by omega)
          rw [M.rd_ch l1 j hjl, ← hc] at x0 x1
          have HCj := Aside0.mk hc
          clear hc
          rw [Int.toNat_natCast] at x0 x1
          cases ea
          obtain ⟨Ar, cr, ev, hcap, hC⟩ := HR.out.slice
          subst ev
          have HC := Aside0.mk hC
          clear hC
          have HL := Aside0.mk (LW.new (c := c) HB.out HR.out)
          go_upto_block 3 with fail
          go_cut [7] from 1 to 0 (fun v7 wc => ∃ (rs' : RL), Aside0 (Below w.heap.size w wc) ∧ Aside0 (Regs w wc (fun _ => True) v7 rs') ∧ Aside0 (Dist rs') ∧ Aside0 (rs'.length ≤ j + 2 ∧ ∀ r ∈ rs', r.2.length ≤ 1000) ∧ Aside0 (rs'.map (·.2) = M.stepR c (rs.map (·.2))))
          case first =>
            have HH : Aside0 (w.heap.size ≤ wr.heap.size) := ⟨HB.out.size⟩
            go_upto_block 4 with fail
            clear HB HR HC HF2 x0 x1
            generalize wr.heap.size = H at HL HH ⊢
            generalize (wr.alloc (.cells #[.int .i64 c.f0, .int .i64 c.f1] 47)) = W1 at HL ⊢
            go_wp2_with fail
            obtain ⟨M0, hM0⟩ : ∃ M0, M0 = rs.length := ⟨_, rfl⟩
            go_loopg [7, 41] M0 (fun gg v7 v41 W => ∃ (i : Nat), v7 = .slice Ar rs.length cr ∧ v41 = .int .i64 i ∧ Aside0 (i + gg = M0) ∧ Aside0 (LW w W H c (.slice Ar rs.length cr) rs) ∧ Aside0 (∀ r ∈ rs.take i, M.hasB c r.2 = false))
            case atStart => exact ⟨0, by first | rfl | (simp; done), by first | rfl | (simp; done), ⟨by omega⟩, HL, ⟨fun r hr => by simp at hr⟩⟩
            case round =>
              clear HL HG
              obtain ⟨i, rfl, rfl, HG, HL, HN⟩ := hrel
              have hM1 : (M0 : Int) = (rs.length : Int) := by omega
              by_cases hi : i < M0
              · have hil : i < rs.length := by omega
                have e3 : decide ((i : Int) < (rs.length : Int)) = true := decide_eq_true (by omega)
                have e4 : IntKind.i64.wrap ((i : Int) + 1) = ((i + 1 : Nat) : Int) := by
                  rw [i64_w]
                  have := HLn.out.1
                  exact M.w64 (by omega) (by omega)
                obtain ⟨gi, rfl⟩ : ∃ gi, gk = gi + 1 := ⟨gk - 1, by have := HG.out; omega⟩
                obtain ⟨re, hre⟩ : ∃ re, re = rs[i] := ⟨_, rfl⟩
                have hmem : re ∈ rs := by rw [hre]; exact List.getElem_mem hil
                obtain ⟨ad2, ea2, x2⟩ := at_raw (Kd.R_reads' HL.out.rg.out).2.2 i hil
                rw [← hre] at x2
                have HIn := Aside0.mk (HL.out.rg.inn re hmem)
                obtain ⟨Ae, ce, ev2⟩ := Kd.R_slice HIn.out
                rw [ev2] at x2
                have HIn2 := HIn.out
                rw [ev2] at HIn2
                clear HIn
                have HIn := Aside0.mk HIn2
                clear HIn2
                have HRe := Aside0.mk (show re.1 = .slice Ae re.2.length ce ∧ re = rs[i] ∧ re ∈ rs from ⟨ev2, hre, hmem⟩)
                have HRl := Aside0.mk (HLn.out.2 re hmem)
                clear hre hmem ev2
                cases ea2
                obtain ⟨y0, y1⟩ := blk_two HL.out.cb
                have HC1 := Aside0.mk (fun (W : World) (hW : KI.R 3 W w.heap.size (fun k => k < H) (.slice Ae re.2.length ce) re.2) => calls_drawn (has_calls Ae ce re.2 c.f0 W (Kd.R_reads' hW).2.2 (Kd.R_reads' hW).2.1 (by have := HRl.out; omega)))
                have HC2 := Aside0.mk (fun (W : World) (hW : KI.R 3 W w.heap.size (fun k => k < H) (.slice Ae re.2.length ce) re.2) => calls_drawn (has_calls Ae ce re.2 c.f1 W (Kd.R_reads' hW).2.2 (Kd.R_reads' hW).2.1 (by have := HRl.out; omega)))
                cases hA : re.2.contains c.f0 with
                | false =>
                  rw [hA] at HC1
                  clear HC2
                  go_wp2_with (go_at_call 45; refine (HC1.out _ HIn.out).mono ?_; rintro e w3 ⟨rfl, hb3⟩; have HL2 := Aside0.mk (HL.out.go hb3); clear HL y0 y1 x2 HC1 hb3; have HL := HL2; clear HL2)
                  go_roundg gi
                  case measure => omega
                  case rel => exact ⟨i + 1, by first | rfl | (simp; done), by first | rfl | (simp; done), ⟨by have := HG.out; omega⟩, HL, ⟨fun r hr => by
                    rw [List.take_succ_eq_append_getElem hil] at hr
                    rcases List.mem_append.1 hr with hr | hr
                    · exact HN.out r hr
                    · rw [List.mem_singleton.1 hr, ← HRe.out.2.1]
                      exact hasB_false (.inl hA)⟩⟩
                | true =>
                  rw [hA] at HC1
                  cases hB : re.2.contains c.f1 with
                  | false =>
                    rw [hB] at HC2
                    go_wp2_with (first | (go_at_call 45; refine (HC1.out _ HIn.out).mono ?_; rintro e w3 ⟨rfl, hb3⟩; have HL2 := Aside0.mk (HL.out.go hb3); have HIn2 := Aside0.mk (Kd.R_below HIn.out hb3); clear HL y0 y1 x2 HC1 HIn hb3; have HL := HL2; have HIn := HIn2; clear HL2 HIn2; obtain ⟨y0, y1⟩ := blk_two HL.out.cb) | (go_at_call 45; refine (HC2.out _ HIn.out).mono ?_; rintro e w3 ⟨rfl, hb3⟩; have HL2 := Aside0.mk (HL.out.go hb3); clear HL y0 y1 HC2 hb3; have HL := HL2; clear HL2))
                    go_roundg gi
                    case measure => omega
                    case rel => exact ⟨i + 1, by first | rfl | (simp; done), by first | rfl | (simp; done), ⟨by have := HG.out; omega⟩, HL, ⟨fun r hr => by
                      rw [List.take_succ_eq_append_getElem hil] at hr
                      rcases List.mem_append.1 hr with hr | hr
                      · exact HN.out r hr
                      · rw [List.mem_singleton.1 hr, ← HRe.out.2.1]
                        exact hasB_false (.inr hB)⟩⟩
                  | true =>
                    rw [hB] at HC2
                    go_wp2_with (first | (go_at_call 45; refine (HC1.out _ HIn.out).mono ?_; rintro e w3 ⟨rfl, hb3⟩; have HL2 := Aside0.mk (HL.out.go hb3); have HIn2 := Aside0.mk (Kd.R_below HIn.out hb3); clear HL y0 y1 x2 HC1 HIn hb3; have HL := HL2; have HIn := HIn2; clear HL2 HIn2; obtain ⟨y0, y1⟩ := blk_two HL.out.cb) | (go_at_call 45; refine (HC2.out _ HIn.out).mono ?_; rintro e w3 ⟨rfl, hb3⟩; have HL2 := Aside0.mk (HL.out.go hb3); have HIn2 := Aside0.mk (Kd.R_below HIn.out hb3); clear HL y0 y1 HC2 HIn hb3; have HL := HL2; have HIn := HIn2; clear HL2 HIn2))
                    have HW := Aside0.mk (FW.new HL.out)
                    clear HL HIn
                    obtain ⟨M2, hM2⟩ : ∃ M2, M2 = re.2.length := ⟨_, rfl⟩
                    go_loopg [12, 13, 60] M2 (fun gg v12 v13 v60 W => ∃ (q2 : Nat), v60 = .int .i64 q2 ∧ Aside0 (q2 + gg = M2) ∧ Aside0 (FW w W H c (.slice (some ad2) rs.length cr) rs v12 v13 (M.cutIn c (re.2.take q2)) (M.cutOut c (re.2.take q2))))
                    case atStart => exact ⟨0, by first | rfl | (simp; done), ⟨by omega⟩, HW⟩
                    case round =>
                      clear HW
                      obtain ⟨q2, rfl, HG3, HW⟩ := hrel
                      have hM3 : (M2 : Int) = (re.2.length : Int) := by omega
                      by_cases hq2 : q2 < M2
                      · have hql : q2 < re.2.length := by omega
                        have e5 : decide ((q2 : Int) < (re.2.length : Int)) = true := decide_eq_true (by omega)
                        have e6 : IntKind.i64.wrap ((q2 : Int) + 1) = ((q2 + 1 : Nat) : Int) := by
                          rw [i64_w]
                          have := HRl.out
                          exact M.w64 (by omega) (by omega)
                        obtain ⟨g3, rfl⟩ : ∃ g3, gk = g3 + 1 := ⟨gk - 1, by have := HG3.out; omega⟩
                        have hin := HW.out.l.rg.inn re HRe.out.2.2
                        rw [HRe.out.1] at hin
                        obtain ⟨ad3, ea3, x3⟩ := Kd.at_int (Kd.R_reads' hin).2.2 (q2 : Int) (by omega) (by omega)
                        rw [M.rd_int re.2 q2 hql, Int.toNat_natCast] at x3
                        obtain ⟨x, hx⟩ : ∃ x, x = re.2[q2] := ⟨_, rfl⟩
                        rw [← hx] at x3
                        have HX := Aside0.mk hx
                        clear hx hin
                        cases ea3
                        obtain ⟨y0, y1⟩ := blk_two HW.out.l.cb
                        have HLq := Aside0.mk (show (M.cutIn c (re.2.take q2)).length ≤ 1000 ∧ (M.cutOut c (re.2.take q2)).length ≤ 1000 from by
                          have h1 := cutIn_len (c := c) (re.2.take q2)
                          have h2 := cutOut_len (c := c) (re.2.take q2)
                          rw [List.length_take] at h1 h2
                          have := HRl.out
                          omega)
                        have HCI := Aside0.mk (cutIn_succ (c := c) re.2 q2 hql)
                        have HCO := Aside0.mk (cutOut_succ (c := c) re.2 q2 hql)
                        by_cases hci : c.f0 ≤ x ∧ x ≤ c.f1
                        · have e7 : decide (c.f0 ≤ x ∧ x ≤ c.f1) = true := decide_eq_true hci
                          rcases out_cases c x with ⟨e8, ho⟩ | ⟨e8, e9, ho⟩ | ⟨e8, e9, ho⟩
                          all_goals
                            have HOo := Aside0.mk ho
                            clear ho
                            go_wp2_with (first | (go_at_call 37; refine (calls_drawn (in_calls x c.f0 c.f1 _)).mono ?_; rintro e w4 ⟨rfl, hb4⟩; have HW2 := Aside0.mk (HW.out.go hb4); clear HW hb4 y0 y1 x3; have HW := HW2; clear HW2; obtain ⟨y0, y1⟩ := blk_two HW.out.l.cb) | ((with_reducible refine gate_builtin (b := .append) (xs := #[.tmp 70, .tmp 72]) rfl ?_); at_builtin; refine Kd.R_append KI (w0 := w) w.heap.size rfl (.tmp 70) (.tmp 72) 24 3 (.int .i64 0) 8 rfl Try.underlying24 info3 rfl (by decide) (by omega) _ (M.cutIn c (re.2.take q2)) x [.int .i64 x] (fun k => H < k ∧ some k ≠ u13.ownBlock) (fun _ => False) rfl rfl ?aP (fun _ hk => hk.elim) ?aF ?aO ?aB ?aS ?aL ?_; (case aP => exact rfl); (case aO => exact HW.out.i); (case aF => exact HW.out.freshI); (case aB => exact HW.out.l.bl); (case aS => exact HW.out.l.bl.size); (case aL => have := HLq.out.1; omega); intro v9 w9 ho hb hg hat; have HW2 := Aside0.mk (HW.out.appI ho hb hg hat); clear HW ho hb hg hat y0 y1; have HW := HW2; clear HW2; obtain ⟨y0, y1⟩ := blk_two HW.out.l.cb) | ((with_reducible refine gate_builtin (b := .append) (xs := #[.tmp 84, .tmp 86]) rfl ?_); at_builtin; refine Kd.R_append KI (w0 := w) w.heap.size rfl (.tmp 84) (.tmp 86) 24 3 (.int .i64 0) 8 rfl Try.underlying24 info3 rfl (by decide) (by omega) _ (M.cutOut c (re.2.take q2)) x [.int .i64 x] (fun k => H < k ∧ some k ≠ v9.ownBlock) (fun _ => False) rfl rfl ?aP (fun _ hk => hk.elim) ?aF ?aO ?aB ?aS ?aL ?_; (case aP => exact rfl); (case aO => exact HW.out.o); (case aF => exact HW.out.freshO); (case aB => exact HW.out.l.bl); (case aS => exact HW.out.l.bl.size); (case aL => have := HLq.out.2; omega); intro v10 w10 ho hb hg hat; have HW2 := Aside0.mk (HW.out.appO ho hb hg hat); clear HW ho hb hg hat y0 y1; have HW := HW2; clear HW2))
                            go_roundg g3
                            case measure => omega
                            case rel => exact ⟨q2 + 1, by first | rfl | (simp; done), ⟨by have := HG3.out; omega⟩, ⟨by
                              have a1 := HCI.out
                              have a2 := HCO.out
                              rw [← HX.out] at a1 a2
                              rw [if_pos hci] at a1
                              first | rw [if_pos HOo.out] at a2 | rw [if_neg HOo.out, List.append_nil] at a2
                              rw [a1, a2]
                              exact HW.out⟩⟩
                        · have e7 : decide (c.f0 ≤ x ∧ x ≤ c.f1) = false := decide_eq_false hci
                          rcases out_cases c x with ⟨e8, ho⟩ | ⟨e8, e9, ho⟩ | ⟨e8, e9, ho⟩
                          all_goals
                            have HOo := Aside0.mk ho
                            clear ho
                            go_wp2_with (first | (go_at_call 37; refine (calls_drawn (in_calls x c.f0 c.f1 _)).mono ?_; rintro e w4 ⟨rfl, hb4⟩; have HW2 := Aside0.mk (HW.out.go hb4); clear HW hb4 y0 y1 x3; have HW := HW2; clear HW2; obtain ⟨y0, y1⟩ := blk_two HW.out.l.cb) | ((with_reducible refine gate_builtin (b := .append) (xs := #[.tmp 84, .tmp 86]) rfl ?_); at_builtin; refine Kd.R_append KI (w0 := w) w.heap.size rfl (.tmp 84) (.tmp 86) 24 3 (.int .i64 0) 8 rfl Try.underlying24 info3 rfl (by decide) (by omega) _ (M.cutOut c (re.2.take q2)) x [.int .i64 x] (fun k => H < k ∧ some k ≠ u12.ownBlock) (fun _ => False) rfl rfl ?aP (fun _ hk => hk.elim) ?aF ?aO ?aB ?aS ?aL ?_; (case aP => exact rfl); (case aO => exact HW.out.o); (case aF => exact HW.out.freshO); (case aB => exact HW.out.l.bl); (case aS => exact HW.out.l.bl.size); (case aL => have := HLq.out.2; omega); intro v10 w10 ho hb hg hat; have HW2 := Aside0.mk (HW.out.appO ho hb hg hat); clear HW ho hb hg hat y0 y1; have HW := HW2; clear HW2))
                            go_roundg g3
                            case measure => omega
                            case rel => exact ⟨q2 + 1, by first | rfl | (simp; done), ⟨by have := HG3.out; omega⟩, ⟨by
                              have a1 := HCI.out
                              have a2 := HCO.out
                              rw [← HX.out] at a1 a2
                              rw [if_neg hci, List.append_nil] at a1
                              first | rw [if_pos HOo.out] at a2 | rw [if_neg HOo.out, List.append_nil] at a2
                              rw [a1, a2]
                              exact HW.out⟩⟩
                      · have hqe : q2 = re.2.length := by have := HG3.out; omega
                        have e5 : decide ((q2 : Int) < (re.2.length : Int)) = false := decide_eq_false (by omega)
                        have hW := HW.out
                        rw [hqe, List.take_length] at hW
                        clear HW
                        have HW := Aside0.mk hW
                        clear hW
                        have HG0 := Aside0.mk (GW.of HW.out)
                        clear HW
                        obtain ⟨Ai, ci, evi⟩ := Kd.R_slice HG0.out.i
                        obtain ⟨Ao, co, evo⟩ := Kd.R_slice HG0.out.o
                        subst evi evo
                        have e11 : IntKind.i64.wrap ((i : Int) + 1) = ((i + 1 : Nat) : Int) := e4
                        have e12 : i ≤ cr := by omega
                        have e13 : i + 1 ≤ rs.length := by omega
                        have HCap := Aside0.mk hcap
                        have HLi := Aside0.mk (show (M.cutIn c re.2).length ≤ 1000 ∧ (M.cutOut c re.2).length ≤ 1000 from by
                          have h1 := cutIn_len (c := c) re.2
                          have h2 := cutOut_len (c := c) re.2
                          have := HRl.out
                          omega)
                        go_upto_region 24 with (first | ((with_reducible refine gate_builtin (b := .append) (xs := #[.tmp 89, .tmp 92]) rfl ?_); at_builtin; refine Kd.R_append_rows KV (w0 := w) w.heap.size rfl (.tmp 89) (.tmp 92) 37 24 (.slice none 0 0) 24 rfl Try.underlying37 info24 rfl (by decide) (by omega) (.slice (some ⟨wr.heap.size, 0, none⟩) 0 0) [] ((vsOf rs).take i) (some ad2) i cr (fun k => wr.heap.size ≤ k) (fun _ => False) rfl rfl ?bO ?bR (fun _ _ h => h) (fun _ h => h.elim) ?bF ?bB ?bS ?bL ?_; (case bO => exact Kd.R_mono (raw_lit HG0.out.bl.size [] (by simp) (by simp)) (fun k hk => Nat.le_of_eq hk.symm)); (case bR => exact take_reads (Kd.R_reads' (Kd.R_alloc HG0.out.rg.out _)).2.2 (Nat.le_of_lt hil)); (case bF => exact (fun k hk => by rw [size_alloc1] at hk; omega)); (case bB => exact below_alloc HG0.out.bl _); (case bS => exact Nat.le_trans HG0.out.bl.size (by rw [size_alloc1]; omega)); (case bL => have := HLn.out.1; simp only [List.length_nil]; omega); intro v11 w11 ho hb hg hat; have HG1 := Aside0.mk ((HG0.out.go (below_alloc (Below.refl _ _) _)).grown hg (fun k hk => by have hk : some wr.heap.size = some k := hk; injection hk with hk; omega) hb); have HO1 := Aside0.mk ho; clear HG0 ho hb hg hat) | ((with_reducible refine gate_builtin (b := .append) (xs := #[.tmp 93, .tmp 96]) rfl ?_); at_builtin; refine Kd.R_append_rows KV (w0 := w) w.heap.size rfl (.tmp 93) (.tmp 96) 37 24 (.slice none 0 0) 24 rfl Try.underlying37 info24 rfl (by decide) (by omega) v11 ([] ++ (vsOf rs).take i) [[.slice Ai (M.cutIn c re.2).length ci], [.slice Ao (M.cutOut c re.2).length co]] (some ⟨w11.heap.size, 0, none⟩) 2 2 (fun k => wr.heap.size ≤ k) (fun _ => False) rfl rfl ?cO ?cR (fun _ _ h => h) (fun _ h => h.elim) ?cF ?cB ?cS ?cL ?_; (case cO => exact Kd.R_alloc HO1.out _); (case cR => exact (Kd.R_reads' (raw_lit (w := w) HG1.out.bl.size [.slice Ai (M.cutIn c re.2).length ci, .slice Ao (M.cutOut c re.2).length co] (by intro u hu; simp only [List.mem_cons, List.not_mem_nil, or_false] at hu; rcases hu with rfl | rfl <;> rfl) (by simp))).2.2); (case cF => exact (fun k hk => by rw [size_alloc1] at hk; have := HG1.out.hn.2; omega)); (case cB => exact below_alloc HG1.out.bl _); (case cS => exact Nat.le_trans HG1.out.bl.size (by rw [size_alloc1]; omega)); (case cL => have := HLn.out.1; simp only [List.nil_append, List.length_take, vsOf_length]; omega); intro v12 w12 ho hb hg hat; have HG2 := Aside0.mk ((HG1.out.go (below_alloc (Below.refl _ _) _)).grown hg (fun k hk => HO1.out.1 k hk) hb); have HO2 := Aside0.mk ho; clear HG1 HO1 ho hb hg hat))
                        by_cases hcc : cr = i + 1
                        · go_wp2_with ((with_reducible refine gate_builtin (b := .append) (xs := #[.tmp 98, .tmp 102]) rfl ?_); at_builtin; refine Kd.R_append_rows KV (w0 := w) w.heap.size rfl (.tmp 98) (.tmp 102) 37 24 (.slice none 0 0) 24 rfl Try.underlying37 info24 rfl (by decide) (by omega) v12 (([] ++ (vsOf rs).take i) ++ [[.slice Ai (M.cutIn c re.2).length ci], [.slice Ao (M.cutOut c re.2).length co]]) ((vsOf rs).drop (i + 1)) _ (rs.length - (i + 1)) _ (fun k => wr.heap.size ≤ k) (fun _ => False) rfl rfl ?dO1 ?dR1 (fun _ _ h => h) (fun _ h => h.elim) ?dF1 ?dB1 ?dS1 ?dL1 ?_; (case dO1 => exact HO2.out); (case dR1 => have e := drop_reads (Kd.R_reads' HG2.out.rg.out).2.2 e13 HCap.out; first | (rw [if_pos hcc] at e; exact e) | (rw [if_neg hcc] at e; exact e)); (case dF1 => exact (fun k hk => by have := HG2.out.hn.2; omega)); (case dB1 => exact HG2.out.bl); (case dS1 => exact HG2.out.bl.size); (case dL1 => have := HLn.out.1; simp only [List.nil_append, List.length_append, List.length_take, vsOf_length, List.length_cons, List.length_nil]; omega); intro v13 w13 ho hb hg hat; have HG3 := Aside0.mk (HG2.out.grown hg (fun k hk => HO2.out.1 k hk) hb); have HO3 := Aside0.mk ho; clear HG2 HO2 ho hb hg hat)
                          go_meet
                          case rel =>
                            refine ⟨rs.take i ++ (.slice Ai (M.cutIn c re.2).length ci, M.cutIn c re.2) :: (.slice Ao (M.cutOut c re.2).length co, M.cutOut c re.2) :: rs.drop (i + 1), ⟨HG3.out.bl⟩, ⟨⟨?_, fun r hr => ?_⟩⟩, ⟨dist_split HD.out HG3.out.ne.1 HG3.out.ne.2⟩, ⟨by rw [split_len rs i hil]; have := HLn.out.1; omega, fun r hr => ?_⟩, ⟨?_⟩⟩
                            · rw [split_vs]
                              exact Kd.R_mono HO3.out (fun _ _ => trivial)
                            · rcases split_mem hr with hr | rfl | rfl
                              · exact Kd.R_mono (HG3.out.rg.inn r hr) (fun _ _ => trivial)
                              · exact Kd.R_mono HG3.out.i (fun _ _ => trivial)
                              · exact Kd.R_mono HG3.out.o (fun _ _ => trivial)
                            · rcases split_mem hr with hr | rfl | rfl
                              · exact HLn.out.2 r hr
                              · exact HLi.out.1
                              · exact HLi.out.2
                            · have e : rs.map (·.2) = (rs.take i).map (·.2) ++ re.2 :: (rs.drop (i + 1)).map (·.2) := by
                                conv => lhs; rw [← List.take_append_drop i rs, List.drop_eq_getElem_cons hil, ← HRe.out.2.1]
                                rw [List.map_append, List.map_cons]
                              rw [e, stepR_at _ _ _ (fun x hx => by
                                obtain ⟨r, hr, rfl⟩ := List.mem_map.1 hx
                                exact HN.out r hr) (hasB_true hA hB), List.map_append, List.map_cons, List.map_cons]
                        · go_wp2_with ((with_reducible refine gate_builtin (b := .append) (xs := #[.tmp 98, .tmp 102]) rfl ?_); at_builtin; refine Kd.R_append_rows KV (w0 := w) w.heap.size rfl (.tmp 98) (.tmp 102) 37 24 (.slice none 0 0) 24 rfl Try.underlying37 info24 rfl (by decide) (by omega) v12 (([] ++ (vsOf rs).take i) ++ [[.slice Ai (M.cutIn c re.2).length ci], [.slice Ao (M.cutOut c re.2).length co]]) ((vsOf rs).drop (i + 1)) _ (rs.length - (i + 1)) _ (fun k => wr.heap.size ≤ k) (fun _ => False) rfl rfl ?dO2 ?dR2 (fun _ _ h => h) (fun _ h => h.elim) ?dF2 ?dB2 ?dS2 ?dL2 ?_; (case dO2 => exact HO2.out); (case dR2 => have e := drop_reads (Kd.R_reads' HG2.out.rg.out).2.2 e13 HCap.out; first | (rw [if_pos hcc] at e; exact e) | (rw [if_neg hcc] at e; exact e)); (case dF2 => exact (fun k hk => by have := HG2.out.hn.2; omega)); (case dB2 => exact HG2.out.bl); (case dS2 => exact HG2.out.bl.size); (case dL2 => have := HLn.out.1; simp only [List.nil_append, List.length_append, List.length_take, vsOf_length, List.length_cons, List.length_nil]; omega); intro v13 w13 ho hb hg hat; have HG3 := Aside0.mk (HG2.out.grown hg (fun k hk => HO2.out.1 k hk) hb); have HO3 := Aside0.mk ho; clear HG2 HO2 ho hb hg hat)
                          go_meet
                          case rel =>
                            refine ⟨rs.take i ++ (.slice Ai (M.cutIn c re.2).length ci, M.cutIn c re.2) :: (.slice Ao (M.cutOut c re.2).length co, M.cutOut c re.2) :: rs.drop (i + 1), ⟨HG3.out.bl⟩, ⟨⟨?_, fun r hr => ?_⟩⟩, ⟨dist_split HD.out HG3.out.ne.1 HG3.out.ne.2⟩, ⟨by rw [split_len rs i hil]; have := HLn.out.1; omega, fun r hr => ?_⟩, ⟨?_⟩⟩
                            · rw [split_vs]
                              exact Kd.R_mono HO3.out (fun _ _ => trivial)
                            · rcases split_mem hr with hr | rfl | rfl
                              · exact Kd.R_mono (HG3.out.rg.inn r hr) (fun _ _ => trivial)
                              · exact Kd.R_mono HG3.out.i (fun _ _ => trivial)
                              · exact Kd.R_mono HG3.out.o (fun _ _ => trivial)
                            · rcases split_mem hr with hr | rfl | rfl
                              · exact HLn.out.2 r hr
                              · exact HLi.out.1
                              · exact HLi.out.2
                            · have e : rs.map (·.2) = (rs.take i).map (·.2) ++ re.2 :: (rs.drop (i + 1)).map (·.2) := by
                                conv => lhs; rw [← List.take_append_drop i rs, List.drop_eq_getElem_cons hil, ← HRe.out.2.1]
                                rw [List.map_append, List.map_cons]
                              rw [e, stepR_at _ _ _ (fun x hx => by
                                obtain ⟨r, hr, rfl⟩ := List.mem_map.1 hx
                                exact HN.out r hr) (hasB_true hA hB), List.map_append, List.map_cons, List.map_cons]
              · have hie : i = rs.length := by have := HG.out; omega
                have e3 : decide ((i : Int) < (rs.length : Int)) = false := decide_eq_false (by omega)
                go_wp2_with fail
                go_meet
                case rel => exact ⟨rs, ⟨HL.out.bl⟩, ⟨HL.out.rg.mono (fun _ _ => trivial)⟩, HD, ⟨by have := HLn.out.1; omega, HLn.out.2⟩, ⟨(stepR_none _ (fun r hr => by
                  obtain ⟨x, hx, rfl⟩ := List.mem_map.1 hr
                  exact HN.out x (by rw [hie, List.take_length]; exact hx))).symm⟩⟩
          case rest =>
            obtain ⟨rs', K1, K2, K3, K4, K5⟩ := hcut
            clear HL HB HR HC
            go_wp2_with fail
            go_roundg gm
            case measure => omega
            case rel => exact ⟨j + 1, rs', by first | rfl | (simp; done), ⟨by have := HG.out; omega⟩, K1, K2, K3, K4, ⟨by rw [K5.out]; exact HF2.out⟩⟩
        · have hjN : j = l1.length := by have := HG.out; omega
          have hF := HF.out
          rw [hjN, List.drop_length, M.foldR] at hF
          have HF2 := Aside0.mk hF
          clear hF HF
          have e1 : decide ((j : Int) < (l1.length : Int)) = false := decide_eq_false (by omega)
          have hrl : rs.length ≤ 1001 := by have := HLn.out.1; omega
          have e1' : decide (j < l1.length) = false := decide_eq_false (by omega)
          clear hjN hj
          obtain ⟨Ar, cr, ev, hcap, hC⟩ := HR.out.slice
          subst ev
          clear hC
          go_wp2_with fail
          clear e1 e1'
          obtain ⟨M0, hM0⟩ : ∃ M0, M0 = rs.length := ⟨_, rfl⟩
          go_loopg [17, 108] M0 (fun gg v17 v108 W => ∃ (i : Nat) (os : RL), v108 = .int .i64 i ∧ Aside0 (i + gg = M0) ∧ Aside0 (Below w.heap.size w W) ∧ Aside0 (Regs w W (fun _ => True) (.slice Ar rs.length cr) rs) ∧ Aside0 (KV.R 24 W w.heap.size (fun _ => True) v17 (vsOf os)) ∧ Aside0 (os.Perm (rs.take i)) ∧ Aside0 (os.map (·.2) = ((rs.take i).map (·.2)).foldl (insB M.lexB) []) ∧ Aside0 (os = [] → v17 = .slice none 0 0))
          case atStart => exact ⟨0, [], by first | rfl | (simp; done), ⟨by omega⟩, HB, HR, ⟨Kd.R_nil _ _ _ _ _⟩, ⟨List.Perm.refl _⟩, ⟨rfl⟩, ⟨fun _ => rfl⟩⟩
          case round =>
            clear HB HR
            obtain ⟨i, os, rfl, HGi, HB, HR, HO2, HPm, HMp, HNl⟩ := hrel
            have hM1 : (M0 : Int) = (rs.length : Int) := by omega
            by_cases hi : i < M0
            · have hil : i < rs.length := by omega
              have e3 : decide ((i : Int) < (rs.length : Int)) = true := decide_eq_true (by omega)
              have e4 : IntKind.i64.wrap ((i : Int) + 1) = ((i + 1 : Nat) : Int) := by
                rw [i64_w]
                exact M.w64 (by omega) (by omega)
              obtain ⟨gi, rfl⟩ : ∃ gi, gk = gi + 1 := ⟨gk - 1, by have := HGi.out; omega⟩
              obtain ⟨re, hre⟩ : ∃ re, re = rs[i] := ⟨_, rfl⟩
              have hmem : re ∈ rs := by rw [hre]; exact List.getElem_mem hil
              obtain ⟨ad2, ea2, x2⟩ := at_raw (Kd.R_reads' HR.out.out).2.2 i hil
              rw [← hre] at x2
              obtain ⟨Ae, ce, ev2⟩ := Kd.R_slice (HR.out.inn re hmem)
              rw [ev2] at x2
              have HRe := Aside0.mk (show re.1 = .slice Ae re.2.length ce ∧ re = rs[i] ∧ re ∈ rs from ⟨ev2, hre, hmem⟩)
              have HRl := Aside0.mk (HLn.out.2 re hmem)
              clear hre hmem ev2
              cases ea2
              obtain ⟨N2, hN2⟩ : ∃ N2, N2 = wr.heap.size := ⟨_, rfl⟩
              have hbw := BW.now HB.out HR.out HO2.out
              rw [← hN2] at hbw
              have HBW := Aside0.mk hbw
              have hosl : os.length = i := by rw [HPm.out.length_eq, List.length_take]; omega
              have HLo := Aside0.mk (show os.length ≤ 1001 by omega)
              have HOl := Aside0.mk hosl
              clear hbw HB HR HO2 hN2 hosl
              obtain ⟨Ao, co, evo, hoc⟩ : ∃ Ao co, u17 = .slice Ao os.length co ∧ os.length ≤ co := by
                obtain ⟨A, c', e, hl, _⟩ := Kd.R_reads HBW.out.og
                rw [vsOf_length] at e hl
                exact ⟨A, c', e, hl⟩
              subst evo
              have HOc := Aside0.mk hoc
              clear hoc
              go_upto_block 10 with fail
              go_cut [20] from 1 to 0 (fun v20 wc => v20 = .int .i64 ((backK M.lexB re.2 (os.map (·.2)) os.length : Nat) : Int) ∧ Aside0 (BW w wc N2 (.slice (some ad2) rs.length cr) rs (.slice Ao os.length co) os))
              case first =>
                clear x2
                go_wp2_with fail
                obtain ⟨L0, hL0⟩ : ∃ L0, L0 = os.length := ⟨_, rfl⟩
                go_loopg [20] L0 (fun gg v20 W => ∃ (k : Nat), v20 = .int .i64 k ∧ Aside0 (k = gg ∧ k ≤ os.length) ∧ Aside0 (BW w W N2 (.slice (some ad2) rs.length cr) rs (.slice Ao os.length co) os) ∧ Aside0 (backK M.lexB re.2 (os.map (·.2)) k = backK M.lexB re.2 (os.map (·.2)) os.length))
                case atStart => exact ⟨os.length, by first | rfl | (simp; done), ⟨by omega⟩, HBW, ⟨rfl⟩⟩
                case round =>
                  clear HBW
                  obtain ⟨k, rfl, HK, HBW, HQ⟩ := hrel
                  by_cases hk0 : k = 0
                  · have e6 : decide (0 < (k : Int)) = false := decide_eq_false (by omega)
                    have E7 := Aside0.mk (show (k : Int) = ((backK M.lexB re.2 (os.map (·.2)) os.length : Nat) : Int) by
                      rw [← HQ.out, hk0]; rfl)
                    have e9 : decide (0 < k) = false := decide_eq_false (by omega)
                    clear hk0
                    go_wp2_with fail
                    go_meet
                    case rel => exact ⟨by rw [E7.out], HBW⟩
                  · obtain ⟨k', hk'⟩ : ∃ k', k = k' + 1 := ⟨k - 1, by omega⟩
                    have hkl : k' < os.length := by have := HK.out; omega
                    have e6 : decide (0 < (k : Int)) = true := decide_eq_true (by omega)
                    have e7 : IntKind.i64.wrap ((k : Int) - 1) = (k' : Int) := by
                      rw [i64_w, M.w64 (by omega) (by have := HLo.out; omega)]
                      omega
                    obtain ⟨gj, rfl⟩ : ∃ gj, gk = gj + 1 := ⟨gk - 1, by have := HK.out; omega⟩
                    obtain ⟨oe, hoe⟩ : ∃ oe, oe = os[k'] := ⟨_, rfl⟩
                    have hom : oe ∈ rs := List.mem_of_mem_take (HPm.out.mem_iff.1 (by rw [hoe]; exact List.getElem_mem hkl))
                    obtain ⟨ad5, ea5, x5⟩ := at_raw (Kd.R_reads' HBW.out.og).2.2 k' hkl
                    rw [← hoe] at x5
                    obtain ⟨Aq, cq, evq⟩ := Kd.R_slice (HBW.out.rg.inn oe hom)
                    rw [evq] at x5
                    have hq1 := HBW.out.rg.inn oe hom
                    rw [evq] at hq1
                    have hq2 := HBW.out.rg.inn re HRe.out.2.2
                    rw [HRe.out.1] at hq2
                    have HC := Aside0.mk (calls_drawn (less_calls Ae ce re.2 Aq cq oe.2 wr (Kd.R_reads' hq2).2.2 (Kd.R_reads' hq2).2.1 (Kd.R_reads' hq1).2.2 (Kd.R_reads' hq1).2.1 (by have := HRl.out; omega)))
                    have HQ2 := Aside0.mk (show backK M.lexB re.2 (os.map (·.2)) k = if M.lexB re.2 oe.2 = true then backK M.lexB re.2 (os.map (·.2)) k' else k by
                      rw [hk', backK, List.getD_eq_getElem?_getD, List.getElem?_map, List.getElem?_eq_getElem hkl, ← hoe]
                      rfl)
                    have HKe := Aside0.mk hk'
                    cases ea5
                    clear hoe evq hq1 hq2 hk'
                    cases hlt : M.lexB re.2 oe.2 with
                    | true =>
                      rw [hlt] at HC
                      go_wp2_with (go_at_call 60; refine HC.out.mono ?_; rintro e w15 ⟨rfl, hb15⟩; have HBW2 := Aside0.mk (HBW.out.go hb15); clear HBW HC hb15 x5; have HBW := HBW2; clear HBW2)
                      go_roundg gj
                      case measure => omega
                      case rel => exact ⟨k', by first | rfl | (simp; done), ⟨by have := HK.out; have := HKe.out; omega⟩, HBW, ⟨by rw [← HQ.out, HQ2.out, if_pos hlt]⟩⟩
                    | false =>
                      rw [hlt] at HC
                      have E8 := Aside0.mk (show (k : Int) = ((backK M.lexB re.2 (os.map (·.2)) os.length : Nat) : Int) by
                        rw [← HQ.out, HQ2.out, if_neg (by rw [hlt]; decide)])
                      go_wp2_with (go_at_call 60; refine HC.out.mono ?_; rintro e w15 ⟨rfl, hb15⟩; have HBW2 := Aside0.mk (HBW.out.go hb15); clear HBW HC hb15 x5; have HBW := HBW2; clear HBW2)
                      go_meet
                      case rel => exact ⟨by rw [E8.out], HBW⟩
              case rest =>
                obtain ⟨rfl, HBW2⟩ := hcut
                clear HBW x2
                have HBW := HBW2
                clear HBW2
                obtain ⟨K0, hK⟩ : ∃ K0, K0 = backK M.lexB re.2 (os.map (·.2)) os.length := ⟨_, rfl⟩
                rw [← hK]
                have HKd := Aside0.mk hK
                have HK0 := Aside0.mk (show K0 ≤ os.length by rw [hK]; exact backK_le _ _ _ _)
                clear hK
                have hk1 : K0 ≤ co := by have := HK0.out; have := HOc.out; omega
                have hk2 : K0 ≤ os.length := HK0.out
                rcases (show (os = [] ∧ Ao = none ∧ co = 0) ∨ ∃ ad5, Ao = some ad5 by
                  by_cases h0 : os = []
                  · have e := HNl.out h0
                    injection e with q1 q2 q3
                    exact .inl ⟨h0, q1, q3⟩
                  · right
                    obtain ⟨ad5, e5, _⟩ := at_raw (Kd.R_reads' HBW.out.og).2.2 0 (List.length_pos_iff.2 h0)
                    exact ⟨ad5, e5⟩) with ⟨rfl, rfl, rfl⟩ | ⟨ad5, rfl⟩
                · obtain rfl : K0 = 0 := by simpa using hk2
                  have hcc : (0 : Nat) = 0 := rfl
                  go_upto_region 35 with (first | ((with_reducible refine gate_builtin (b := .append) (xs := #[.tmp 127, .tmp 130]) rfl ?_); at_builtin; refine Kd.R_append_rows KV (w0 := w) w.heap.size rfl (.tmp 127) (.tmp 130) 37 24 (.slice none 0 0) 24 rfl Try.underlying37 info24 rfl (by decide) (by omega) (.slice (some ⟨wc.heap.size, 0, none⟩) 0 0) [] ((vsOf []).take 0) none 0 0 (fun k => N2 ≤ k) (fun _ => False) rfl rfl ?pOn ?pRn (fun _ _ h => h) (fun _ h => h.elim) ?pFn ?pBn ?pSn ?pLn ?_; (case pOn => exact Kd.R_mono (raw_lit HBW.out.bl.size [] (by simp) (by simp)) (fun k hk => by have := HBW.out.hn.2; omega)); (case pRn => exact take_reads (Kd.R_reads' (Kd.R_alloc HBW.out.og _)).2.2 HK0.out); (case pFn => exact (fun k hk => by rw [size_alloc1] at hk; have := HBW.out.hn.2; omega)); (case pBn => exact below_alloc HBW.out.bl _); (case pSn => exact Nat.le_trans HBW.out.bl.size (by rw [size_alloc1]; omega)); (case pLn => have := HLo.out; have := HK0.out; simp only [List.length_nil]; omega); intro v21 w21 ho hb hg hat; have HB1 := Aside0.mk ((HBW.out.go (below_alloc (Below.refl _ _) _)).grown hg (fun k hk => by have hk : some wc.heap.size = some k := hk; injection hk with hk; have := HBW.out.hn.2; omega) hb); have HP1 := Aside0.mk ho; clear HBW ho hb hg hat) | ((with_reducible refine gate_builtin (b := .append) (xs := #[.tmp 131, .tmp 133]) rfl ?_); at_builtin; refine Kd.R_append_rows KV (w0 := w) w.heap.size rfl (.tmp 131) (.tmp 133) 37 24 (.slice none 0 0) 24 rfl Try.underlying37 info24 rfl (by decide) (by omega) v21 ([] ++ (vsOf []).take 0) [[.slice Ae re.2.length ce]] (some ⟨w21.heap.size, 0, none⟩) 1 1 (fun k => N2 ≤ k) (fun _ => False) rfl rfl ?qOn ?qRn (fun _ _ h => h) (fun _ h => h.elim) ?qFn ?qBn ?qSn ?qLn ?_; (case qOn => exact Kd.R_alloc HP1.out _); (case qRn => exact (Kd.R_reads' (raw_lit (w := w) HB1.out.bl.size [.slice Ae re.2.length ce] (by intro u hu; rw [List.mem_singleton.1 hu]; rfl) (by simp))).2.2); (case qFn => exact (fun k hk => by rw [size_alloc1] at hk; have := HB1.out.hn.2; omega)); (case qBn => exact below_alloc HB1.out.bl _); (case qSn => exact Nat.le_trans HB1.out.bl.size (by rw [size_alloc1]; omega)); (case qLn => have := HLo.out; simp only [List.nil_append, List.length_take, vsOf_length]; omega); intro v22 w22 ho hb hg hat; have HB2 := Aside0.mk ((HB1.out.go (below_alloc (Below.refl _ _) _)).grown hg (fun k hk => HP1.out.1 k hk) hb); have HP2 := Aside0.mk ho; clear HB1 HP1 ho hb hg hat))
                  go_wp2_with ((with_reducible refine gate_builtin (b := .append) (xs := #[.tmp 135, .tmp 138]) rfl ?_); at_builtin; refine Kd.R_append_rows KV (w0 := w) w.heap.size rfl (.tmp 135) (.tmp 138) 37 24 (.slice none 0 0) 24 rfl Try.underlying37 info24 rfl (by decide) (by omega) v22 (([] ++ (vsOf []).take 0) ++ [[.slice Ae re.2.length ce]]) ((vsOf []).drop 0) _ 0 _ (fun k => N2 ≤ k) (fun _ => False) rfl rfl ?sOn ?sRn (fun _ _ h => h) (fun _ h => h.elim) ?sFn ?sBn ?sSn ?sLn ?_; (case sOn => exact HP2.out); (case sRn => have e := drop_reads (Kd.R_reads' HB2.out.og).2.2 HK0.out HOc.out; first | (rw [if_pos hcc] at e; exact e) | (rw [if_neg hcc] at e; exact e)); (case sFn => exact (fun k hk => by have := HB2.out.hn.2; omega)); (case sBn => exact HB2.out.bl); (case sSn => exact HB2.out.bl.size); (case sLn => have := HLo.out; simp only [List.nil_append, List.length_append, List.length_take, vsOf_length, List.length_cons, List.length_nil]; omega); intro v23 w23 ho hb hg hat; have HB3 := Aside0.mk (HB2.out.grown hg (fun k hk => HP2.out.1 k hk) hb); have HP3 := Aside0.mk ho; clear HB2 HP2 ho hb hg hat)
                  go_roundg gi
                  case measure => omega
                  case rel => exact ⟨i + 1, ([] : RL).take 0 ++ re :: ([] : RL).drop 0, by first | rfl | (simp; done), ⟨by have := HGi.out; omega⟩, ⟨HB3.out.bl⟩, ⟨HB3.out.rg.mono (fun _ _ => trivial)⟩, ⟨by rw [vs_ins, HRe.out.1]; exact Kd.R_mono HP3.out (fun _ _ => trivial)⟩, ⟨ins_perm hil HPm.out HRe.out.2.1⟩, ⟨ins_map hil HMp.out HRe.out.2.1 HKd.out⟩, ⟨fun e => absurd e (by simp)⟩⟩
                · have hdum : True := trivial
                  go_upto_region 35 with (first | ((with_reducible refine gate_builtin (b := .append) (xs := #[.tmp 127, .tmp 130]) rfl ?_); at_builtin; refine Kd.R_append_rows KV (w0 := w) w.heap.size rfl (.tmp 127) (.tmp 130) 37 24 (.slice none 0 0) 24 rfl Try.underlying37 info24 rfl (by decide) (by omega) (.slice (some ⟨wc.heap.size, 0, none⟩) 0 0) [] ((vsOf os).take K0) (some ad5) K0 co (fun k => N2 ≤ k) (fun _ => False) rfl rfl ?pOm ?pRm (fun _ _ h => h) (fun _ h => h.elim) ?pFm ?pBm ?pSm ?pLm ?_; (case pOm => exact Kd.R_mono (raw_lit HBW.out.bl.size [] (by simp) (by simp)) (fun k hk => by have := HBW.out.hn.2; omega)); (case pRm => exact take_reads (Kd.R_reads' (Kd.R_alloc HBW.out.og _)).2.2 HK0.out); (case pFm => exact (fun k hk => by rw [size_alloc1] at hk; have := HBW.out.hn.2; omega)); (case pBm => exact below_alloc HBW.out.bl _); (case pSm => exact Nat.le_trans HBW.out.bl.size (by rw [size_alloc1]; omega)); (case pLm => have := HLo.out; have := HK0.out; simp only [List.length_nil]; omega); intro v21 w21 ho hb hg hat; have HB1 := Aside0.mk ((HBW.out.go (below_alloc (Below.refl _ _) _)).grown hg (fun k hk => by have hk : some wc.heap.size = some k := hk; injection hk with hk; have := HBW.out.hn.2; omega) hb); have HP1 := Aside0.mk ho; clear HBW ho hb hg hat) | ((with_reducible refine gate_builtin (b := .append) (xs := #[.tmp 131, .tmp 133]) rfl ?_); at_builtin; refine Kd.R_append_rows KV (w0 := w) w.heap.size rfl (.tmp 131) (.tmp 133) 37 24 (.slice none 0 0) 24 rfl Try.underlying37 info24 rfl (by decide) (by omega) v21 ([] ++ (vsOf os).take K0) [[.slice Ae re.2.length ce]] (some ⟨w21.heap.size, 0, none⟩) 1 1 (fun k => N2 ≤ k) (fun _ => False) rfl rfl ?qOm ?qRm (fun _ _ h => h) (fun _ h => h.elim) ?qFm ?qBm ?qSm ?qLm ?_; (case qOm => exact Kd.R_alloc HP1.out _); (case qRm => exact (Kd.R_reads' (raw_lit (w := w) HB1.out.bl.size [.slice Ae re.2.length ce] (by intro u hu; rw [List.mem_singleton.1 hu]; rfl) (by simp))).2.2); (case qFm => exact (fun k hk => by rw [size_alloc1] at hk; have := HB1.out.hn.2; omega)); (case qBm => exact below_alloc HB1.out.bl _); (case qSm => exact Nat.le_trans HB1.out.bl.size (by rw [size_alloc1]; omega)); (case qLm => have := HLo.out; simp only [List.nil_append, List.length_take, vsOf_length]; omega); intro v22 w22 ho hb hg hat; have HB2 := Aside0.mk ((HB1.out.go (below_alloc (Below.refl _ _) _)).grown hg (fun k hk => HP1.out.1 k hk) hb); have HP2 := Aside0.mk ho; clear HB1 HP1 ho hb hg hat))
                  by_cases hcc : co = K0
                  · go_wp2_with ((with_reducible refine gate_builtin (b := .append) (xs := #[.tmp 135, .tmp 138]) rfl ?_); at_builtin; refine Kd.R_append_rows KV (w0 := w) w.heap.size rfl (.tmp 135) (.tmp 138) 37 24 (.slice none 0 0) 24 rfl Try.underlying37 info24 rfl (by decide) (by omega) v22 (([] ++ (vsOf os).take K0) ++ [[.slice Ae re.2.length ce]]) ((vsOf os).drop K0) _ (os.length - K0) _ (fun k => N2 ≤ k) (fun _ => False) rfl rfl ?sOm1 ?sRm1 (fun _ _ h => h) (fun _ h => h.elim) ?sFm1 ?sBm1 ?sSm1 ?sLm1 ?_; (case sOm1 => exact HP2.out); (case sRm1 => have e := drop_reads (Kd.R_reads' HB2.out.og).2.2 HK0.out HOc.out; first | (rw [if_pos hcc] at e; exact e) | (rw [if_neg hcc] at e; exact e)); (case sFm1 => exact (fun k hk => by have := HB2.out.hn.2; omega)); (case sBm1 => exact HB2.out.bl); (case sSm1 => exact HB2.out.bl.size); (case sLm1 => have := HLo.out; simp only [List.nil_append, List.length_append, List.length_take, vsOf_length, List.length_cons, List.length_nil]; omega); intro v23 w23 ho hb hg hat; have HB3 := Aside0.mk (HB2.out.grown hg (fun k hk => HP2.out.1 k hk) hb); have HP3 := Aside0.mk ho; clear HB2 HP2 ho hb hg hat)
                    go_roundg gi
                    case measure => omega
                    case rel => exact ⟨i + 1, os.take K0 ++ re :: os.drop K0, by first | rfl | (simp; done), ⟨by have := HGi.out; omega⟩, ⟨HB3.out.bl⟩, ⟨HB3.out.rg.mono (fun _ _ => trivial)⟩, ⟨by rw [vs_ins, HRe.out.1]; exact Kd.R_mono HP3.out (fun _ _ => trivial)⟩, ⟨ins_perm hil HPm.out HRe.out.2.1⟩, ⟨ins_map hil HMp.out HRe.out.2.1 HKd.out⟩, ⟨fun e => absurd e (by simp)⟩⟩
                  · go_wp2_with ((with_reducible refine gate_builtin (b := .append) (xs := #[.tmp 135, .tmp 138]) rfl ?_); at_builtin; refine Kd.R_append_rows KV (w0 := w) w.heap.size rfl (.tmp 135) (.tmp 138) 37 24 (.slice none 0 0) 24 rfl Try.underlying37 info24 rfl (by decide) (by omega) v22 (([] ++ (vsOf os).take K0) ++ [[.slice Ae re.2.length ce]]) ((vsOf os).drop K0) _ (os.length - K0) _ (fun k => N2 ≤ k) (fun _ => False) rfl rfl ?sOm2 ?sRm2 (fun _ _ h => h) (fun _ h => h.elim) ?sFm2 ?sBm2 ?sSm2 ?sLm2 ?_; (case sOm2 => exact HP2.out); (case sRm2 => have e := drop_reads (Kd.R_reads' HB2.out.og).2.2 HK0.out HOc.out; first | (rw [if_pos hcc] at e; exact e) | (rw [if_neg hcc] at e; exact e)); (case sFm2 => exact (fun k hk => by have := HB2.out.hn.2; omega)); (case sBm2 => exact HB2.out.bl); (case sSm2 => exact HB2.out.bl.size); (case sLm2 => have := HLo.out; simp only [List.nil_append, List.length_append, List.length_take, vsOf_length, List.length_cons, List.length_nil]; omega); intro v23 w23 ho hb hg hat; have HB3 := Aside0.mk (HB2.out.grown hg (fun k hk => HP2.out.1 k hk) hb); have HP3 := Aside0.mk ho; clear HB2 HP2 ho hb hg hat)
                    go_roundg gi
                    case measure => omega
                    case rel => exact ⟨i + 1, os.take K0 ++ re :: os.drop K0, by first | rfl | (simp; done), ⟨by have := HGi.out; omega⟩, ⟨HB3.out.bl⟩, ⟨HB3.out.rg.mono (fun _ _ => trivial)⟩, ⟨by rw [vs_ins, HRe.out.1]; exact Kd.R_mono HP3.out (fun _ _ => trivial)⟩, ⟨ins_perm hil HPm.out HRe.out.2.1⟩, ⟨ins_map hil HMp.out HRe.out.2.1 HKd.out⟩, ⟨fun e => absurd e (by simp)⟩⟩
            · have hie : i = rs.length := by have := HGi.out; omega
              have e3 : decide ((i : Int) < (rs.length : Int)) = false := decide_eq_false (by omega)
              have hdum : True := trivial
              have hPm := HPm.out
              have hMp := HMp.out
              rw [hie, List.take_length] at hPm hMp
              have HS := Aside0.mk (Regs.S (⟨HO2.out, fun r hr => HR.out.inn r (hPm.mem_iff.1 hr)⟩ : Regs w wr (fun _ => True) u17 os) (dist_perm hPm.symm HD.out))
              rw [hMp, HF2.out] at HS
              clear hPm hMp hie
              go_wp2_with fail
              go_ret
              exact ⟨_, by first | rfl | (simp; done), HS.out, HB.out⟩
end Go.Proofs.Ytdeenfpcmaadcaa.Pr
namespace Go.Proofs.Ytdeenfpcmaadcaa.Pr
open Go.RowKit Go.Proofs.YtdeenfpcmaadcaaW.PrintWords Go.Proofs.YtdeenfpcmaadcaaW.PrintLast Go.Proofs.YtdeenfpcmaadcaaW.PrintMore
attribute [local go_sem] max2_int min2_int max_two min_two max_three min_three max_four min_four
def spec_srPoints.f (a0 : Int) : Option (Bool) := (spec_l1In.f a0 3 60).bind fun t185 => (some t185)
set_option maxHeartbeats 8000000 in
set_option maxRecDepth 100000 in
theorem spec_srPoints.calls (a0 : Int) (r : Bool) (w : World) (h : spec_srPoints.f a0 = some r) :
  Calls Try.prog 69 #[.int .i64 a0] w fun e w' => e = .returned (.bool r) ∧ Drawn0 w w' := by
 have H : ((spec_l1In.f a0 3 60).bind fun t185 => (some t185)) = some r := h
 clear h
 replace H := bI H
 obtain ⟨t185, A20, H⟩ := H
 replace H : (some t185) = some r := H
 have A2 := Aside0.mk A20
 clear A20
 obtain rfl := oI H
 go_enter Try.func69, Try.ntmps69
 go_wp2_with (first | ((with_reducible refine gate_callee (f := 37) rfl ?_); refine goesL_ (some 4) rfl rfl Try.func37 (by kernel_rfl) rfl #[.int .i64 a0, .int .i64 3, .int .i64 60] rfl ar_ ?_; (with_reducible refine (spec_l1In.calls a0 3 60 t185 _ A2.out).mono ?_); rintro e w' ⟨rfl, ⟨nd, rfl⟩⟩; refine ⟨_, rfl, ?_⟩))
 go_ret
 exact ⟨by first | rfl | (simp; done) | (simp [*]; done), by repeat (first | exact Drawn0.refl _ | apply Drawn0.step)⟩
def spec_srIs.f (a0 : Int) (a1_0 : Int) (a1_1 : Int) : Option (Bool) := (spec_l1In.f a1_0 0 (wrap64 (a0 - 1))).bind fun t187 => (if t187 = true then ((spec_l1In.f a1_1 (wrap64 (a1_0 + 1)) (wrap64 (a0 - 1))).bind fun t188 => (some t188)) else (some false))
set_option maxHeartbeats 8000000 in
set_option maxRecDepth 100000 in
theorem spec_srIs.calls (a0 : Int) (a1_0 : Int) (a1_1 : Int) (r : Bool) (w : World) (h : spec_srIs.f a0 a1_0 a1_1 = some r) :
  Calls Try.prog 70 #[.int .i64 a0, .agg #[.int .i64 a1_0, .int .i64 a1_1]] w fun e w' => e = .returned (.bool r) ∧ Below w.heap.size w w' := by
 have hu47 := Try.underlying47
 have HB := Aside0.mk (Below.refl w.heap.size w)
 have H : ((spec_l1In.f a1_0 0 (wrap64 (a0 - 1))).bind fun t187 => (if t187 = true then ((spec_l1In.f a1_1 (wrap64 (a1_0 + 1)) (wrap64 (a0 - 1))).bind fun t188 => (some t188)) else (some false))) = some r := h
 clear h
 replace H := bI H
 obtain ⟨t187, A30, H⟩ := H
 replace H : (if t187 = true then ((spec_l1In.f a1_1 (wrap64 (a1_0 + 1)) (wrap64 (a0 - 1))).bind fun t188 => (some t188)) else (some false)) = some r := H
 have A3 := Aside0.mk A30
 clear A30
 by_cases c4 : t187 = true
 ·subst c4
  have H1 : ((spec_l1In.f a1_1 (wrap64 (a1_0 + 1)) (wrap64 (a0 - 1))).bind fun t188 => (some t188)) = some r := by rw [if_pos rfl] at H; exact H
  clear H
  have H := H1
  clear H1
  replace H := bI H
  obtain ⟨t188, A50, H⟩ := H
  replace H : (some t188) = some r := H
  have A5 := Aside0.mk A50
  clear A50
  obtain rfl := oI H
  go_enter Try.func70, Try.ntmps70
  go_wp2_with (first | ((with_reducible refine gate_dst (N := 3) rfl ?_); refine box_event ?hg (N := 3) ?hd (cs := #[.int .i64 a1_0, .int .i64 a1_1]) (t := 47) ?hr ?_; (case hd => rfl); (case hg => rfl); (case hr => first | (go_simp; done) | (go_simp; rfl)); intro gb186 hg w6 hbox hb; have n0_ := Aside0.mk (below_step hb_ hb); have n1_ := Aside0.mk (hbox); have n2_ := Aside0.mk ((by rw [hg]; exact (below_size hb_) : w.heap.size ≤ gb186)); have n3_ := Aside0.mk ((by rw [hg]; exact (below_size hb_) : w.heap.size ≤ gb186)); clear HB; have HB := n0_; have BK186 := n1_; have GW186 := n2_; have GE186 := n3_; clear n0_ n1_ n2_ n3_; clear hb hbox hg; have hcz7_0 : w6.cell? ⟨gb186, 0, none⟩ = some (.int .i64 a1_0) := bc_ BK186 0; have hcz7_1 : w6.cell? ⟨gb186, 1, none⟩ = some (.int .i64 a1_1) := bc_ BK186 1; have hfz7_0 := blk_frozen BK186.out 0; have hfz7_1 := blk_frozen BK186.out 1) | ((with_reducible refine gate_callee (f := 37) rfl ?_); refine goesL_ (some 9) rfl rfl Try.func37 (by kernel_rfl) rfl #[.int .i64 a1_0, .int .i64 0, .int .i64 (wrap64 (a0 - 1))] rfl ar_ ?_; (with_reducible refine (spec_l1In.calls a1_0 0 (wrap64 (a0 - 1)) true _ A3.out).mono ?_); rintro e w' ⟨rfl, ⟨nd, rfl⟩⟩; refine ⟨_, rfl, ?_⟩) | (go_at_call 37; (with_reducible refine (spec_l1In.calls a1_1 (wrap64 (a1_0 + 1)) (wrap64 (a0 - 1)) t188 _ A5.out).mono ?_); rintro e w' ⟨rfl, ⟨nd, rfl⟩⟩))
  go_ret
  exact ⟨by first | rfl | (simp [errW_none, errW_some] <;> rfl) | (simp [*, errW_none, errW_some] <;> rfl), hs_ GE186.out⟩
 ·replace c4 := Bool.eq_false_iff.mpr c4
  subst c4
  have H1 : (some false) = some r := by rw [if_neg (show ¬ (false = true) by decide)] at H; exact H
  clear H
  have H := H1
  clear H1
  obtain rfl := oI H
  go_enter Try.func70, Try.ntmps70
  go_wp2_with (first | ((with_reducible refine gate_dst (N := 3) rfl ?_); refine box_event ?hg (N := 3) ?hd (cs := #[.int .i64 a1_0, .int .i64 a1_1]) (t := 47) ?hr ?_; (case hd => rfl); (case hg => rfl); (case hr => first | (go_simp; done) | (go_simp; rfl)); intro gb186 hg w8 hbox hb; have n0_ := Aside0.mk (below_step hb_ hb); have n1_ := Aside0.mk (hbox); have n2_ := Aside0.mk ((by rw [hg]; exact (below_size hb_) : w.heap.size ≤ gb186)); have n3_ := Aside0.mk ((by rw [hg]; exact (below_size hb_) : w.heap.size ≤ gb186)); clear HB; have HB := n0_; have BK186 := n1_; have GW186 := n2_; have GE186 := n3_; clear n0_ n1_ n2_ n3_; clear hb hbox hg; have hcz9_0 : w8.cell? ⟨gb186, 0, none⟩ = some (.int .i64 a1_0) := bc_ BK186 0; have hcz9_1 : w8.cell? ⟨gb186, 1, none⟩ = some (.int .i64 a1_1) := bc_ BK186 1; have hfz9_0 := blk_frozen BK186.out 0; have hfz9_1 := blk_frozen BK186.out 1) | ((with_reducible refine gate_callee (f := 37) rfl ?_); refine goesL_ (some 9) rfl rfl Try.func37 (by kernel_rfl) rfl #[.int .i64 a1_0, .int .i64 0, .int .i64 (wrap64 (a0 - 1))] rfl ar_ ?_; (with_reducible refine (spec_l1In.calls a1_0 0 (wrap64 (a0 - 1)) false _ A3.out).mono ?_); rintro e w' ⟨rfl, ⟨nd, rfl⟩⟩; refine ⟨_, rfl, ?_⟩))
  go_ret
  exact ⟨by first | rfl | (simp [errW_none, errW_some] <;> rfl) | (simp [*, errW_none, errW_some] <;> rfl), hs_ GE186.out⟩
mutual
def spec_cdGood.j0 : Nat → Int → List (S47) → Bool → Option (Bool)
 | 0, _, _, _ => none
 | k + 1, x0, x1, x14 => if x14 = true then (some false) else (spec_cdGood.l0 k x0 x1 x1 (x1.length : Int) 0)
def spec_cdGood.l0 : Nat → Int → List (S47) → List (S47) → Int → Int → Option (Bool)
 | 0, _, _, _, _, _ => none
 | k + 1, x0, x1, x15, x16, x17 => if x17 < x16 then (if 0 ≤ x17 then (if x17 < (x15.length : Int) then ((spec_srIs.f x0 ((rd_T47 x15 x17).f0) ((rd_T47 x15 x17).f1)).bind fun t192 => (if t192 = true then (if x17 > 0 then (if 0 ≤ (wrap64 (x17 - 1)) then (if (wrap64 (x17 - 1)) < (x1.length : Int) then ((spec_srLess.f ((rd_T47 x1 (wrap64 (x17 - 1))).f0) ((rd_T47 x1 (wrap64 (x17 - 1))).f1) ((rd_T47 x15 x17).f0) ((rd_T47 x15 x17).f1)).bind fun t194 => (if t194 = true then (spec_cdGood.l0 k x0 x1 x15 x16 (wrap64 (x17 + 1))) else (some false))) else (none)) else (none)) else (spec_cdGood.l0 k x0 x1 x15 x16 (wrap64 (x17 + 1)))) else (some false))) else (none)) else (none)) else (some true)
end
def spec_cdGood.f (k : Nat) (a0 : Int) (l1 : List (S47)) : Option (Bool) := (spec_srPoints.f a0).bind fun t189 => (if t189 = true then (spec_cdGood.j0 k a0 l1 (decide ((l1.length : Int) > 40))) else (spec_cdGood.j0 k a0 l1 true))
theorem spec_cdGood.mono_l : ∀ k, (∀ y0 y1 y2, LeO (spec_cdGood.j0 k y0 y1 y2) (spec_cdGood.j0 (k + 1) y0 y1 y2)) ∧ (∀ y0 y1 y2 y3 y4, LeO (spec_cdGood.l0 k y0 y1 y2 y3 y4) (spec_cdGood.l0 (k + 1) y0 y1 y2 y3 y4))
 | 0 => ⟨fun _ _ _ r h => by simp [spec_cdGood.j0] at h, fun _ _ _ _ _ r h => by simp [spec_cdGood.l0] at h⟩
 | k + 1 => by
  obtain ⟨ih0, ih1⟩ := spec_cdGood.mono_l k
  refine ⟨?_, ?_⟩
  ·intro y0 y1 y2
   unfold spec_cdGood.j0
   repeat' first
   | (with_reducible exact ih0 _ _ _)
   | (with_reducible exact ih1 _ _ _ _ _)
   | (with_reducible exact LeO.refl _)
   | (with_reducible exact LeO.none _)
   | (with_reducible refine LeO.ite ?_ ?_)
   | (with_reducible refine LeO.bind ?_ (fun _ => ?_))
   | exact ih0 _ _ _
   | exact ih1 _ _ _ _ _
   | exact LeO.none _
   | refine LeO.ite ?_ ?_
   | refine LeO.bind ?_ (fun _ => ?_)
  ·intro y0 y1 y2 y3 y4
   unfold spec_cdGood.l0
   repeat' first
   | (with_reducible exact ih0 _ _ _)
   | (with_reducible exact ih1 _ _ _ _ _)
   | (with_reducible exact LeO.refl _)
   | (with_reducible exact LeO.none _)
   | (with_reducible refine LeO.ite ?_ ?_)
   | (with_reducible refine LeO.bind ?_ (fun _ => ?_))
   | exact ih0 _ _ _
   | exact ih1 _ _ _ _ _
   | exact LeO.none _
   | refine LeO.ite ?_ ?_
   | refine LeO.bind ?_ (fun _ => ?_)
theorem spec_cdGood.mono : ∀ a0 a1 k, LeO (spec_cdGood.f k a0 a1) (spec_cdGood.f (k + 1) a0 a1) := by
 intro a0 a1 k
 obtain ⟨ih0, ih1⟩ := spec_cdGood.mono_l k
 unfold spec_cdGood.f
 repeat' first
   | (with_reducible exact ih0 _ _ _)
   | (with_reducible exact ih1 _ _ _ _ _)
   | (with_reducible exact LeO.refl _)
   | (with_reducible exact LeO.none _)
   | (with_reducible refine LeO.ite ?_ ?_)
   | (with_reducible refine LeO.bind ?_ (fun _ => ?_))
   | exact ih0 _ _ _
   | exact ih1 _ _ _ _ _
   | exact LeO.none _
   | refine LeO.ite ?_ ?_
   | refine LeO.bind ?_ (fun _ => ?_)
def spec_cdGood.T6 : Bool × List (List Nat × List Nat) := (true, [([], []), ([], []), ([0, 1], [0, 1]), ([2], [2]), ([3, 2], [3]), ([4], [4]), ([5, 4], [4, 5]), ([6, 4, 4], [4, 6]), ([7], [7]), ([7], [7]), ([9, 7], [7, 9]), ([8, 10, 7], [7, 8, 10]), ([11, 7], [7, 11]), ([7], [7]), ([12, 13, 7, 7], [7, 12, 13]), ([14, 7], [7, 14]), ([7, 15, 4], [4, 7, 15]), ([4, 16], [4, 16])])
def spec_cdGood.B6 : List Nat := [0, 0, 3, 7, 15, 31, 63, 127, 255, 255, 767, 2047, 4095, 255, 16383, 32767, 65535, 131071]
theorem spec_cdGood.tab6 : rtab .any (opsOf Try.f43 6) = spec_cdGood.T6 := by kernel_rfl
theorem spec_cdGood.bits6 : waitsOk spec_cdGood.T6.2 spec_cdGood.B6 = true := by kernel_rfl
set_option maxHeartbeats 8000000 in
set_option maxRecDepth 100000 in
theorem spec_cdGood.calls (k : Nat) (a0 : Int) (A1 : Option Addr) (c1 : Nat) (l1 : List (S47)) (r : Bool) (w : World) (hr1 : Kd.C k47 w A1 l1.length l1) (hc1 : l1.length ≤ c1) (h : spec_cdGood.f k a0 l1 = some r) :
  Calls Try.prog 43 #[.int .i64 a0, .slice A1 l1.length c1] w fun e w' => e = .returned (.bool r) ∧ Below w.heap.size w w' := by
 have hu47 := Try.underlying47
 have HR1 := Aside0.mk hr1
 have HC1 := Aside0.mk hc1
 clear hr1 hc1
 have HB := Aside0.mk (Below.refl w.heap.size w)
 have H : ((spec_srPoints.f a0).bind fun t189 => (if t189 = true then (spec_cdGood.j0 k a0 l1 (decide ((l1.length : Int) > 40))) else (spec_cdGood.j0 k a0 l1 true))) = some r := h
 clear h
 have HC3 := Aside0.mk H
 clear H
 go_enter Try.func43, Try.ntmps43
 go_upto_region 1 with (fail)
 go_cut [14] (fun v14 wc => ∃ (kq : Nat) (x14_2 : Bool), v14 = .bool x14_2 ∧ Aside0 (spec_cdGood.j0 kq a0 l1 x14_2 = some r) ∧ Aside0 (kq ≤ k) ∧ Aside0 (Below w.heap.size w wc))
 case first =>
  have H := HC3.out
  clear HC3
  replace H := bI H
  obtain ⟨t189, A40, H⟩ := H
  replace H : (if t189 = true then (spec_cdGood.j0 k a0 l1 (decide ((l1.length : Int) > 40))) else (spec_cdGood.j0 k a0 l1 true)) = some r := H
  have A4 := Aside0.mk A40
  clear A40
  by_cases c5 : t189 = true
  ·subst c5
   have H1 : (spec_cdGood.j0 k a0 l1 (decide ((l1.length : Int) > 40))) = some r := by rw [if_pos rfl] at H; exact H
   clear H
   have H := H1
   clear H1
   have H' := Aside0.mk H
   clear H
   go_wp2_with (first | ((with_reducible refine gate_callee (f := 69) rfl ?_); refine goesL_ (some 8) rfl rfl Try.func69 (by kernel_rfl) rfl #[.int .i64 a0] rfl ar_ ?_; (with_reducible refine (spec_srPoints.calls a0 true _ A4.out).mono ?_); rintro e w' ⟨rfl, ⟨nd, rfl⟩⟩; refine ⟨_, rfl, ?_⟩))
   go_meet
   case rel => exact ⟨_, (decide ((l1.length : Int) > 40)), (by first | rfl | (simp; done) | (simp [*]; done)), H', ⟨by first | omega | exact Nat.le_refl _⟩, ⟨hb_⟩⟩
  ·replace c5 := Bool.eq_false_iff.mpr c5
   subst c5
   have H1 : (spec_cdGood.j0 k a0 l1 true) = some r := by rw [if_neg (show ¬ (false = true) by decide)] at H; exact H
   clear H
   have H := H1
   clear H1
   have H' := Aside0.mk H
   clear H
   go_wp2_with (first | ((with_reducible refine gate_callee (f := 69) rfl ?_); refine goesL_ (some 8) rfl rfl Try.func69 (by kernel_rfl) rfl #[.int .i64 a0] rfl ar_ ?_; (with_reducible refine (spec_srPoints.calls a0 false _ A4.out).mono ?_); rintro e w' ⟨rfl, ⟨nd, rfl⟩⟩; refine ⟨_, rfl, ?_⟩))
   go_meet
   case rel => exact ⟨_, (true), (by first | rfl | (simp; done) | (simp [*]; done)), H', ⟨by first | omega | exact Nat.le_refl _⟩, ⟨hb_⟩⟩
 case rest =>
  clear HC3
  try clear c1
  try clear p2
  try clear c4
  try clear c5
  obtain ⟨kq, x14_2, rfl, HA, HJ2, HB⟩ := hcut
  cases kq with
  | zero => exact absurd HA.out (by simp [spec_cdGood.j0])
  | succ kj2 =>
   have H := HA.out
   clear HA
   simp only [spec_cdGood.j0] at H
   by_cases c6 : x14_2 = true
   ·subst c6
    have H1 : (some false) = some r := by rw [if_pos rfl] at H; exact H
    clear H
    have H := H1
    clear H1
    obtain rfl := oI H
    go_wp2
    go_ret
    exact ⟨by first | rfl | (simp [errW_none, errW_some] <;> rfl) | (simp [*, errW_none, errW_some] <;> rfl), hb_⟩
   ·replace c6 := Bool.eq_false_iff.mpr c6
    subst c6
    have H1 : (spec_cdGood.l0 kj2 a0 l1 l1 (l1.length : Int) 0) = some r := by rw [if_neg (show ¬ (false = true) by decide)] at H; exact H
    clear H
    have H := H1
    clear H1
    have H' := Aside0.mk H
    clear H
    go_wp2
    go_loopg [17] kj2 (fun kq v17 w' => ∃ (x17_2 : Int), v17 = .int .i64 x17_2 ∧ Aside0 (spec_cdGood.l0 kq a0 l1 l1 (l1.length : Int) x17_2 = some r) ∧ Aside0 (kq ≤ kj2) ∧ Aside0 (Below w.heap.size w w'))
    case atStart => exact ⟨(0), (by first | rfl | (simp; done) | (simp [*]; done)), H', ⟨Nat.le_refl _⟩, ⟨hb_⟩⟩
    case round =>
     clear H'
     try clear c1
     try clear p2
     try clear c4
     try clear c5
     try clear c6
     try clear p2
     obtain ⟨x17_2, rfl, HA, HK2, HB⟩ := hrel
     cases gk with
     | zero => exact absurd HA.out (by simp [spec_cdGood.l0])
     | succ k2 =>
      have H := HA.out
      clear HA
      simp only [spec_cdGood.l0] at H
      by_cases c7 : x17_2 < (l1.length : Int)
      ·rw [if_pos c7] at H
       have c7b0 : decide (x17_2 < (l1.length : Int)) = true := decide_eq_true c7
       clear c7
       by_cases c8 : 0 ≤ x17_2
       ·rw [if_pos c8] at H
        have c8b0 : decide (0 ≤ x17_2) = true := decide_eq_true c8
        clear c8
        by_cases c9 : x17_2 < (l1.length : Int)
        ·rw [if_pos c9] at H
         have c9b0 : decide (x17_2 < (l1.length : Int)) = true := decide_eq_true c9
         clear c9
         replace H := bI H
         obtain ⟨t192, A100, H⟩ := H
         replace H : (if t192 = true then (if x17_2 > 0 then (if 0 ≤ (wrap64 (x17_2 - 1)) then (if (wrap64 (x17_2 - 1)) < (l1.length : Int) then ((spec_srLess.f ((rd_T47 l1 (wrap64 (x17_2 - 1))).f0) ((rd_T47 l1 (wrap64 (x17_2 - 1))).f1) ((rd_T47 l1 x17_2).f0) ((rd_T47 l1 x17_2).f1)).bind fun t194 => (if t194 = true then (spec_cdGood.l0 k2 a0 l1 l1 (l1.length : Int) (wrap64 (x17_2 + 1))) else (some false))) else (none)) else (none)) else (spec_cdGood.l0 k2 a0 l1 l1 (l1.length : Int) (wrap64 (x17_2 + 1)))) else (some false)) = some r := H
         have A10 := Aside0.mk A100
         clear A100
         by_cases c11 : t192 = true
         ·subst c11
          have H1 : (if x17_2 > 0 then (if 0 ≤ (wrap64 (x17_2 - 1)) then (if (wrap64 (x17_2 - 1)) < (l1.length : Int) then ((spec_srLess.f ((rd_T47 l1 (wrap64 (x17_2 - 1))).f0) ((rd_T47 l1 (wrap64 (x17_2 - 1))).f1) ((rd_T47 l1 x17_2).f0) ((rd_T47 l1 x17_2).f1)).bind fun t194 => (if t194 = true then (spec_cdGood.l0 k2 a0 l1 l1 (l1.length : Int) (wrap64 (x17_2 + 1))) else (some false))) else (none)) else (none)) else (spec_cdGood.l0 k2 a0 l1 l1 (l1.length : Int) (wrap64 (x17_2 + 1)))) = some r := by rw [if_pos rfl] at H; exact H
          clear H
          have H := H1
          clear H1
          by_cases c12 : x17_2 > 0
          ·rw [if_pos c12] at H
           have c12b0 : decide (0 < x17_2) = true := decide_eq_true c12
           clear c12
           obtain ⟨ji13, hji13⟩ : ∃ j_ : Int, (wrap64 (x17_2 - 1)) = j_ := ⟨_, rfl⟩
           replace H : (if 0 ≤ (ji13) then (if (ji13) < (l1.length : Int) then ((spec_srLess.f ((rd_T47 l1 (ji13)).f0) ((rd_T47 l1 (ji13)).f1) ((rd_T47 l1 x17_2).f0) ((rd_T47 l1 x17_2).f1)).bind fun t194 => (if t194 = true then (spec_cdGood.l0 k2 a0 l1 l1 (l1.length : Int) (wrap64 (x17_2 + 1))) else (some false))) else (none)) else (none)) = some r := by first | (rw [hji13] at H; exact H) | (simp only [hji13] at H ⊢; exact H)
           (try rw [hji13] at A10)
           have hji13w : (IntKind.i64.wrap (x17_2 - 1)) = ji13 := (i64_w _).trans hji13
           by_cases c14 : 0 ≤ (ji13)
           ·rw [if_pos c14] at H
            have c14b0 : decide (0 ≤ (ji13)) = true := decide_eq_true c14
            clear c14
            by_cases c15 : (ji13) < (l1.length : Int)
            ·rw [if_pos c15] at H
             have c15b0 : decide ((ji13) < (l1.length : Int)) = true := decide_eq_true c15
             clear c15
             replace H := bI H
             obtain ⟨t194, A160, H⟩ := H
             replace H : (if t194 = true then (spec_cdGood.l0 k2 a0 l1 l1 (l1.length : Int) (wrap64 (x17_2 + 1))) else (some false)) = some r := H
             have A16 := Aside0.mk A160
             clear A160
             by_cases c17 : t194 = true
             ·subst c17
              have H1 : (spec_cdGood.l0 k2 a0 l1 l1 (l1.length : Int) (wrap64 (x17_2 + 1))) = some r := by rw [if_pos rfl] at H; exact H
              clear H
              have H := H1
              clear H1
              have H' := Aside0.mk H
              clear H
              have p190 : 0 ≤ (x17_2 : Int) := of_decide_eq_true (by assumption)
              have q190 : x17_2 < (l1.length : Int) := of_decide_eq_true (by assumption)
              obtain ⟨ad190, e190, hx190_0, hx190_1⟩ := at_T47 HR1.out x17_2 p190 q190
              cases e190
              replace hx190_0 := (HB.out.cell (World.block_lt_of_cell? w _ hx190_0)).trans hx190_0
              replace hx190_1 := (HB.out.cell (World.block_lt_of_cell? w _ hx190_1)).trans hx190_1
              replace p190 := eq_true p190
              replace q190 := eq_true q190
              try go_wp2_with (first | ((with_reducible refine gate_dst (N := 6) rfl ?_); (try (refine gate_guard (by rfl) ?_; dsimp only)); refine box_event ?hg (N := 6) ?hd (cs := #[.int .i64 0, .int .i64 0]) (t := 47) ?hr ?_; (case hd => rfl); (case hg => rfl); (case hr => first | (go_simp; done) | (go_simp; rfl)); intro gb191 hg w18 hbox hb; have n0_ := Aside0.mk (below_step hb_ hb); have n1_ := Aside0.mk (hbox); have n2_ := Aside0.mk ((by rw [hg]; exact (below_size hb_) : w.heap.size ≤ gb191)); have n3_ := Aside0.mk ((by rw [hg]; exact (below_size hb_) : w.heap.size ≤ gb191)); clear HB; have HB := n0_; have BK191 := n1_; have GW191 := n2_; have GE191 := n3_; clear n0_ n1_ n2_ n3_; clear hb hbox hg; have hcz19_0 : w18.cell? ⟨gb191, 0, none⟩ = some (.int .i64 0) := bc_ BK191 0; have hcz19_1 : w18.cell? ⟨gb191, 1, none⟩ = some (.int .i64 0) := bc_ BK191 1; have hfz19_0 := blk_frozen BK191.out 0; have hfz19_1 := blk_frozen BK191.out 1))
              have n0_ : Aside0 (((w18.setCell ⟨gb191, 0, none⟩ (.int .i64 ((rd_T47 l1 x17_2).f0))).setCell ⟨gb191, 1, none⟩ (.int .i64 ((rd_T47 l1 x17_2).f1))).heap[gb191]? = some (.cells #[.int .i64 ((rd_T47 l1 x17_2).f0), .int .i64 ((rd_T47 l1 x17_2).f1)] 47 (0, 0))) := ⟨by (with_reducible repeat (first | refine kN ?_ _ | refine kD ?_ | refine kA ?_ _)); refine blk_put (cs := #[.int .i64 ((rd_T47 l1 x17_2).f0), .int .i64 0]) ?_ 1 _ rfl; (with_reducible repeat (first | refine kN ?_ _ | refine kD ?_ | refine kA ?_ _)); refine blk_put (cs := #[.int .i64 0, .int .i64 0]) ?_ 0 _ rfl; (with_reducible repeat (first | refine kN ?_ _ | refine kD ?_ | refine kA ?_ _)); exact BK191.out⟩
              have n1_ : Aside0 (Below w.heap.size w ((w18.setCell ⟨gb191, 0, none⟩ (.int .i64 ((rd_T47 l1 x17_2).f0))).setCell ⟨gb191, 1, none⟩ (.int .i64 ((rd_T47 l1 x17_2).f1)))) := ⟨hs_ GE191.out⟩
              (try clear BK191)
              (try clear HB)
              generalize ((w18.setCell ⟨gb191, 0, none⟩ (.int .i64 ((rd_T47 l1 x17_2).f0))).setCell ⟨gb191, 1, none⟩ (.int .i64 ((rd_T47 l1 x17_2).f1))) = w20 at n0_ n1_ ⊢
              have BK191 := n0_
              have HB := n1_
              clear n0_ n1_
              have n0_ := Aside0.mk (blk_drew BK191.out)
              have n1_ := Aside0.mk (below_drew1 HB.out)
              clear BK191
              clear HB
              have BK191 := n0_
              have HB := n1_
              clear n0_ n1_
              have p193 : 0 ≤ ((ji13) : Int) := of_decide_eq_true (by assumption)
              have q193 : (ji13) < (l1.length : Int) := of_decide_eq_true (by assumption)
              obtain ⟨ad193, e193, hx193_0, hx193_1⟩ := at_T47 HR1.out (ji13) p193 q193
              have hw193_1 := hx193_1
              have hw193_0 := hx193_0
              obtain rfl : ad190 = ad193 := (by injection e193)
              replace hx193_0 := (HB.out.cell (World.block_lt_of_cell? w _ hx193_0)).trans hx193_0
              replace hx193_1 := (HB.out.cell (World.block_lt_of_cell? w _ hx193_1)).trans hx193_1
              replace p193 := eq_true p193
              replace q193 := eq_true q193
              refine start_ (n := 18) (S := fun w' => w'.cell? ⟨gb191, 0, none⟩ = some (.int .i64 ((rd_T47 l1 x17_2).f0)) ∧ w'.cell? ⟨gb191, 1, none⟩ = some (.int .i64 ((rd_T47 l1 x17_2).f1)) ∧ w'.cell? (ad190.add (((ji13)).toNat * 2)) = some (.int .i64 ((rd_T47 l1 (ji13)).f0)) ∧ w'.cell? ⟨(ad190.add (((ji13)).toNat * 2)).block, (ad190.add (((ji13)).toNat * 2)).off + 1, none⟩ = some (.int .i64 ((rd_T47 l1 (ji13)).f1))) (ds := []) #[false, false, false, false, false, false, false, false, false, false, false, false, false, false, false, false, false, false] (by kernel_rfl) rfl rfl ⟨bc_ BK191 0, bc_ BK191 1, ((HB.out.cell (World.block_lt_of_cell? w _ hw193_0)).trans hw193_0), ((HB.out.cell (World.block_lt_of_cell? w _ hw193_1)).trans hw193_1)⟩ (fun hHeld => ?_); refine with_tabW spec_cdGood.tab6 spec_cdGood.bits6 (fun HT_ HW_ => ?_)
              generalize w20.drew = w21 at BK191 HB hx193_0 hx193_1 hHeld ⊢
              refine pure_ (i := 0) (N := some 22) (v := ?_) (a' := ?_) #[true, false, false, false, false, false, false, false, false, false, false, false, false, false, false, false, false, false] rfl rfl (any_of HT_.out (by kernel_rfl)) (fun _ _ _ h => h) (Or.inl ⟨by rfl, ?_⟩) ?_ ?_
              rotate_left
              ·intro w'
               go_simp
               with_reducible rfl
              rotate_left
              ·simp only [Act.put, sT, sZ, sS, i64_w, i32_w]
               rfl
              refine take_ (i := 1) (N := some 23) (v := ?_) (a' := ?_) #[true, true, false, false, false, false, false, false, false, false, false, false, false, false, false, false, false, false] rfl rfl (take_ofW HT_.out HW_.out (by kernel_rfl)) (fun _ _ _ h => h) (Or.inl ⟨by rfl, ?_⟩) hHeld ?_ ?_
              rotate_left
              ·rintro w' ⟨s0, s1, s2, s3⟩
               go_simp
               with_reducible rfl
              rotate_left
              ·simp only [Act.put, sT, sZ, sS, i64_w, i32_w]
               rfl
              refine one_ (i := 2) (N := some 24) #[true, true, true, false, false, false, false, false, false, false, false, false, false, false, false, false, false, false] rfl rfl (one_of HT_.out (by kernel_rfl)) (by decide) (fun K hK => ?_)
              refine goes_ Try.func70 (by kernel_rfl) rfl #[.int .i64 a0, .agg #[.int .i64 ((rd_T47 l1 x17_2).f0), .int .i64 ((rd_T47 l1 x17_2).f1)]] (by rfl) rfl rfl ar_ ?_
              with_reducible refine (spec_srIs.calls a0 ((rd_T47 l1 x17_2).f0) ((rd_T47 l1 x17_2).f1) true _ A10.out).mono ?_
              rintro e w22 ⟨rfl, hb⟩
              refine ⟨_, rfl, ?_⟩
              have n0_ := Aside0.mk (blk_below (g := gb191) (o := .cells #[.int .i64 ((rd_T47 l1 x17_2).f0), .int .i64 ((rd_T47 l1 x17_2).f1)] 47 (0, 0)) (kx_ BK191.out) hb)
              have n1_ := Aside0.mk (below_step (hs_ GE191.out) hb)
              clear BK191
              clear HB
              have BK191 := n0_
              have HB := n1_
              clear n0_ n1_
              (try clear hb)
              (try clear hb2)
              (try clear hk)
              (try clear hi)
              refine hK.out _ _ ⟨bc_ BK191 0, bc_ BK191 1, ((HB.out.cell (World.block_lt_of_cell? w _ hw193_0)).trans hw193_0), ((HB.out.cell (World.block_lt_of_cell? w _ hw193_1)).trans hw193_1)⟩ (fun hHeld => ?_)
              clear hK K
              refine norm_ (a' := ?_) ?_ ?_
              rotate_left
              ·show Act.put _ (some 24) _ = _
               simp only [Act.put, sT, sZ, sS, i64_w, i32_w]
               rfl
              refine pure_ (i := 3) (N := some 25) (v := ?_) (a' := ?_) #[true, true, true, true, false, false, false, false, false, false, false, false, false, false, false, false, false, false] rfl rfl (any_of HT_.out (by kernel_rfl)) (fun _ _ _ h => h) (Or.inl ⟨by rfl, ?_⟩) ?_ ?_
              rotate_left
              ·intro w'
               go_simp
               with_reducible rfl
              rotate_left
              ·simp only [Act.put, sT, sZ, sS, i64_w, i32_w]
               rfl
              refine pure_ (i := 4) (N := some 26) (v := ?_) (a' := ?_) #[true, true, true, true, true, false, false, false, false, false, false, false, false, false, false, false, false, false] rfl rfl (any_of HT_.out (by kernel_rfl)) (fun _ _ _ h => h) (Or.inl ⟨by rfl, ?_⟩) ?_ ?_
              rotate_left
              ·intro w'
               go_simp
               with_reducible rfl
              rotate_left
              ·simp only [Act.put, sT, sZ, sS, i64_w, i32_w]
               rfl
              refine pure_ (i := 5) (N := some 27) (v := ?_) (a' := ?_) #[true, true, true, true, true, true, false, false, false, false, false, false, false, false, false, false, false, false] rfl rfl (any_of HT_.out (by kernel_rfl)) (fun _ _ _ h => h) (Or.inl ⟨by rfl, ?_⟩) ?_ ?_
              rotate_left
              ·intro w'
               go_simp
               with_reducible rfl
              rotate_left
              ·simp only [Act.put, sT, sZ, sS, i64_w, i32_w]
               rfl
              refine pure_ (i := 6) (N := some 28) (v := ?_) (a' := ?_) #[true, true, true, true, true, true, true, false, false, false, false, false, false, false, false, false, false, false] rfl rfl (any_of HT_.out (by kernel_rfl)) (fun _ _ _ h => h) (Or.inl ⟨by rfl, ?_⟩) ?_ ?_
              rotate_left
              ·intro w'
               go_simp
               with_reducible rfl
              rotate_left
              ·simp only [Act.put, sT, sZ, sS, i64_w, i32_w]
               rfl
              refine pure_ (i := 7) (N := some 29) (v := ?_) (a' := ?_) #[true, true, true, true, true, true, true, true, false, false, false, false, false, false, false, false, false, false] rfl rfl (any_of HT_.out (by kernel_rfl)) (fun _ _ _ h => h) (Or.inl ⟨by rfl, ?_⟩) ?_ ?_
              rotate_left
              ·intro w'
               go_simp
               with_reducible rfl
              rotate_left
              ·simp only [Act.put, sT, sZ, sS, i64_w, i32_w]
               rfl
              refine pure_ (i := 8) (N := some 30) (v := ?_) (a' := ?_) #[true, true, true, true, true, true, true, true, true, false, false, false, false, false, false, false, false, false] rfl rfl (any_of HT_.out (by kernel_rfl)) (fun _ _ _ h => h) (Or.inl ⟨by rfl, ?_⟩) ?_ ?_
              rotate_left
              ·intro w'
               go_simp
               with_reducible rfl
              rotate_left
              ·simp only [Act.put, sT, sZ, sS, i64_w, i32_w]
               rfl
              refine pure_ (i := 9) (N := some 31) (v := ?_) (a' := ?_) #[true, true, true, true, true, true, true, true, true, true, false, false, false, false, false, false, false, false] rfl rfl (any_of HT_.out (by kernel_rfl)) (fun _ _ _ h => h) (Or.inl ⟨by rfl, ?_⟩) ?_ ?_
              rotate_left
              ·intro w'
               go_simp
               with_reducible rfl
              rotate_left
              ·simp only [Act.put, sT, sZ, sS, i64_w, i32_w]
               rfl
              refine pure_ (i := 10) (N := some 32) (v := ?_) (a' := ?_) #[true, true, true, true, true, true, true, true, true, true, true, false, false, false, false, false, false, false] rfl rfl (any_of HT_.out (by kernel_rfl)) (fun _ _ _ h => h) (Or.inl ⟨by rfl, ?_⟩) ?_ ?_
              rotate_left
              ·intro w'
               go_simp
               with_reducible rfl
              rotate_left
              ·simp only [Act.put, sT, sZ, sS, i64_w, i32_w]
               rfl
              refine pure_ (i := 11) (N := some 33) (v := ?_) (a' := ?_) #[true, true, true, true, true, true, true, true, true, true, true, true, false, false, false, false, false, false] rfl rfl (any_of HT_.out (by kernel_rfl)) (fun _ _ _ h => h) (Or.inl ⟨by rfl, ?_⟩) ?_ ?_
              rotate_left
              ·intro w'
               go_simp
               with_reducible rfl
              rotate_left
              ·simp only [Act.put, sT, sZ, sS, i64_w, i32_w]
               rfl
              refine take_ (i := 12) (N := some 34) (v := ?_) (a' := ?_) #[true, true, true, true, true, true, true, true, true, true, true, true, true, false, false, false, false, false] rfl rfl (take_ofW HT_.out HW_.out (by kernel_rfl)) (fun _ _ _ h => h) (Or.inl ⟨by rfl, ?_⟩) hHeld ?_ ?_
              rotate_left
              ·rintro w' ⟨s0, s1, s2, s3⟩
               go_simp
               with_reducible rfl
              rotate_left
              ·simp only [Act.put, sT, sZ, sS, i64_w, i32_w]
               rfl
              refine take_ (i := 13) (N := some 35) (v := ?_) (a' := ?_) #[true, true, true, true, true, true, true, true, true, true, true, true, true, true, false, false, false, false] rfl rfl (take_ofW HT_.out HW_.out (by kernel_rfl)) (fun _ _ _ h => h) (Or.inl ⟨by rfl, ?_⟩) hHeld ?_ ?_
              rotate_left
              ·rintro w' ⟨s0, s1, s2, s3⟩
               go_simp
               with_reducible rfl
              rotate_left
              ·simp only [Act.put, sT, sZ, sS, i64_w, i32_w]
               rfl
              refine one_ (i := 14) (N := some 36) #[true, true, true, true, true, true, true, true, true, true, true, true, true, true, true, false, false, false] rfl rfl (one_of HT_.out (by kernel_rfl)) (by decide) (fun K hK => ?_)
              refine goes_ Try.func71 (by kernel_rfl) rfl #[.agg #[.int .i64 ((rd_T47 l1 (ji13)).f0), .int .i64 ((rd_T47 l1 (ji13)).f1)], .agg #[.int .i64 ((rd_T47 l1 x17_2).f0), .int .i64 ((rd_T47 l1 x17_2).f1)]] (by rfl) rfl rfl (by (try simp only [mT, mC, mN]); first | done | (simp only [hji13]; rfl) | rfl | (simp only [List.length_drop, List.length_take]; rfl)) ?_
              with_reducible refine (spec_srLess.calls ((rd_T47 l1 (ji13)).f0) ((rd_T47 l1 (ji13)).f1) ((rd_T47 l1 x17_2).f0) ((rd_T47 l1 x17_2).f1) true _ A16.out).mono ?_
              rintro e w23 ⟨rfl, hb⟩
              refine ⟨_, rfl, ?_⟩
              have n0_ := Aside0.mk (blk_below (g := gb191) (o := .cells #[.int .i64 ((rd_T47 l1 x17_2).f0), .int .i64 ((rd_T47 l1 x17_2).f1)] 47 (0, 0)) (kx_ BK191.out) hb)
              have n1_ := Aside0.mk (below_step (hs_ GE191.out) hb)
              clear BK191
              clear HB
              have BK191 := n0_
              have HB := n1_
              clear n0_ n1_
              (try clear hb)
              (try clear hb2)
              (try clear hk)
              (try clear hi)
              refine hK.out _ _ ⟨bc_ BK191 0, bc_ BK191 1, ((HB.out.cell (World.block_lt_of_cell? w _ hw193_0)).trans hw193_0), ((HB.out.cell (World.block_lt_of_cell? w _ hw193_1)).trans hw193_1)⟩ (fun hHeld => ?_)
              clear hK K
              refine norm_ (a' := ?_) ?_ ?_
              rotate_left
              ·show Act.put _ (some 36) _ = _
               simp only [Act.put, sT, sZ, sS, i64_w, i32_w]
               rfl
              refine pure_ (i := 15) (N := some 37) (v := ?_) (a' := ?_) #[true, true, true, true, true, true, true, true, true, true, true, true, true, true, true, true, false, false] rfl rfl (any_of HT_.out (by kernel_rfl)) (fun _ _ _ h => h) (Or.inl ⟨by rfl, ?_⟩) ?_ ?_
              rotate_left
              ·intro w'
               go_simp
               with_reducible rfl
              rotate_left
              ·simp only [Act.put, sT, sZ, sS, i64_w, i32_w]
               rfl
              refine pure_ (i := 16) (N := some 38) (v := ?_) (a' := ?_) #[true, true, true, true, true, true, true, true, true, true, true, true, true, true, true, true, true, false] rfl rfl (any_of HT_.out (by kernel_rfl)) (fun _ _ _ h => h) (Or.inl ⟨by rfl, ?_⟩) ?_ ?_
              rotate_left
              ·intro w'
               go_simp
               with_reducible rfl
              rotate_left
              ·simp only [Act.put, sT, sZ, sS, i64_w, i32_w]
               rfl
              refine pure_ (i := 17) (N := some 39) (v := ?_) (a' := ?_) #[true, true, true, true, true, true, true, true, true, true, true, true, true, true, true, true, true, true] rfl rfl (any_of HT_.out (by kernel_rfl)) (fun _ _ _ h => h) (Or.inl ⟨by rfl, ?_⟩) ?_ ?_
              rotate_left
              ·intro w'
               go_simp
               with_reducible rfl
              rotate_left
              ·simp only [Act.put, sT, sZ, sS, i64_w, i32_w]
               rfl
              refine done_ (done_of HT_.out (by kernel_rfl)) ?_
              try go_wp2
              go_roundg k2
              case measure => have := HJ2.out; have := HK2.out; omega
              case rel => exact ⟨(wrap64 (x17_2 + 1)), (by first | rfl | (simp; done) | (simp [*]; done)), H', ⟨by have := HJ2.out; have := HK2.out; omega⟩, ⟨hs_ GE191.out⟩⟩
             ·replace c17 := Bool.eq_false_iff.mpr c17
              subst c17
              have H1 : (some false) = some r := by rw [if_neg (show ¬ (false = true) by decide)] at H; exact H
              clear H
              have H := H1
              clear H1
              obtain rfl := oI H
              have p190 : 0 ≤ (x17_2 : Int) := of_decide_eq_true (by assumption)
              have q190 : x17_2 < (l1.length : Int) := of_decide_eq_true (by assumption)
              obtain ⟨ad190, e190, hx190_0, hx190_1⟩ := at_T47 HR1.out x17_2 p190 q190
              cases e190
              replace hx190_0 := (HB.out.cell (World.block_lt_of_cell? w _ hx190_0)).trans hx190_0
              replace hx190_1 := (HB.out.cell (World.block_lt_of_cell? w _ hx190_1)).trans hx190_1
              replace p190 := eq_true p190
              replace q190 := eq_true q190
              try go_wp2_with (first | ((with_reducible refine gate_dst (N := 6) rfl ?_); (try (refine gate_guard (by rfl) ?_; dsimp only)); refine box_event ?hg (N := 6) ?hd (cs := #[.int .i64 0, .int .i64 0]) (t := 47) ?hr ?_; (case hd => rfl); (case hg => rfl); (case hr => first | (go_simp; done) | (go_simp; rfl)); intro gb191 hg w24 hbox hb; have n0_ := Aside0.mk (below_step hb_ hb); have n1_ := Aside0.mk (hbox); have n2_ := Aside0.mk ((by rw [hg]; exact (below_size hb_) : w.heap.size ≤ gb191)); have n3_ := Aside0.mk ((by rw [hg]; exact (below_size hb_) : w.heap.size ≤ gb191)); clear HB; have HB := n0_; have BK191 := n1_; have GW191 := n2_; have GE191 := n3_; clear n0_ n1_ n2_ n3_; clear hb hbox hg; have hcz25_0 : w24.cell? ⟨gb191, 0, none⟩ = some (.int .i64 0) := bc_ BK191 0; have hcz25_1 : w24.cell? ⟨gb191, 1, none⟩ = some (.int .i64 0) := bc_ BK191 1; have hfz25_0 := blk_frozen BK191.out 0; have hfz25_1 := blk_frozen BK191.out 1))
              have n0_ : Aside0 (((w24.setCell ⟨gb191, 0, none⟩ (.int .i64 ((rd_T47 l1 x17_2).f0))).setCell ⟨gb191, 1, none⟩ (.int .i64 ((rd_T47 l1 x17_2).f1))).heap[gb191]? = some (.cells #[.int .i64 ((rd_T47 l1 x17_2).f0), .int .i64 ((rd_T47 l1 x17_2).f1)] 47 (0, 0))) := ⟨by (with_reducible repeat (first | refine kN ?_ _ | refine kD ?_ | refine kA ?_ _)); refine blk_put (cs := #[.int .i64 ((rd_T47 l1 x17_2).f0), .int .i64 0]) ?_ 1 _ rfl; (with_reducible repeat (first | refine kN ?_ _ | refine kD ?_ | refine kA ?_ _)); refine blk_put (cs := #[.int .i64 0, .int .i64 0]) ?_ 0 _ rfl; (with_reducible repeat (first | refine kN ?_ _ | refine kD ?_ | refine kA ?_ _)); exact BK191.out⟩
              have n1_ : Aside0 (Below w.heap.size w ((w24.setCell ⟨gb191, 0, none⟩ (.int .i64 ((rd_T47 l1 x17_2).f0))).setCell ⟨gb191, 1, none⟩ (.int .i64 ((rd_T47 l1 x17_2).f1)))) := ⟨hs_ GE191.out⟩
              (try clear BK191)
              (try clear HB)
              generalize ((w24.setCell ⟨gb191, 0, none⟩ (.int .i64 ((rd_T47 l1 x17_2).f0))).setCell ⟨gb191, 1, none⟩ (.int .i64 ((rd_T47 l1 x17_2).f1))) = w26 at n0_ n1_ ⊢
              have BK191 := n0_
              have HB := n1_
              clear n0_ n1_
              have n0_ := Aside0.mk (blk_drew BK191.out)
              have n1_ := Aside0.mk (below_drew1 HB.out)
              clear BK191
              clear HB
              have BK191 := n0_
              have HB := n1_
              clear n0_ n1_
              have p193 : 0 ≤ ((ji13) : Int) := of_decide_eq_true (by assumption)
              have q193 : (ji13) < (l1.length : Int) := of_decide_eq_true (by assumption)
              obtain ⟨ad193, e193, hx193_0, hx193_1⟩ := at_T47 HR1.out (ji13) p193 q193
              have hw193_1 := hx193_1
              have hw193_0 := hx193_0
              obtain rfl : ad190 = ad193 := (by injection e193)
              replace hx193_0 := (HB.out.cell (World.block_lt_of_cell? w _ hx193_0)).trans hx193_0
              replace hx193_1 := (HB.out.cell (World.block_lt_of_cell? w _ hx193_1)).trans hx193_1
              replace p193 := eq_true p193
              replace q193 := eq_true q193
              refine start_ (n := 18) (S := fun w' => w'.cell? ⟨gb191, 0, none⟩ = some (.int .i64 ((rd_T47 l1 x17_2).f0)) ∧ w'.cell? ⟨gb191, 1, none⟩ = some (.int .i64 ((rd_T47 l1 x17_2).f1)) ∧ w'.cell? (ad190.add (((ji13)).toNat * 2)) = some (.int .i64 ((rd_T47 l1 (ji13)).f0)) ∧ w'.cell? ⟨(ad190.add (((ji13)).toNat * 2)).block, (ad190.add (((ji13)).toNat * 2)).off + 1, none⟩ = some (.int .i64 ((rd_T47 l1 (ji13)).f1))) (ds := []) #[false, false, false, false, false, false, false, false, false, false, false, false, false, false, false, false, false, false] (by kernel_rfl) rfl rfl ⟨bc_ BK191 0, bc_ BK191 1, ((HB.out.cell (World.block_lt_of_cell? w _ hw193_0)).trans hw193_0), ((HB.out.cell (World.block_lt_of_cell? w _ hw193_1)).trans hw193_1)⟩ (fun hHeld => ?_); refine with_tabW spec_cdGood.tab6 spec_cdGood.bits6 (fun HT_ HW_ => ?_)
              generalize w26.drew = w27 at BK191 HB hx193_0 hx193_1 hHeld ⊢
              refine pure_ (i := 0) (N := some 22) (v := ?_) (a' := ?_) #[true, false, false, false, false, false, false, false, false, false, false, false, false, false, false, false, false, false] rfl rfl (any_of HT_.out (by kernel_rfl)) (fun _ _ _ h => h) (Or.inl ⟨by rfl, ?_⟩) ?_ ?_
              rotate_left
              ·intro w'
               go_simp
               with_reducible rfl
              rotate_left
              ·simp only [Act.put, sT, sZ, sS, i64_w, i32_w]
               rfl
              refine take_ (i := 1) (N := some 23) (v := ?_) (a' := ?_) #[true, true, false, false, false, false, false, false, false, false, false, false, false, false, false, false, false, false] rfl rfl (take_ofW HT_.out HW_.out (by kernel_rfl)) (fun _ _ _ h => h) (Or.inl ⟨by rfl, ?_⟩) hHeld ?_ ?_
              rotate_left
              ·rintro w' ⟨s0, s1, s2, s3⟩
               go_simp
               with_reducible rfl
              rotate_left
              ·simp only [Act.put, sT, sZ, sS, i64_w, i32_w]
               rfl
              refine one_ (i := 2) (N := some 24) #[true, true, true, false, false, false, false, false, false, false, false, false, false, false, false, false, false, false] rfl rfl (one_of HT_.out (by kernel_rfl)) (by decide) (fun K hK => ?_)
              refine goes_ Try.func70 (by kernel_rfl) rfl #[.int .i64 a0, .agg #[.int .i64 ((rd_T47 l1 x17_2).f0), .int .i64 ((rd_T47 l1 x17_2).f1)]] (by rfl) rfl rfl ar_ ?_
              with_reducible refine (spec_srIs.calls a0 ((rd_T47 l1 x17_2).f0) ((rd_T47 l1 x17_2).f1) true _ A10.out).mono ?_
              rintro e w28 ⟨rfl, hb⟩
              refine ⟨_, rfl, ?_⟩
              have n0_ := Aside0.mk (blk_below (g := gb191) (o := .cells #[.int .i64 ((rd_T47 l1 x17_2).f0), .int .i64 ((rd_T47 l1 x17_2).f1)] 47 (0, 0)) (kx_ BK191.out) hb)
              have n1_ := Aside0.mk (below_step (hs_ GE191.out) hb)
              clear BK191
              clear HB
              have BK191 := n0_
              have HB := n1_
              clear n0_ n1_
              (try clear hb)
              (try clear hb2)
              (try clear hk)
              (try clear hi)
              refine hK.out _ _ ⟨bc_ BK191 0, bc_ BK191 1, ((HB.out.cell (World.block_lt_of_cell? w _ hw193_0)).trans hw193_0), ((HB.out.cell (World.block_lt_of_cell? w _ hw193_1)).trans hw193_1)⟩ (fun hHeld => ?_)
              clear hK K
              refine norm_ (a' := ?_) ?_ ?_
              rotate_left
              ·show Act.put _ (some 24) _ = _
               simp only [Act.put, sT, sZ, sS, i64_w, i32_w]
               rfl
              refine pure_ (i := 3) (N := some 25) (v := ?_) (a' := ?_) #[true, true, true, true, false, false, false, false, false, false, false, false, false, false, false, false, false, false] rfl rfl (any_of HT_.out (by kernel_rfl)) (fun _ _ _ h => h) (Or.inl ⟨by rfl, ?_⟩) ?_ ?_
              rotate_left
              ·intro w'
               go_simp
               with_reducible rfl
              rotate_left
              ·simp only [Act.put, sT, sZ, sS, i64_w, i32_w]
               rfl
              refine pure_ (i := 4) (N := some 26) (v := ?_) (a' := ?_) #[true, true, true, true, true, false, false, false, false, false, false, false, false, false, false, false, false, false] rfl rfl (any_of HT_.out (by kernel_rfl)) (fun _ _ _ h => h) (Or.inl ⟨by rfl, ?_⟩) ?_ ?_
              rotate_left
              ·intro w'
               go_simp
               with_reducible rfl
              rotate_left
              ·simp only [Act.put, sT, sZ, sS, i64_w, i32_w]
               rfl
              refine pure_ (i := 5) (N := some 27) (v := ?_) (a' := ?_) #[true, true, true, true, true, true, false, false, false, false, false, false, false, false, false, false, false, false] rfl rfl (any_of HT_.out (by kernel_rfl)) (fun _ _ _ h => h) (Or.inl ⟨by rfl, ?_⟩) ?_ ?_
              rotate_left
              ·intro w'
               go_simp
               with_reducible rfl
              rotate_left
              ·simp only [Act.put, sT, sZ, sS, i64_w, i32_w]
               rfl
              refine pure_ (i := 6) (N := some 28) (v := ?_) (a' := ?_) #[true, true, true, true, true, true, true, false, false, false, false, false, false, false, false, false, false, false] rfl rfl (any_of HT_.out (by kernel_rfl)) (fun _ _ _ h => h) (Or.inl ⟨by rfl, ?_⟩) ?_ ?_
              rotate_left
              ·intro w'
               go_simp
               with_reducible rfl
              rotate_left
              ·simp only [Act.put, sT, sZ, sS, i64_w, i32_w]
               rfl
              refine pure_ (i := 7) (N := some 29) (v := ?_) (a' := ?_) #[true, true, true, true, true, true, true, true, false, false, false, false, false, false, false, false, false, false] rfl rfl (any_of HT_.out (by kernel_rfl)) (fun _ _ _ h => h) (Or.inl ⟨by rfl, ?_⟩) ?_ ?_
              rotate_left
              ·intro w'
               go_simp
               with_reducible rfl
              rotate_left
              ·simp only [Act.put, sT, sZ, sS, i64_w, i32_w]
               rfl
              refine pure_ (i := 8) (N := some 30) (v := ?_) (a' := ?_) #[true, true, true, true, true, true, true, true, true, false, false, false, false, false, false, false, false, false] rfl rfl (any_of HT_.out (by kernel_rfl)) (fun _ _ _ h => h) (Or.inl ⟨by rfl, ?_⟩) ?_ ?_
              rotate_left
              ·intro w'
               go_simp
               with_reducible rfl
              rotate_left
              ·simp only [Act.put, sT, sZ, sS, i64_w, i32_w]
               rfl
              refine pure_ (i := 9) (N := some 31) (v := ?_) (a' := ?_) #[true, true, true, true, true, true, true, true, true, true, false, false, false, false, false, false, false, false] rfl rfl (any_of HT_.out (by kernel_rfl)) (fun _ _ _ h => h) (Or.inl ⟨by rfl, ?_⟩) ?_ ?_
              rotate_left
              ·intro w'
               go_simp
               with_reducible rfl
              rotate_left
              ·simp only [Act.put, sT, sZ, sS, i64_w, i32_w]
               rfl
              refine pure_ (i := 10) (N := some 32) (v := ?_) (a' := ?_) #[true, true, true, true, true, true, true, true, true, true, true, false, false, false, false, false, false, false] rfl rfl (any_of HT_.out (by kernel_rfl)) (fun _ _ _ h => h) (Or.inl ⟨by rfl, ?_⟩) ?_ ?_
              rotate_left
              ·intro w'
               go_simp
               with_reducible rfl
              rotate_left
              ·simp only [Act.put, sT, sZ, sS, i64_w, i32_w]
               rfl
              refine pure_ (i := 11) (N := some 33) (v := ?_) (a' := ?_) #[true, true, true, true, true, true, true, true, true, true, true, true, false, false, false, false, false, false] rfl rfl (any_of HT_.out (by kernel_rfl)) (fun _ _ _ h => h) (Or.inl ⟨by rfl, ?_⟩) ?_ ?_
              rotate_left
              ·intro w'
               go_simp
               with_reducible rfl
              rotate_left
              ·simp only [Act.put, sT, sZ, sS, i64_w, i32_w]
               rfl
              refine take_ (i := 12) (N := some 34) (v := ?_) (a' := ?_) #[true, true, true, true, true, true, true, true, true, true, true, true, true, false, false, false, false, false] rfl rfl (take_ofW HT_.out HW_.out (by kernel_rfl)) (fun _ _ _ h => h) (Or.inl ⟨by rfl, ?_⟩) hHeld ?_ ?_
              rotate_left
              ·rintro w' ⟨s0, s1, s2, s3⟩
               go_simp
               with_reducible rfl
              rotate_left
              ·simp only [Act.put, sT, sZ, sS, i64_w, i32_w]
               rfl
              refine take_ (i := 13) (N := some 35) (v := ?_) (a' := ?_) #[true, true, true, true, true, true, true, true, true, true, true, true, true, true, false, false, false, false] rfl rfl (take_ofW HT_.out HW_.out (by kernel_rfl)) (fun _ _ _ h => h) (Or.inl ⟨by rfl, ?_⟩) hHeld ?_ ?_
              rotate_left
              ·rintro w' ⟨s0, s1, s2, s3⟩
               go_simp
               with_reducible rfl
              rotate_left
              ·simp only [Act.put, sT, sZ, sS, i64_w, i32_w]
               rfl
              refine one_ (i := 14) (N := some 36) #[true, true, true, true, true, true, true, true, true, true, true, true, true, true, true, false, false, false] rfl rfl (one_of HT_.out (by kernel_rfl)) (by decide) (fun K hK => ?_)
              refine goes_ Try.func71 (by kernel_rfl) rfl #[.agg #[.int .i64 ((rd_T47 l1 (ji13)).f0), .int .i64 ((rd_T47 l1 (ji13)).f1)], .agg #[.int .i64 ((rd_T47 l1 x17_2).f0), .int .i64 ((rd_T47 l1 x17_2).f1)]] (by rfl) rfl rfl (by (try simp only [mT, mC, mN]); first | done | (simp only [hji13]; rfl) | rfl | (simp only [List.length_drop, List.length_take]; rfl)) ?_
              with_reducible refine (spec_srLess.calls ((rd_T47 l1 (ji13)).f0) ((rd_T47 l1 (ji13)).f1) ((rd_T47 l1 x17_2).f0) ((rd_T47 l1 x17_2).f1) false _ A16.out).mono ?_
              rintro e w29 ⟨rfl, hb⟩
              refine ⟨_, rfl, ?_⟩
              have n0_ := Aside0.mk (blk_below (g := gb191) (o := .cells #[.int .i64 ((rd_T47 l1 x17_2).f0), .int .i64 ((rd_T47 l1 x17_2).f1)] 47 (0, 0)) (kx_ BK191.out) hb)
              have n1_ := Aside0.mk (below_step (hs_ GE191.out) hb)
              clear BK191
              clear HB
              have BK191 := n0_
              have HB := n1_
              clear n0_ n1_
              (try clear hb)
              (try clear hb2)
              (try clear hk)
              (try clear hi)
              refine hK.out _ _ ⟨bc_ BK191 0, bc_ BK191 1, ((HB.out.cell (World.block_lt_of_cell? w _ hw193_0)).trans hw193_0), ((HB.out.cell (World.block_lt_of_cell? w _ hw193_1)).trans hw193_1)⟩ (fun hHeld => ?_)
              clear hK K
              refine norm_ (a' := ?_) ?_ ?_
              rotate_left
              ·show Act.put _ (some 36) _ = _
               simp only [Act.put, sT, sZ, sS, i64_w, i32_w]
               rfl
              refine pure_ (i := 15) (N := some 37) (v := ?_) (a' := ?_) #[true, true, true, true, true, true, true, true, true, true, true, true, true, true, true, true, false, false] rfl rfl (any_of HT_.out (by kernel_rfl)) (fun _ _ _ h => h) (Or.inl ⟨by rfl, ?_⟩) ?_ ?_
              rotate_left
              ·intro w'
               go_simp
               with_reducible rfl
              rotate_left
              ·simp only [Act.put, sT, sZ, sS, i64_w, i32_w]
               rfl
              refine pure_ (i := 16) (N := some 38) (v := ?_) (a' := ?_) #[true, true, true, true, true, true, true, true, true, true, true, true, true, true, true, true, true, false] rfl rfl (any_of HT_.out (by kernel_rfl)) (fun _ _ _ h => h) (Or.inl ⟨by rfl, ?_⟩) ?_ ?_
              rotate_left
              ·intro w'
               go_simp
               with_reducible rfl
              rotate_left
              ·simp only [Act.put, sT, sZ, sS, i64_w, i32_w]
               rfl
              refine pure_ (i := 17) (N := some 39) (v := ?_) (a' := ?_) #[true, true, true, true, true, true, true, true, true, true, true, true, true, true, true, true, true, true] rfl rfl (any_of HT_.out (by kernel_rfl)) (fun _ _ _ h => h) (Or.inl ⟨by rfl, ?_⟩) ?_ ?_
              rotate_left
              ·intro w'
               go_simp
               with_reducible rfl
              rotate_left
              ·simp only [Act.put, sT, sZ, sS, i64_w, i32_w]
               rfl
              refine done_ (done_of HT_.out (by kernel_rfl)) ?_
              try go_wp2
              go_ret
              exact ⟨by first | rfl | (simp [errW_none, errW_some] <;> rfl) | (simp only [← hji13]; first | rfl | (simp [errW_none, errW_some] <;> rfl)) | (simp [*, errW_none, errW_some] <;> rfl), hs_ GE191.out⟩
            ·rw [if_neg c15] at H
             exact absurd H (by simp)
           ·rw [if_neg c14] at H
            exact absurd H (by simp)
          ·rw [if_neg c12] at H
           have c12b0 : decide (0 < x17_2) = false := decide_eq_false c12
           clear c12
           have H' := Aside0.mk H
           clear H
           have p190 : 0 ≤ (x17_2 : Int) := of_decide_eq_true (by assumption)
           have q190 : x17_2 < (l1.length : Int) := of_decide_eq_true (by assumption)
           obtain ⟨ad190, e190, hx190_0, hx190_1⟩ := at_T47 HR1.out x17_2 p190 q190
           cases e190
           replace hx190_0 := (HB.out.cell (World.block_lt_of_cell? w _ hx190_0)).trans hx190_0
           replace hx190_1 := (HB.out.cell (World.block_lt_of_cell? w _ hx190_1)).trans hx190_1
           replace p190 := eq_true p190
           replace q190 := eq_true q190
           try go_wp2_with (first | ((with_reducible refine gate_dst (N := 6) rfl ?_); (try (refine gate_guard (by rfl) ?_; dsimp only)); refine box_event ?hg (N := 6) ?hd (cs := #[.int .i64 0, .int .i64 0]) (t := 47) ?hr ?_; (case hd => rfl); (case hg => rfl); (case hr => first | (go_simp; done) | (go_simp; rfl)); intro gb191 hg w30 hbox hb; have n0_ := Aside0.mk (below_step hb_ hb); have n1_ := Aside0.mk (hbox); have n2_ := Aside0.mk ((by rw [hg]; exact (below_size hb_) : w.heap.size ≤ gb191)); have n3_ := Aside0.mk ((by rw [hg]; exact (below_size hb_) : w.heap.size ≤ gb191)); clear HB; have HB := n0_; have BK191 := n1_; have GW191 := n2_; have GE191 := n3_; clear n0_ n1_ n2_ n3_; clear hb hbox hg; have hcz31_0 : w30.cell? ⟨gb191, 0, none⟩ = some (.int .i64 0) := bc_ BK191 0; have hcz31_1 : w30.cell? ⟨gb191, 1, none⟩ = some (.int .i64 0) := bc_ BK191 1; have hfz31_0 := blk_frozen BK191.out 0; have hfz31_1 := blk_frozen BK191.out 1))
           have n0_ : Aside0 (((w30.setCell ⟨gb191, 0, none⟩ (.int .i64 ((rd_T47 l1 x17_2).f0))).setCell ⟨gb191, 1, none⟩ (.int .i64 ((rd_T47 l1 x17_2).f1))).heap[gb191]? = some (.cells #[.int .i64 ((rd_T47 l1 x17_2).f0), .int .i64 ((rd_T47 l1 x17_2).f1)] 47 (0, 0))) := ⟨by (with_reducible repeat (first | refine kN ?_ _ | refine kD ?_ | refine kA ?_ _)); refine blk_put (cs := #[.int .i64 ((rd_T47 l1 x17_2).f0), .int .i64 0]) ?_ 1 _ rfl; (with_reducible repeat (first | refine kN ?_ _ | refine kD ?_ | refine kA ?_ _)); refine blk_put (cs := #[.int .i64 0, .int .i64 0]) ?_ 0 _ rfl; (with_reducible repeat (first | refine kN ?_ _ | refine kD ?_ | refine kA ?_ _)); exact BK191.out⟩
           have n1_ : Aside0 (Below w.heap.size w ((w30.setCell ⟨gb191, 0, none⟩ (.int .i64 ((rd_T47 l1 x17_2).f0))).setCell ⟨gb191, 1, none⟩ (.int .i64 ((rd_T47 l1 x17_2).f1)))) := ⟨hs_ GE191.out⟩
           (try clear BK191)
           (try clear HB)
           generalize ((w30.setCell ⟨gb191, 0, none⟩ (.int .i64 ((rd_T47 l1 x17_2).f0))).setCell ⟨gb191, 1, none⟩ (.int .i64 ((rd_T47 l1 x17_2).f1))) = w32 at n0_ n1_ ⊢
           have BK191 := n0_
           have HB := n1_
           clear n0_ n1_
           have n0_ := Aside0.mk (blk_drew BK191.out)
           have n1_ := Aside0.mk (below_drew1 HB.out)
           clear BK191
           clear HB
           have BK191 := n0_
           have HB := n1_
           clear n0_ n1_
           refine start_ (n := 18) (S := fun w' => w'.cell? ⟨gb191, 0, none⟩ = some (.int .i64 ((rd_T47 l1 x17_2).f0)) ∧ w'.cell? ⟨gb191, 1, none⟩ = some (.int .i64 ((rd_T47 l1 x17_2).f1))) (ds := []) #[false, false, false, false, false, false, false, false, false, false, false, false, false, false, false, false, false, false] (by kernel_rfl) rfl rfl ⟨bc_ BK191 0, bc_ BK191 1⟩ (fun hHeld => ?_); refine with_tabW spec_cdGood.tab6 spec_cdGood.bits6 (fun HT_ HW_ => ?_)
           generalize w32.drew = w33 at BK191 HB hHeld ⊢
           refine pure_ (i := 0) (N := some 22) (v := ?_) (a' := ?_) #[true, false, false, false, false, false, false, false, false, false, false, false, false, false, false, false, false, false] rfl rfl (any_of HT_.out (by kernel_rfl)) (fun _ _ _ h => h) (Or.inl ⟨by rfl, ?_⟩) ?_ ?_
           rotate_left
           ·intro w'
            go_simp
            with_reducible rfl
           rotate_left
           ·simp only [Act.put, sT, sZ, sS, i64_w, i32_w]
            rfl
           refine take_ (i := 1) (N := some 23) (v := ?_) (a' := ?_) #[true, true, false, false, false, false, false, false, false, false, false, false, false, false, false, false, false, false] rfl rfl (take_ofW HT_.out HW_.out (by kernel_rfl)) (fun _ _ _ h => h) (Or.inl ⟨by rfl, ?_⟩) hHeld ?_ ?_
           rotate_left
           ·rintro w' ⟨s0, s1⟩
            go_simp
            with_reducible rfl
           rotate_left
           ·simp only [Act.put, sT, sZ, sS, i64_w, i32_w]
            rfl
           refine one_ (i := 2) (N := some 24) #[true, true, true, false, false, false, false, false, false, false, false, false, false, false, false, false, false, false] rfl rfl (one_of HT_.out (by kernel_rfl)) (by decide) (fun K hK => ?_)
           refine goes_ Try.func70 (by kernel_rfl) rfl #[.int .i64 a0, .agg #[.int .i64 ((rd_T47 l1 x17_2).f0), .int .i64 ((rd_T47 l1 x17_2).f1)]] (by rfl) rfl rfl ar_ ?_
           with_reducible refine (spec_srIs.calls a0 ((rd_T47 l1 x17_2).f0) ((rd_T47 l1 x17_2).f1) true _ A10.out).mono ?_
           rintro e w34 ⟨rfl, hb⟩
           refine ⟨_, rfl, ?_⟩
           have n0_ := Aside0.mk (blk_below (g := gb191) (o := .cells #[.int .i64 ((rd_T47 l1 x17_2).f0), .int .i64 ((rd_T47 l1 x17_2).f1)] 47 (0, 0)) (kx_ BK191.out) hb)
           have n1_ := Aside0.mk (below_step (hs_ GE191.out) hb)
           clear BK191
           clear HB
           have BK191 := n0_
           have HB := n1_
           clear n0_ n1_
           (try clear hb)
           (try clear hb2)
           (try clear hk)
           (try clear hi)
           refine hK.out _ _ ⟨bc_ BK191 0, bc_ BK191 1⟩ (fun hHeld => ?_)
           clear hK K
           refine norm_ (a' := ?_) ?_ ?_
           rotate_left
           ·show Act.put _ (some 24) _ = _
            simp only [Act.put, sT, sZ, sS, i64_w, i32_w]
            rfl
           refine pure_ (i := 3) (N := some 25) (v := ?_) (a' := ?_) #[true, true, true, true, false, false, false, false, false, false, false, false, false, false, false, false, false, false] rfl rfl (any_of HT_.out (by kernel_rfl)) (fun _ _ _ h => h) (Or.inl ⟨by rfl, ?_⟩) ?_ ?_
           rotate_left
           ·intro w'
            go_simp
            with_reducible rfl
           rotate_left
           ·simp only [Act.put, sT, sZ, sS, i64_w, i32_w]
            rfl
           refine pure_ (i := 4) (N := some 26) (v := ?_) (a' := ?_) #[true, true, true, true, true, false, false, false, false, false, false, false, false, false, false, false, false, false] rfl rfl (any_of HT_.out (by kernel_rfl)) (fun _ _ _ h => h) (Or.inl ⟨by rfl, ?_⟩) ?_ ?_
           rotate_left
           ·intro w'
            go_simp
            with_reducible rfl
           rotate_left
           ·simp only [Act.put, sT, sZ, sS, i64_w, i32_w]
            rfl
           refine pure_ (i := 5) (N := some 27) (v := ?_) (a' := ?_) #[true, true, true, true, true, true, false, false, false, false, false, false, false, false, false, false, false, false] rfl rfl (any_of HT_.out (by kernel_rfl)) (fun _ _ _ h => h) (Or.inl ⟨by rfl, ?_⟩) ?_ ?_
           rotate_left
           ·intro w'
            go_simp
            with_reducible rfl
           rotate_left
           ·simp only [Act.put, sT, sZ, sS, i64_w, i32_w]
            rfl
           refine pure_ (i := 6) (N := some 28) (v := ?_) (a' := ?_) #[true, true, true, true, true, true, true, false, false, false, false, false, false, false, false, false, false, false] rfl rfl (any_of HT_.out (by kernel_rfl)) (fun _ _ _ h => h) (Or.inl ⟨by rfl, ?_⟩) ?_ ?_
           rotate_left
           ·intro w'
            go_simp
            with_reducible rfl
           rotate_left
           ·simp only [Act.put, sT, sZ, sS, i64_w, i32_w]
            rfl
           refine pure_ (i := 7) (N := some 29) (v := ?_) (a' := ?_) #[true, true, true, true, true, true, true, true, false, false, false, false, false, false, false, false, false, false] rfl rfl (any_of HT_.out (by kernel_rfl)) (fun _ _ _ h => h) (Or.inl ⟨by rfl, ?_⟩) ?_ ?_
           rotate_left
           ·intro w'
            go_simp
            with_reducible rfl
           rotate_left
           ·simp only [Act.put, sT, sZ, sS, i64_w, i32_w]
            rfl
           refine pure_ (i := 8) (N := some 30) (v := undef) (a' := ?_) #[true, true, true, true, true, true, true, true, true, false, false, false, false, false, false, false, false, false] rfl rfl (any_of HT_.out (by kernel_rfl)) (fun _ _ _ h => h) (Or.inr ⟨by rfl, rfl⟩) ?_ ?_
           rotate_left
           ·simp only [Act.put, sT, sZ, sS, i64_w, i32_w]
            rfl
           refine pure_ (i := 9) (N := some 31) (v := undef) (a' := ?_) #[true, true, true, true, true, true, true, true, true, true, false, false, false, false, false, false, false, false] rfl rfl (any_of HT_.out (by kernel_rfl)) (fun _ _ _ h => h) (Or.inr ⟨by rfl, rfl⟩) ?_ ?_
           rotate_left
           ·simp only [Act.put, sT, sZ, sS, i64_w, i32_w]
            rfl
           refine pure_ (i := 10) (N := some 32) (v := undef) (a' := ?_) #[true, true, true, true, true, true, true, true, true, true, true, false, false, false, false, false, false, false] rfl rfl (any_of HT_.out (by kernel_rfl)) (fun _ _ _ h => h) (Or.inr ⟨by rfl, rfl⟩) ?_ ?_
           rotate_left
           ·simp only [Act.put, sT, sZ, sS, i64_w, i32_w]
            rfl
           refine pure_ (i := 11) (N := some 33) (v := undef) (a' := ?_) #[true, true, true, true, true, true, true, true, true, true, true, true, false, false, false, false, false, false] rfl rfl (any_of HT_.out (by kernel_rfl)) (fun _ _ _ h => h) (Or.inr ⟨by rfl, rfl⟩) ?_ ?_
           rotate_left
           ·simp only [Act.put, sT, sZ, sS, i64_w, i32_w]
            rfl
           refine pure_ (i := 12) (N := some 34) (v := undef) (a' := ?_) #[true, true, true, true, true, true, true, true, true, true, true, true, true, false, false, false, false, false] rfl rfl (any_of HT_.out (by kernel_rfl)) (fun _ _ _ h => h) (Or.inr ⟨by rfl, rfl⟩) ?_ ?_
           rotate_left
           ·simp only [Act.put, sT, sZ, sS, i64_w, i32_w]
            rfl
           refine pure_ (i := 13) (N := some 35) (v := undef) (a' := ?_) #[true, true, true, true, true, true, true, true, true, true, true, true, true, true, false, false, false, false] rfl rfl (any_of HT_.out (by kernel_rfl)) (fun _ _ _ h => h) (Or.inr ⟨by rfl, rfl⟩) ?_ ?_
           rotate_left
           ·simp only [Act.put, sT, sZ, sS, i64_w, i32_w]
            rfl
           refine pure_ (i := 14) (N := some 36) (v := undef) (a' := ?_) #[true, true, true, true, true, true, true, true, true, true, true, true, true, true, true, false, false, false] rfl rfl (any_of HT_.out (by kernel_rfl)) (fun _ _ _ h => h) (Or.inr ⟨by rfl, rfl⟩) ?_ ?_
           rotate_left
           ·simp only [Act.put, sT, sZ, sS, i64_w, i32_w]
            rfl
           refine pure_ (i := 15) (N := some 37) (v := undef) (a' := ?_) #[true, true, true, true, true, true, true, true, true, true, true, true, true, true, true, true, false, false] rfl rfl (any_of HT_.out (by kernel_rfl)) (fun _ _ _ h => h) (Or.inr ⟨by rfl, rfl⟩) ?_ ?_
           rotate_left
           ·simp only [Act.put, sT, sZ, sS, i64_w, i32_w]
            rfl
           refine pure_ (i := 16) (N := some 38) (v := ?_) (a' := ?_) #[true, true, true, true, true, true, true, true, true, true, true, true, true, true, true, true, true, false] rfl rfl (any_of HT_.out (by kernel_rfl)) (fun _ _ _ h => h) (Or.inl ⟨by rfl, ?_⟩) ?_ ?_
           rotate_left
           ·intro w'
            go_simp
            with_reducible rfl
           rotate_left
           ·simp only [Act.put, sT, sZ, sS, i64_w, i32_w]
            rfl
           refine pure_ (i := 17) (N := some 39) (v := ?_) (a' := ?_) #[true, true, true, true, true, true, true, true, true, true, true, true, true, true, true, true, true, true] rfl rfl (any_of HT_.out (by kernel_rfl)) (fun _ _ _ h => h) (Or.inl ⟨by rfl, ?_⟩) ?_ ?_
           rotate_left
           ·intro w'
            go_simp
            with_reducible rfl
           rotate_left
           ·simp only [Act.put, sT, sZ, sS, i64_w, i32_w]
            rfl
           refine done_ (done_of HT_.out (by kernel_rfl)) ?_
           try go_wp2
           go_roundg k2
           case measure => have := HJ2.out; have := HK2.out; omega
           case rel => exact ⟨(wrap64 (x17_2 + 1)), (by first | rfl | (simp; done) | (simp [*]; done)), H', ⟨by have := HJ2.out; have := HK2.out; omega⟩, ⟨hs_ GE191.out⟩⟩
         ·replace c11 := Bool.eq_false_iff.mpr c11
          subst c11
          have H1 : (some false) = some r := by rw [if_neg (show ¬ (false = true) by decide)] at H; exact H
          clear H
          have H := H1
          clear H1
          obtain rfl := oI H
          have p190 : 0 ≤ (x17_2 : Int) := of_decide_eq_true (by assumption)
          have q190 : x17_2 < (l1.length : Int) := of_decide_eq_true (by assumption)
          obtain ⟨ad190, e190, hx190_0, hx190_1⟩ := at_T47 HR1.out x17_2 p190 q190
          cases e190
          replace hx190_0 := (HB.out.cell (World.block_lt_of_cell? w _ hx190_0)).trans hx190_0
          replace hx190_1 := (HB.out.cell (World.block_lt_of_cell? w _ hx190_1)).trans hx190_1
          replace p190 := eq_true p190
          replace q190 := eq_true q190
          try go_wp2_with (first | ((with_reducible refine gate_dst (N := 6) rfl ?_); (try (refine gate_guard (by rfl) ?_; dsimp only)); refine box_event ?hg (N := 6) ?hd (cs := #[.int .i64 0, .int .i64 0]) (t := 47) ?hr ?_; (case hd => rfl); (case hg => rfl); (case hr => first | (go_simp; done) | (go_simp; rfl)); intro gb191 hg w35 hbox hb; have n0_ := Aside0.mk (below_step hb_ hb); have n1_ := Aside0.mk (hbox); have n2_ := Aside0.mk ((by rw [hg]; exact (below_size hb_) : w.heap.size ≤ gb191)); have n3_ := Aside0.mk ((by rw [hg]; exact (below_size hb_) : w.heap.size ≤ gb191)); clear HB; have HB := n0_; have BK191 := n1_; have GW191 := n2_; have GE191 := n3_; clear n0_ n1_ n2_ n3_; clear hb hbox hg; have hcz36_0 : w35.cell? ⟨gb191, 0, none⟩ = some (.int .i64 0) := bc_ BK191 0; have hcz36_1 : w35.cell? ⟨gb191, 1, none⟩ = some (.int .i64 0) := bc_ BK191 1; have hfz36_0 := blk_frozen BK191.out 0; have hfz36_1 := blk_frozen BK191.out 1))
          have n0_ : Aside0 (((w35.setCell ⟨gb191, 0, none⟩ (.int .i64 ((rd_T47 l1 x17_2).f0))).setCell ⟨gb191, 1, none⟩ (.int .i64 ((rd_T47 l1 x17_2).f1))).heap[gb191]? = some (.cells #[.int .i64 ((rd_T47 l1 x17_2).f0), .int .i64 ((rd_T47 l1 x17_2).f1)] 47 (0, 0))) := ⟨by (with_reducible repeat (first | refine kN ?_ _ | refine kD ?_ | refine kA ?_ _)); refine blk_put (cs := #[.int .i64 ((rd_T47 l1 x17_2).f0), .int .i64 0]) ?_ 1 _ rfl; (with_reducible repeat (first | refine kN ?_ _ | refine kD ?_ | refine kA ?_ _)); refine blk_put (cs := #[.int .i64 0, .int .i64 0]) ?_ 0 _ rfl; (with_reducible repeat (first | refine kN ?_ _ | refine kD ?_ | refine kA ?_ _)); exact BK191.out⟩
          have n1_ : Aside0 (Below w.heap.size w ((w35.setCell ⟨gb191, 0, none⟩ (.int .i64 ((rd_T47 l1 x17_2).f0))).setCell ⟨gb191, 1, none⟩ (.int .i64 ((rd_T47 l1 x17_2).f1)))) := ⟨hs_ GE191.out⟩
          (try clear BK191)
          (try clear HB)
          generalize ((w35.setCell ⟨gb191, 0, none⟩ (.int .i64 ((rd_T47 l1 x17_2).f0))).setCell ⟨gb191, 1, none⟩ (.int .i64 ((rd_T47 l1 x17_2).f1))) = w37 at n0_ n1_ ⊢
          have BK191 := n0_
          have HB := n1_
          clear n0_ n1_
          have n0_ := Aside0.mk (blk_drew BK191.out)
          have n1_ := Aside0.mk (below_drew1 HB.out)
          clear BK191
          clear HB
          have BK191 := n0_
          have HB := n1_
          clear n0_ n1_
          refine start_ (n := 18) (S := fun w' => w'.cell? ⟨gb191, 0, none⟩ = some (.int .i64 ((rd_T47 l1 x17_2).f0)) ∧ w'.cell? ⟨gb191, 1, none⟩ = some (.int .i64 ((rd_T47 l1 x17_2).f1))) (ds := []) #[false, false, false, false, false, false, false, false, false, false, false, false, false, false, false, false, false, false] (by kernel_rfl) rfl rfl ⟨bc_ BK191 0, bc_ BK191 1⟩ (fun hHeld => ?_); refine with_tabW spec_cdGood.tab6 spec_cdGood.bits6 (fun HT_ HW_ => ?_)
          generalize w37.drew = w38 at BK191 HB hHeld ⊢
          refine pure_ (i := 0) (N := some 22) (v := ?_) (a' := ?_) #[true, false, false, false, false, false, false, false, false, false, false, false, false, false, false, false, false, false] rfl rfl (any_of HT_.out (by kernel_rfl)) (fun _ _ _ h => h) (Or.inl ⟨by rfl, ?_⟩) ?_ ?_
          rotate_left
          ·intro w'
           go_simp
           with_reducible rfl
          rotate_left
          ·simp only [Act.put, sT, sZ, sS, i64_w, i32_w]
           rfl
          refine take_ (i := 1) (N := some 23) (v := ?_) (a' := ?_) #[true, true, false, false, false, false, false, false, false, false, false, false, false, false, false, false, false, false] rfl rfl (take_ofW HT_.out HW_.out (by kernel_rfl)) (fun _ _ _ h => h) (Or.inl ⟨by rfl, ?_⟩) hHeld ?_ ?_
          rotate_left
          ·rintro w' ⟨s0, s1⟩
           go_simp
           with_reducible rfl
          rotate_left
          ·simp only [Act.put, sT, sZ, sS, i64_w, i32_w]
           rfl
          refine one_ (i := 2) (N := some 24) #[true, true, true, false, false, false, false, false, false, false, false, false, false, false, false, false, false, false] rfl rfl (one_of HT_.out (by kernel_rfl)) (by decide) (fun K hK => ?_)
          refine goes_ Try.func70 (by kernel_rfl) rfl #[.int .i64 a0, .agg #[.int .i64 ((rd_T47 l1 x17_2).f0), .int .i64 ((rd_T47 l1 x17_2).f1)]] (by rfl) rfl rfl ar_ ?_
          with_reducible refine (spec_srIs.calls a0 ((rd_T47 l1 x17_2).f0) ((rd_T47 l1 x17_2).f1) false _ A10.out).mono ?_
          rintro e w39 ⟨rfl, hb⟩
          refine ⟨_, rfl, ?_⟩
          have n0_ := Aside0.mk (blk_below (g := gb191) (o := .cells #[.int .i64 ((rd_T47 l1 x17_2).f0), .int .i64 ((rd_T47 l1 x17_2).f1)] 47 (0, 0)) (kx_ BK191.out) hb)
          have n1_ := Aside0.mk (below_step (hs_ GE191.out) hb)
          clear BK191
          clear HB
          have BK191 := n0_
          have HB := n1_
          clear n0_ n1_
          (try clear hb)
          (try clear hb2)
          (try clear hk)
          (try clear hi)
          refine hK.out _ _ ⟨bc_ BK191 0, bc_ BK191 1⟩ (fun hHeld => ?_)
          clear hK K
          refine norm_ (a' := ?_) ?_ ?_
          rotate_left
          ·show Act.put _ (some 24) _ = _
           simp only [Act.put, sT, sZ, sS, i64_w, i32_w]
           rfl
          refine pure_ (i := 3) (N := some 25) (v := ?_) (a' := ?_) #[true, true, true, true, false, false, false, false, false, false, false, false, false, false, false, false, false, false] rfl rfl (any_of HT_.out (by kernel_rfl)) (fun _ _ _ h => h) (Or.inl ⟨by rfl, ?_⟩) ?_ ?_
          rotate_left
          ·intro w'
           go_simp
           with_reducible rfl
          rotate_left
          ·simp only [Act.put, sT, sZ, sS, i64_w, i32_w]
           rfl
          refine pure_ (i := 4) (N := some 26) (v := ?_) (a' := ?_) #[true, true, true, true, true, false, false, false, false, false, false, false, false, false, false, false, false, false] rfl rfl (any_of HT_.out (by kernel_rfl)) (fun _ _ _ h => h) (Or.inl ⟨by rfl, ?_⟩) ?_ ?_
          rotate_left
          ·intro w'
           go_simp
           with_reducible rfl
          rotate_left
          ·simp only [Act.put, sT, sZ, sS, i64_w, i32_w]
           rfl
          refine pure_ (i := 5) (N := some 27) (v := undef) (a' := ?_) #[true, true, true, true, true, true, false, false, false, false, false, false, false, false, false, false, false, false] rfl rfl (any_of HT_.out (by kernel_rfl)) (fun _ _ _ h => h) (Or.inr ⟨by rfl, rfl⟩) ?_ ?_
          rotate_left
          ·simp only [Act.put, sT, sZ, sS, i64_w, i32_w]
           rfl
          refine pure_ (i := 6) (N := some 28) (v := undef) (a' := ?_) #[true, true, true, true, true, true, true, false, false, false, false, false, false, false, false, false, false, false] rfl rfl (any_of HT_.out (by kernel_rfl)) (fun _ _ _ h => h) (Or.inr ⟨by rfl, rfl⟩) ?_ ?_
          rotate_left
          ·simp only [Act.put, sT, sZ, sS, i64_w, i32_w]
           rfl
          refine pure_ (i := 7) (N := some 29) (v := undef) (a' := ?_) #[true, true, true, true, true, true, true, true, false, false, false, false, false, false, false, false, false, false] rfl rfl (any_of HT_.out (by kernel_rfl)) (fun _ _ _ h => h) (Or.inr ⟨by rfl, rfl⟩) ?_ ?_
          rotate_left
          ·simp only [Act.put, sT, sZ, sS, i64_w, i32_w]
           rfl
          refine pure_ (i := 8) (N := some 30) (v := undef) (a' := ?_) #[true, true, true, true, true, true, true, true, true, false, false, false, false, false, false, false, false, false] rfl rfl (any_of HT_.out (by kernel_rfl)) (fun _ _ _ h => h) (Or.inr ⟨by rfl, rfl⟩) ?_ ?_
          rotate_left
          ·simp only [Act.put, sT, sZ, sS, i64_w, i32_w]
           rfl
          refine pure_ (i := 9) (N := some 31) (v := undef) (a' := ?_) #[true, true, true, true, true, true, true, true, true, true, false, false, false, false, false, false, false, false] rfl rfl (any_of HT_.out (by kernel_rfl)) (fun _ _ _ h => h) (Or.inr ⟨by rfl, rfl⟩) ?_ ?_
          rotate_left
          ·simp only [Act.put, sT, sZ, sS, i64_w, i32_w]
           rfl
          refine pure_ (i := 10) (N := some 32) (v := undef) (a' := ?_) #[true, true, true, true, true, true, true, true, true, true, true, false, false, false, false, false, false, false] rfl rfl (any_of HT_.out (by kernel_rfl)) (fun _ _ _ h => h) (Or.inr ⟨by rfl, rfl⟩) ?_ ?_
          rotate_left
          ·simp only [Act.put, sT, sZ, sS, i64_w, i32_w]
           rfl
          refine pure_ (i := 11) (N := some 33) (v := undef) (a' := ?_) #[true, true, true, true, true, true, true, true, true, true, true, true, false, false, false, false, false, false] rfl rfl (any_of HT_.out (by kernel_rfl)) (fun _ _ _ h => h) (Or.inr ⟨by rfl, rfl⟩) ?_ ?_
          rotate_left
          ·simp only [Act.put, sT, sZ, sS, i64_w, i32_w]
           rfl
          refine pure_ (i := 12) (N := some 34) (v := undef) (a' := ?_) #[true, true, true, true, true, true, true, true, true, true, true, true, true, false, false, false, false, false] rfl rfl (any_of HT_.out (by kernel_rfl)) (fun _ _ _ h => h) (Or.inr ⟨by rfl, rfl⟩) ?_ ?_
          rotate_left
          ·simp only [Act.put, sT, sZ, sS, i64_w, i32_w]
           rfl
          refine pure_ (i := 13) (N := some 35) (v := undef) (a' := ?_) #[true, true, true, true, true, true, true, true, true, true, true, true, true, true, false, false, false, false] rfl rfl (any_of HT_.out (by kernel_rfl)) (fun _ _ _ h => h) (Or.inr ⟨by rfl, rfl⟩) ?_ ?_
          rotate_left
          ·simp only [Act.put, sT, sZ, sS, i64_w, i32_w]
           rfl
          refine pure_ (i := 14) (N := some 36) (v := undef) (a' := ?_) #[true, true, true, true, true, true, true, true, true, true, true, true, true, true, true, false, false, false] rfl rfl (any_of HT_.out (by kernel_rfl)) (fun _ _ _ h => h) (Or.inr ⟨by rfl, rfl⟩) ?_ ?_
          rotate_left
          ·simp only [Act.put, sT, sZ, sS, i64_w, i32_w]
           rfl
          refine pure_ (i := 15) (N := some 37) (v := undef) (a' := ?_) #[true, true, true, true, true, true, true, true, true, true, true, true, true, true, true, true, false, false] rfl rfl (any_of HT_.out (by kernel_rfl)) (fun _ _ _ h => h) (Or.inr ⟨by rfl, rfl⟩) ?_ ?_
          rotate_left
          ·simp only [Act.put, sT, sZ, sS, i64_w, i32_w]
           rfl
          refine pure_ (i := 16) (N := some 38) (v := undef) (a' := ?_) #[true, true, true, true, true, true, true, true, true, true, true, true, true, true, true, true, true, false] rfl rfl (any_of HT_.out (by kernel_rfl)) (fun _ _ _ h => h) (Or.inr ⟨by rfl, rfl⟩) ?_ ?_
          rotate_left
          ·simp only [Act.put, sT, sZ, sS, i64_w, i32_w]
           rfl
          refine pure_ (i := 17) (N := some 39) (v := ?_) (a' := ?_) #[true, true, true, true, true, true, true, true, true, true, true, true, true, true, true, true, true, true] rfl rfl (any_of HT_.out (by kernel_rfl)) (fun _ _ _ h => h) (Or.inl ⟨by rfl, ?_⟩) ?_ ?_
          rotate_left
          ·intro w'
           go_simp
           with_reducible rfl
          rotate_left
          ·simp only [Act.put, sT, sZ, sS, i64_w, i32_w]
           rfl
          refine done_ (done_of HT_.out (by kernel_rfl)) ?_
          try go_wp2
          go_ret
          exact ⟨by first | rfl | (simp [errW_none, errW_some] <;> rfl) | (simp [*, errW_none, errW_some] <;> rfl), hs_ GE191.out⟩
        ·rw [if_neg c9] at H
         exact absurd H (by simp)
       ·rw [if_neg c8] at H
        exact absurd H (by simp)
      ·rw [if_neg c7] at H
       have c7b0 : decide (x17_2 < (l1.length : Int)) = false := decide_eq_false c7
       clear c7
       obtain rfl := oI H
       go_wp2
       go_ret
       exact ⟨by first | rfl | (simp [errW_none, errW_some] <;> rfl) | (simp [*, errW_none, errW_some] <;> rfl), hb_⟩
mutual
def spec_cdPairs.l0 : Nat → List (S47) → List (List Int) → List (S47) → Int → Int → Option ((List (List Int)))
 | 0, _, _, _, _, _ => none
 | k + 1, x0, x3, x7, x8, x9 => if x9 < x8 then (if 0 ≤ x9 then (if x9 < (x7.length : Int) then (spec_cdPairs.l1 k x0 x3 x9 (wrap64 (x9 + 1)) x7 x8 x9 ((rd_T47 x7 x9).f0) ((rd_T47 x7 x9).f1)) else (none)) else (none)) else (some x3)
def spec_cdPairs.l1 : Nat → List (S47) → List (List Int) → Int → Int → List (S47) → Int → Int → Int → Int → Option ((List (List Int)))
 | 0, _, _, _, _, _, _, _, _, _ => none
 | k + 1, x0, x3, x4, x6, x7, x8, x9, x197000, x197001 => if x6 < (x0.length : Int) then (if 0 ≤ x6 then ((spec_srCross.f x197000 x197001 ((rd_T47 x0 x6).f0) ((rd_T47 x0 x6).f1)).bind fun t198 => (if t198 = true then (if x3.length < 5864062014805 then (spec_cdPairs.l1 k x0 (x3 ++ [(([x4, x6] : List Int))]) x4 (wrap64 (x6 + 1)) x7 x8 x9 x197000 x197001) else (none)) else (spec_cdPairs.l1 k x0 x3 x4 (wrap64 (x6 + 1)) x7 x8 x9 x197000 x197001))) else (none)) else (spec_cdPairs.l0 k x0 x3 x7 x8 (wrap64 (x9 + 1)))
end
def spec_cdPairs.f (k : Nat) (l0 : List (S47)) : Option ((List (List Int))) := spec_cdPairs.l0 k l0 ([] : List (List Int)) l0 (l0.length : Int) 0
theorem spec_cdPairs.mono_l : ∀ k, (∀ y0 y1 y2 y3 y4, LeO (spec_cdPairs.l0 k y0 y1 y2 y3 y4) (spec_cdPairs.l0 (k + 1) y0 y1 y2 y3 y4)) ∧ (∀ y0 y1 y2 y3 y4 y5 y6 y7 y8, LeO (spec_cdPairs.l1 k y0 y1 y2 y3 y4 y5 y6 y7 y8) (spec_cdPairs.l1 (k + 1) y0 y1 y2 y3 y4 y5 y6 y7 y8))
 | 0 => ⟨fun _ _ _ _ _ r h => by simp [spec_cdPairs.l0] at h, fun _ _ _ _ _ _ _ _ _ r h => by simp [spec_cdPairs.l1] at h⟩
 | k + 1 => by
  obtain ⟨ih0, ih1⟩ := spec_cdPairs.mono_l k
  refine ⟨?_, ?_⟩
  ·intro y0 y1 y2 y3 y4
   unfold spec_cdPairs.l0
   repeat' first
   | (with_reducible exact ih0 _ _ _ _ _)
   | (with_reducible exact ih1 _ _ _ _ _ _ _ _ _)
   | (with_reducible exact LeO.refl _)
   | (with_reducible exact LeO.none _)
   | (with_reducible refine LeO.ite ?_ ?_)
   | (with_reducible refine LeO.bind ?_ (fun _ => ?_))
   | exact ih0 _ _ _ _ _
   | exact ih1 _ _ _ _ _ _ _ _ _
   | exact LeO.none _
   | refine LeO.ite ?_ ?_
   | refine LeO.bind ?_ (fun _ => ?_)
  ·intro y0 y1 y2 y3 y4 y5 y6 y7 y8
   unfold spec_cdPairs.l1
   repeat' first
   | (with_reducible exact ih0 _ _ _ _ _)
   | (with_reducible exact ih1 _ _ _ _ _ _ _ _ _)
   | (with_reducible exact LeO.refl _)
   | (with_reducible exact LeO.none _)
   | (with_reducible refine LeO.ite ?_ ?_)
   | (with_reducible refine LeO.bind ?_ (fun _ => ?_))
   | exact ih0 _ _ _ _ _
   | exact ih1 _ _ _ _ _ _ _ _ _
   | exact LeO.none _
   | refine LeO.ite ?_ ?_
   | refine LeO.bind ?_ (fun _ => ?_)
theorem spec_cdPairs.mono : ∀ a0 k, LeO (spec_cdPairs.f k a0) (spec_cdPairs.f (k + 1) a0) := by
 intro a0 k
 obtain ⟨ih0, ih1⟩ := spec_cdPairs.mono_l k
 unfold spec_cdPairs.f
 repeat' first
   | (with_reducible exact ih0 _ _ _ _ _)
   | (with_reducible exact ih1 _ _ _ _ _ _ _ _ _)
   | (with_reducible exact LeO.refl _)
   | (with_reducible exact LeO.none _)
   | (with_reducible refine LeO.ite ?_ ?_)
   | (with_reducible refine LeO.bind ?_ (fun _ => ?_))
   | exact ih0 _ _ _ _ _
   | exact ih1 _ _ _ _ _ _ _ _ _
   | exact LeO.none _
   | refine LeO.ite ?_ ?_
   | refine LeO.bind ?_ (fun _ => ?_)
set_option maxHeartbeats 8000000 in
set_option maxRecDepth 100000 in
theorem spec_cdPairs.calls (k : Nat) (A0 : Option Addr) (c0 : Nat) (l0 : List (S47)) (r : List (List Int)) (w : World) (hr0 : Kd.C k47 w A0 l0.length l0) (hc0 : l0.length ≤ c0) (h : spec_cdPairs.f k l0 = some r) :
  Calls Try.prog 59 #[.slice A0 l0.length c0] w fun e w' => ∃ v0_ : Value, e = .returned (v0_) ∧ Kd.S (Kd.slice 3 (Kd.int .i64)) 24 w' w.heap.size (fun _ => True) v0_ r ∧ Below w.heap.size w w' := by
 have hu47 := Try.underlying47
 have HR0 := Aside0.mk hr0
 have HC0 := Aside0.mk hc0
 clear hr0 hc0
 have HB := Aside0.mk (Below.refl w.heap.size w)
 have H : (spec_cdPairs.l0 k l0 ([] : List (List Int)) l0 (l0.length : Int) 0) = some r := h
 clear h
 have H' := Aside0.mk H
 clear H
 go_enter Try.func59, Try.ntmps59
 go_wp2
 go_loopg [3, 9] k (fun kq v3 v9 w' => ∃ (x3_1 : List (List Int)) (x9_1 : Int), v9 = .int .i64 x9_1 ∧ Aside0 (spec_cdPairs.l0 kq l0 x3_1 l0 (l0.length : Int) x9_1 = some r) ∧ Aside0 (kq ≤ k) ∧ Aside0 (Kd.S (Kd.slice 3 (Kd.int .i64)) 24 w' w.heap.size (fun _ => True) v3 x3_1) ∧ Aside0 (Below w.heap.size w w'))
 case atStart => exact ⟨(([] : List (List Int))), (0), (by first | rfl | (simp; done) | (simp [*]; done)), H', ⟨Nat.le_refl _⟩, ⟨by first | exact Kd.S_nil _ _ _ _ _ | exact Kd.N_nil _ _ _ _ _ | exact Kd.V_nil _ _ _ _ _ | exact Kd.Q_nil _ _ _ _ _ | exact Kd.R_nil _ _ _ _ _⟩, ⟨hb_⟩⟩
 case round =>
  clear H'
  obtain ⟨x3_1, x9_1, rfl, HA, HK1, HO_3, HB⟩ := hrel
  cases gk with
  | zero => exact absurd HA.out (by simp [spec_cdPairs.l0])
  | succ k1 =>
   have H := HA.out
   clear HA
   simp only [spec_cdPairs.l0] at H
   by_cases c2 : x9_1 < (l0.length : Int)
   ·rw [if_pos c2] at H
    have c2b0 : decide (x9_1 < (l0.length : Int)) = true := decide_eq_true c2
    clear c2
    by_cases c3 : 0 ≤ x9_1
    ·rw [if_pos c3] at H
     have c3b0 : decide (0 ≤ x9_1) = true := decide_eq_true c3
     clear c3
     by_cases c4 : x9_1 < (l0.length : Int)
     ·rw [if_pos c4] at H
      have c4b0 : decide (x9_1 < (l0.length : Int)) = true := decide_eq_true c4
      clear c4
      have H' := Aside0.mk H
      clear H
      have p195 : 0 ≤ (x9_1 : Int) := of_decide_eq_true (by assumption)
      have q195 : x9_1 < (l0.length : Int) := of_decide_eq_true (by assumption)
      obtain ⟨ad195, e195, hx195_0, hx195_1⟩ := at_T47 HR0.out x9_1 p195 q195
      cases e195
      replace hx195_0 := (HB.out.cell (World.block_lt_of_cell? w _ hx195_0)).trans hx195_0
      replace hx195_1 := (HB.out.cell (World.block_lt_of_cell? w _ hx195_1)).trans hx195_1
      replace p195 := eq_true p195
      replace q195 := eq_true q195
      go_wp2_with (first | ((with_reducible refine gate_dst (N := 5) rfl ?_); refine box_event ?hg (N := 5) ?hd (cs := #[.int .i64 0, .int .i64 0]) (t := 47) ?hr ?_; (case hd => rfl); (case hg => rfl); (case hr => first | (go_simp; done) | (go_simp; rfl)); intro gb196 hg w5 hbox hb; have n0_ := Aside0.mk (Kd.S_below (by (with_reducible repeat (first | apply Kd.S_alloc | apply Kd.S_drewN | apply Kd.S_drew)); exact HO_3.out) hb); have n1_ := Aside0.mk (below_step hb_ hb); have n2_ := Aside0.mk (hbox); have n3_ := Aside0.mk ((by rw [hg]; exact (below_size hb_) : w.heap.size ≤ gb196)); have n4_ := Aside0.mk ((by rw [hg]; exact (below_size hb_) : w.heap.size ≤ gb196)); clear HO_3; clear HB; have HO_3 := n0_; have HB := n1_; have BK196 := n2_; have GW196 := n3_; have GE196 := n4_; clear n0_ n1_ n2_ n3_ n4_; clear hb hbox hg; have hcz6_0 : w5.cell? ⟨gb196, 0, none⟩ = some (.int .i64 0) := bc_ BK196 0; have hcz6_1 : w5.cell? ⟨gb196, 1, none⟩ = some (.int .i64 0) := bc_ BK196 1; have hfz6_0 := blk_frozen BK196.out 0; have hfz6_1 := blk_frozen BK196.out 1))
      go_loopg [3, 6] k1 (fun kq v3 v6 w' => ∃ (x3_2 : List (List Int)) (x6_2 : Int), v6 = .int .i64 x6_2 ∧ Aside0 (spec_cdPairs.l1 kq l0 x3_2 x9_1 x6_2 l0 (l0.length : Int) x9_1 ((rd_T47 l0 x9_1).f0) ((rd_T47 l0 x9_1).f1) = some r) ∧ Aside0 (kq ≤ k1) ∧ Aside0 (Kd.S (Kd.slice 3 (Kd.int .i64)) 24 w' w.heap.size (fun _ => True) v3 x3_2) ∧ Aside0 (w'.heap[gb196]? = some (.cells #[.int .i64 ((rd_T47 l0 x9_1).f0), .int .i64 ((rd_T47 l0 x9_1).f1)] 47 (0, 0))) ∧ Aside0 (Below w.heap.size w w'))
      case atStart => exact ⟨(x3_1), (wrap64 (x9_1 + 1)), (by first | rfl | (simp; done) | (simp [*]; done)), H', ⟨Nat.le_refl _⟩, ⟨by (with_reducible repeat (first | apply Kd.S_alloc | apply Kd.S_drewN | apply Kd.S_drew)); exact Kd.S_mono (Kd.S_far (p := ⟨gb196, 1, none⟩) (Kd.S_far (p := ⟨gb196, 0, none⟩) (Kd.S_types HO_3.out BK196.out (by decide)) (fun _ hk => hk.2) (.int .i64 ((rd_T47 l0 x9_1).f0))) (fun _ hk => hk.2) (.int .i64 ((rd_T47 l0 x9_1).f1))) (fun _ hk => trivial)⟩, ⟨by (with_reducible repeat (first | refine kN ?_ _ | refine kD ?_ | refine kA ?_ _)); refine blk_put (cs := #[.int .i64 ((rd_T47 l0 x9_1).f0), .int .i64 0]) ?_ 1 _ rfl; (with_reducible repeat (first | refine kN ?_ _ | refine kD ?_ | refine kA ?_ _)); refine blk_put (cs := #[.int .i64 0, .int .i64 0]) ?_ 0 _ rfl; (with_reducible repeat (first | refine kN ?_ _ | refine kD ?_ | refine kA ?_ _)); exact BK196.out⟩, ⟨hs_ GE196.out⟩⟩
      case round =>
       clear H'
       try clear p1
       try clear q1
       try clear hx1
       try clear c2
       try clear c2b0
       try clear p2
       try clear c3
       try clear c3b0
       try clear c4
       try clear c4b0
       try clear c5
       try clear p6
       try clear hcz6_0
       try clear hcz6_1
       try clear hfz6_0
       try clear hfz6_1
       try clear hx195_0
       try clear hx195_1
       try clear p195
       try clear q195
       obtain ⟨x3_2, x6_2, rfl, HA, HK2, HO_3, BK196, HB⟩ := hrel
       cases gk with
       | zero => exact absurd HA.out (by simp [spec_cdPairs.l1])
       | succ k2 =>
        have H := HA.out
        clear HA
        simp only [spec_cdPairs.l1] at H
        by_cases c7 : x6_2 < (l0.length : Int)
        ·rw [if_pos c7] at H
         have c7b0 : decide (x6_2 < (l0.length : Int)) = true := decide_eq_true c7
         clear c7
         by_cases c8 : 0 ≤ x6_2
         ·rw [if_pos c8] at H
          have c8b0 : decide (0 ≤ x6_2) = true := decide_eq_true c8
          clear c8
          replace H := bI H
          obtain ⟨t198, A90, H⟩ := H
          replace H : (if t198 = true then (if x3_2.length < 5864062014805 then (spec_cdPairs.l1 k2 l0 (x3_2 ++ [(([x9_1, x6_2] : List Int))]) x9_1 (wrap64 (x6_2 + 1)) l0 (l0.length : Int) x9_1 ((rd_T47 l0 x9_1).f0) ((rd_T47 l0 x9_1).f1)) else (none)) else (spec_cdPairs.l1 k2 l0 x3_2 x9_1 (wrap64 (x6_2 + 1)) l0 (l0.length : Int) x9_1 ((rd_T47 l0 x9_1).f0) ((rd_T47 l0 x9_1).f1))) = some r := H
          have A9 := Aside0.mk A90
          clear A90
          by_cases c10 : t198 = true
          ·subst c10
           have H1 : (if x3_2.length < 5864062014805 then (spec_cdPairs.l1 k2 l0 (x3_2 ++ [(([x9_1, x6_2] : List Int))]) x9_1 (wrap64 (x6_2 + 1)) l0 (l0.length : Int) x9_1 ((rd_T47 l0 x9_1).f0) ((rd_T47 l0 x9_1).f1)) else (none)) = some r := by rw [if_pos rfl] at H; exact H
           clear H
           have H := H1
           clear H1
           obtain ⟨y199, hy199⟩ : ∃ y_ : List Int, y_ = (([x9_1, x6_2] : List Int)) := ⟨_, rfl⟩
           replace H : (if x3_2.length < 5864062014805 then (spec_cdPairs.l1 k2 l0 (x3_2 ++ [y199]) x9_1 (wrap64 (x6_2 + 1)) l0 (l0.length : Int) x9_1 ((rd_T47 l0 x9_1).f0) ((rd_T47 l0 x9_1).f1)) else (none)) = some r := by first | (rw [hy199]; with_reducible exact H) | (have H2_ := (Option.bind_some _ _).symm.trans H; rw [hy199]; with_reducible exact H2_) | (have H2_ := (Option.bind_some _ _).symm.trans H; with_reducible exact H2_) | with_reducible exact H | (rw [hy199]; exact H) | exact H
           have Ny199 := Aside0.mk hy199
           clear hy199
           by_cases c11 : x3_2.length < 5864062014805
           ·rw [if_pos c11] at H
            have LMc11 := Aside0.mk c11
            clear c11
            obtain ⟨y202, hy202⟩ : ∃ y_ : List (List Int), y_ = (x3_2 ++ [y199]) := ⟨_, rfl⟩
            replace H : (spec_cdPairs.l1 k2 l0 y202 x9_1 (wrap64 (x6_2 + 1)) l0 (l0.length : Int) x9_1 ((rd_T47 l0 x9_1).f0) ((rd_T47 l0 x9_1).f1)) = some r := by first | (rw [hy202]; with_reducible exact H) | (have H2_ := (Option.bind_some _ _).symm.trans H; rw [hy202]; with_reducible exact H2_) | (have H2_ := (Option.bind_some _ _).symm.trans H; with_reducible exact H2_) | with_reducible exact H | (rw [hy202]; exact H) | exact H
            have Ny202 := Aside0.mk hy202
            clear hy202
            have H' := Aside0.mk H
            clear H
            try go_wp2
            have n0_ := Aside0.mk (Kd.S_drew HO_3.out)
            have n1_ := Aside0.mk (blk_drew BK196.out)
            have n2_ := Aside0.mk (below_drew1 HB.out)
            clear HO_3
            clear BK196
            clear HB
            have HO_3 := n0_
            have BK196 := n1_
            have HB := n2_
            clear n0_ n1_ n2_
            have p197 : 0 ≤ (x6_2 : Int) := of_decide_eq_true (by assumption)
            have q197 : x6_2 < (l0.length : Int) := of_decide_eq_true (by assumption)
            obtain ⟨ad197, e197, hx197_0, hx197_1⟩ := at_T47 HR0.out x6_2 p197 q197
            have hw197_1 := hx197_1
            have hw197_0 := hx197_0
            obtain rfl : ad195 = ad197 := (by injection e197)
            replace hx197_0 := (HB.out.cell (World.block_lt_of_cell? w _ hx197_0)).trans hx197_0
            replace hx197_1 := (HB.out.cell (World.block_lt_of_cell? w _ hx197_1)).trans hx197_1
            replace p197 := eq_true p197
            replace q197 := eq_true q197
            refine start_ (n := 6) (S := fun w' => w'.cell? ⟨gb196, 0, none⟩ = some (.int .i64 ((rd_T47 l0 x9_1).f0)) ∧ w'.cell? ⟨gb196, 1, none⟩ = some (.int .i64 ((rd_T47 l0 x9_1).f1)) ∧ w'.cell? (ad195.add ((x6_2).toNat * 2)) = some (.int .i64 ((rd_T47 l0 x6_2).f0)) ∧ w'.cell? ⟨(ad195.add ((x6_2).toNat * 2)).block, (ad195.add ((x6_2).toNat * 2)).off + 1, none⟩ = some (.int .i64 ((rd_T47 l0 x6_2).f1))) (ds := []) #[false, false, false, false, false, false] (by kernel_rfl) rfl rfl ⟨bc_ BK196 0, bc_ BK196 1, ((HB.out.cell (World.block_lt_of_cell? w _ hw197_0)).trans hw197_0), ((HB.out.cell (World.block_lt_of_cell? w _ hw197_1)).trans hw197_1)⟩ (fun hHeld => ?_)
            generalize wr.drew = w12 at HO_3 BK196 HB hx197_0 hx197_1 hHeld ⊢
            refine pure_ (i := 1) (N := some 23) (v := ?_) (a' := ?_) #[false, true, false, false, false, false] rfl rfl (by kernel_rfl) (fun _ _ _ h => h) (Or.inl ⟨by rfl, ?_⟩) ?_ ?_
            rotate_left
            ·intro w'
             go_simp
             with_reducible rfl
            rotate_left
            ·simp only [Act.put, sT, sZ, sS, i64_w, i32_w]
             rfl
            refine pure_ (i := 2) (N := some 24) (v := ?_) (a' := ?_) #[false, true, true, false, false, false] rfl rfl (by kernel_rfl) (fun _ _ _ h => h) (Or.inl ⟨by rfl, ?_⟩) ?_ ?_
            rotate_left
            ·intro w'
             go_simp
             with_reducible rfl
            rotate_left
            ·simp only [Act.put, sT, sZ, sS, i64_w, i32_w]
             rfl
            refine pure_ (i := 3) (N := some 25) (v := ?_) (a' := ?_) #[false, true, true, true, false, false] rfl rfl (by kernel_rfl) (fun _ _ _ h => h) (Or.inl ⟨by rfl, ?_⟩) ?_ ?_
            rotate_left
            ·intro w'
             go_simp
             with_reducible rfl
            rotate_left
            ·simp only [Act.put, sT, sZ, sS, i64_w, i32_w]
             rfl
            refine take_ (i := 0) (N := some 22) (v := ?_) (a' := ?_) #[true, true, true, true, false, false] rfl rfl (by kernel_rfl) (fun _ _ _ h => h) (Or.inl ⟨by rfl, ?_⟩) hHeld ?_ ?_
            rotate_left
            ·rintro w' ⟨s0, s1, s2, s3⟩
             go_simp
             with_reducible rfl
            rotate_left
            ·simp only [Act.put, sT, sZ, sS, i64_w, i32_w]
             rfl
            refine take_ (i := 4) (N := some 26) (v := ?_) (a' := ?_) #[true, true, true, true, true, false] rfl rfl (by kernel_rfl) (fun _ _ _ h => h) (Or.inl ⟨by rfl, ?_⟩) hHeld ?_ ?_
            rotate_left
            ·rintro w' ⟨s0, s1, s2, s3⟩
             go_simp
             with_reducible rfl
            rotate_left
            ·simp only [Act.put, sT, sZ, sS, i64_w, i32_w]
             rfl
            refine one_ (i := 5) (N := some 27) #[true, true, true, true, true, true] rfl rfl (by kernel_rfl) (by decide) (fun K hK => ?_)
            refine goes_ Try.func80 (by kernel_rfl) rfl #[.agg #[.int .i64 ((rd_T47 l0 x9_1).f0), .int .i64 ((rd_T47 l0 x9_1).f1)], .agg #[.int .i64 ((rd_T47 l0 x6_2).f0), .int .i64 ((rd_T47 l0 x6_2).f1)]] (by rfl) rfl rfl ar_ ?_
            with_reducible refine (spec_srCross.calls ((rd_T47 l0 x9_1).f0) ((rd_T47 l0 x9_1).f1) ((rd_T47 l0 x6_2).f0) ((rd_T47 l0 x6_2).f1) true _ A9.out).mono ?_
            rintro e w13 ⟨rfl, hb⟩
            refine ⟨_, rfl, ?_⟩
            have n0_ := Aside0.mk (Kd.S_below (by (with_reducible repeat (first | apply Kd.S_alloc | apply Kd.S_drewN | apply Kd.S_drew)); exact HO_3.out) hb)
            have n1_ := Aside0.mk (blk_below (g := gb196) (o := .cells #[.int .i64 ((rd_T47 l0 x9_1).f0), .int .i64 ((rd_T47 l0 x9_1).f1)] 47 (0, 0)) (kx_ BK196.out) hb)
            have n2_ := Aside0.mk (below_step (hs_ GE196.out) hb)
            clear HO_3
            clear BK196
            clear HB
            have HO_3 := n0_
            have BK196 := n1_
            have HB := n2_
            clear n0_ n1_ n2_
            (try clear hb)
            (try clear hb2)
            (try clear hk)
            (try clear hi)
            refine hK.out _ _ ⟨bc_ BK196 0, bc_ BK196 1, ((HB.out.cell (World.block_lt_of_cell? w _ hw197_0)).trans hw197_0), ((HB.out.cell (World.block_lt_of_cell? w _ hw197_1)).trans hw197_1)⟩ (fun hHeld => ?_)
            clear hK K
            refine norm_ (a' := ?_) ?_ ?_
            rotate_left
            ·show Act.put _ (some 27) _ = _
             simp only [Act.put, sT, sZ, sS, i64_w, i32_w]
             rfl
            refine done_ (by kernel_rfl) ?_
            try go_wp2_with (first | ((with_reducible refine gate_dst (N := 31) rfl ?_); refine Kd.R_lit (Kd.int .i64) _ 3 ?hg (N := 31) ?hd (xs := ([x9_1, x6_2] : List Int)) (inner := [.int .i64 x9_1, .int .i64 x6_2]) (ok := fun _ => True) (okp := fun _ => True) ?hr ?hp (fun _ hk => hk) trivial (Below.refl _ _) (Nat.le_refl _) (by simp) ?_; (case hd => rfl); (case hg => rfl); (case hr => first | (go_simp; done) | (go_simp; rfl)); (case hp => exact (Reps.one (show Kd.M (Kd.int .i64) _ _ _ x9_1 [.int .i64 x9_1] from rfl) (Reps.one (show Kd.M (Kd.int .i64) _ _ _ x6_2 [.int .i64 x6_2] from rfl) (Reps.none _ _)))); intro v200 w14 ho15 hb hg_ hnew_; clear hg_ hnew_; (first | rw [← Ny199.out] at ho15 | (simp only [Int.reduceToNat] at ho15; rw [← Ny199.out] at ho15)); have n0_ := Aside0.mk (Kd.S_elder' (by (with_reducible repeat (first | apply Kd.S_alloc | apply Kd.S_drewN | apply Kd.S_drew)); exact HO_3.out) (Kd.R_base ho15) hb); have n1_ := Aside0.mk (Kd.R_lower ho15 (below_size (hs_ GE196.out))); have n2_ := Aside0.mk (blk_below (g := gb196) (o := .cells #[.int .i64 ((rd_T47 l0 x9_1).f0), .int .i64 ((rd_T47 l0 x9_1).f1)] 47 (0, 0)) (kx_ BK196.out) hb); have n3_ := Aside0.mk (below_step (hs_ GE196.out) hb); clear HO_3; clear BK196; clear HB; have HO_3 := n0_; have HO201 := n1_; have BK196 := n2_; have HB := n3_; clear n0_ n1_ n2_ n3_; clear hb ho15; obtain ⟨Ao17, co17, eo17⟩ := Kd.R_slice HO201.out; subst eo17) | ((with_reducible refine gate_builtin (b := .append) (xs := #[.tmp 28, .tmp 32]) rfl ?_); at_builtin; refine Kd.S_append (Kd.slice 3 (Kd.int .i64)) (w0 := w) w.heap.size rfl (.tmp 28) (.tmp 32) 37 24 (.slice none 0 0) 24 rfl Try.underlying37 info24 rfl (by decide) (by omega) u3 x3_2 y199 [.slice Ao17 y199.length co17] (fun _ => True) (fun k_ => some k_ = (.slice Ao17 y199.length co17 : Value).ownBlock) rfl rfl ?aP (fun k_ hk_ => ((Kd.R_mono (ok' := fun k_ => ((fun _ => True)) k_ ∧ some k_ ≠ (u3 : Value).ownBlock) (Kd.R_apart' (HO201.out) (Kd.S_typed HO_3.out) (by decide)) (fun k_ hk => ⟨trivial, hk.2⟩))).1 k_ hk_.symm) ?aF ?aO ?aB ?aS ?aL ?_; (case aP => exact Kd.M_row (Kd.R_mono (Kd.R_tight rfl (Kd.R_mono (ok' := fun k_ => ((fun _ => True)) k_ ∧ some k_ ≠ (u3 : Value).ownBlock) (Kd.R_apart' (HO201.out) (Kd.S_typed HO_3.out) (by decide)) (fun k_ hk => ⟨trivial, hk.2⟩))) (fun _ h_ => h_))); (case aB => exact (hs_ GE196.out)); (case aF => exact (fun _ _ => trivial)); (case aO => exact (by (with_reducible repeat (first | apply Kd.S_alloc | apply Kd.S_drewN | apply Kd.S_drew)); exact Kd.S_mono HO_3.out (fun k_ hk => ⟨trivial, fun e_ => hk.2 e_⟩))); (case aS => exact (below_size (hs_ GE196.out))); (case aL => have := LMc11.out; omega); intro v203 w16 ho hb hg hat; rw [← Ny202.out] at ho; have n0_ := Aside0.mk (blk_grown (g := gb196) (o := .cells #[.int .i64 ((rd_T47 l0 x9_1).f0), .int .i64 ((rd_T47 l0 x9_1).f1)] 47 (0, 0)) (kx_ BK196.out) hg (Kd.S_ne HO_3.out BK196.out (by decide))); have n1_ := Aside0.mk (hb); have n2_ := Aside0.mk (ho); clear BK196; clear HB; clear HO_3; clear HO201; have BK196 := n0_; have HB := n1_; have HO204 := n2_; clear n0_ n1_ n2_; clear ho hb hg hat))
            go_roundg k2
            case measure => have := HK1.out; have := HK2.out; omega
            case rel => exact ⟨(y202), (wrap64 (x6_2 + 1)), (by first | rfl | (simp; done) | (simp [*]; done)), H', ⟨by have := HK1.out; have := HK2.out; omega⟩, ⟨by (with_reducible repeat (first | apply Kd.S_alloc | apply Kd.S_drewN | apply Kd.S_drew)); exact HO204.out⟩, ⟨by (with_reducible repeat (first | refine kN ?_ _ | refine kD ?_ | refine kA ?_ _)); exact BK196.out⟩, ⟨hs_ GE196.out⟩⟩
           ·rw [if_neg c11] at H
            exact absurd H (by simp)
          ·replace c10 := Bool.eq_false_iff.mpr c10
           subst c10
           have H1 : (spec_cdPairs.l1 k2 l0 x3_2 x9_1 (wrap64 (x6_2 + 1)) l0 (l0.length : Int) x9_1 ((rd_T47 l0 x9_1).f0) ((rd_T47 l0 x9_1).f1)) = some r := by rw [if_neg (show ¬ (false = true) by decide)] at H; exact H
           clear H
           have H := H1
           clear H1
           have H' := Aside0.mk H
           clear H
           try go_wp2
           have n0_ := Aside0.mk (Kd.S_drew HO_3.out)
           have n1_ := Aside0.mk (blk_drew BK196.out)
           have n2_ := Aside0.mk (below_drew1 HB.out)
           clear HO_3
           clear BK196
           clear HB
           have HO_3 := n0_
           have BK196 := n1_
           have HB := n2_
           clear n0_ n1_ n2_
           have p197 : 0 ≤ (x6_2 : Int) := of_decide_eq_true (by assumption)
           have q197 : x6_2 < (l0.length : Int) := of_decide_eq_true (by assumption)
           obtain ⟨ad197, e197, hx197_0, hx197_1⟩ := at_T47 HR0.out x6_2 p197 q197
           have hw197_1 := hx197_1
           have hw197_0 := hx197_0
           obtain rfl : ad195 = ad197 := (by injection e197)
           replace hx197_0 := (HB.out.cell (World.block_lt_of_cell? w _ hx197_0)).trans hx197_0
           replace hx197_1 := (HB.out.cell (World.block_lt_of_cell? w _ hx197_1)).trans hx197_1
           replace p197 := eq_true p197
           replace q197 := eq_true q197
           refine start_ (n := 6) (S := fun w' => w'.cell? ⟨gb196, 0, none⟩ = some (.int .i64 ((rd_T47 l0 x9_1).f0)) ∧ w'.cell? ⟨gb196, 1, none⟩ = some (.int .i64 ((rd_T47 l0 x9_1).f1)) ∧ w'.cell? (ad195.add ((x6_2).toNat * 2)) = some (.int .i64 ((rd_T47 l0 x6_2).f0)) ∧ w'.cell? ⟨(ad195.add ((x6_2).toNat * 2)).block, (ad195.add ((x6_2).toNat * 2)).off + 1, none⟩ = some (.int .i64 ((rd_T47 l0 x6_2).f1))) (ds := []) #[false, false, false, false, false, false] (by kernel_rfl) rfl rfl ⟨bc_ BK196 0, bc_ BK196 1, ((HB.out.cell (World.block_lt_of_cell? w _ hw197_0)).trans hw197_0), ((HB.out.cell (World.block_lt_of_cell? w _ hw197_1)).trans hw197_1)⟩ (fun hHeld => ?_)
           generalize wr.drew = w18 at HO_3 BK196 HB hx197_0 hx197_1 hHeld ⊢
           refine pure_ (i := 1) (N := some 23) (v := ?_) (a' := ?_) #[false, true, false, false, false, false] rfl rfl (by kernel_rfl) (fun _ _ _ h => h) (Or.inl ⟨by rfl, ?_⟩) ?_ ?_
           rotate_left
           ·intro w'
            go_simp
            with_reducible rfl
           rotate_left
           ·simp only [Act.put, sT, sZ, sS, i64_w, i32_w]
            rfl
           refine pure_ (i := 2) (N := some 24) (v := ?_) (a' := ?_) #[false, true, true, false, false, false] rfl rfl (by kernel_rfl) (fun _ _ _ h => h) (Or.inl ⟨by rfl, ?_⟩) ?_ ?_
           rotate_left
           ·intro w'
            go_simp
            with_reducible rfl
           rotate_left
           ·simp only [Act.put, sT, sZ, sS, i64_w, i32_w]
            rfl
           refine pure_ (i := 3) (N := some 25) (v := ?_) (a' := ?_) #[false, true, true, true, false, false] rfl rfl (by kernel_rfl) (fun _ _ _ h => h) (Or.inl ⟨by rfl, ?_⟩) ?_ ?_
           rotate_left
           ·intro w'
            go_simp
            with_reducible rfl
           rotate_left
           ·simp only [Act.put, sT, sZ, sS, i64_w, i32_w]
            rfl
           refine take_ (i := 0) (N := some 22) (v := ?_) (a' := ?_) #[true, true, true, true, false, false] rfl rfl (by kernel_rfl) (fun _ _ _ h => h) (Or.inl ⟨by rfl, ?_⟩) hHeld ?_ ?_
           rotate_left
           ·rintro w' ⟨s0, s1, s2, s3⟩
            go_simp
            with_reducible rfl
           rotate_left
           ·simp only [Act.put, sT, sZ, sS, i64_w, i32_w]
            rfl
           refine take_ (i := 4) (N := some 26) (v := ?_) (a' := ?_) #[true, true, true, true, true, false] rfl rfl (by kernel_rfl) (fun _ _ _ h => h) (Or.inl ⟨by rfl, ?_⟩) hHeld ?_ ?_
           rotate_left
           ·rintro w' ⟨s0, s1, s2, s3⟩
            go_simp
            with_reducible rfl
           rotate_left
           ·simp only [Act.put, sT, sZ, sS, i64_w, i32_w]
            rfl
           refine one_ (i := 5) (N := some 27) #[true, true, true, true, true, true] rfl rfl (by kernel_rfl) (by decide) (fun K hK => ?_)
           refine goes_ Try.func80 (by kernel_rfl) rfl #[.agg #[.int .i64 ((rd_T47 l0 x9_1).f0), .int .i64 ((rd_T47 l0 x9_1).f1)], .agg #[.int .i64 ((rd_T47 l0 x6_2).f0), .int .i64 ((rd_T47 l0 x6_2).f1)]] (by rfl) rfl rfl ar_ ?_
           with_reducible refine (spec_srCross.calls ((rd_T47 l0 x9_1).f0) ((rd_T47 l0 x9_1).f1) ((rd_T47 l0 x6_2).f0) ((rd_T47 l0 x6_2).f1) false _ A9.out).mono ?_
           rintro e w19 ⟨rfl, hb⟩
           refine ⟨_, rfl, ?_⟩
           have n0_ := Aside0.mk (Kd.S_below (by (with_reducible repeat (first | apply Kd.S_alloc | apply Kd.S_drewN | apply Kd.S_drew)); exact HO_3.out) hb)
           have n1_ := Aside0.mk (blk_below (g := gb196) (o := .cells #[.int .i64 ((rd_T47 l0 x9_1).f0), .int .i64 ((rd_T47 l0 x9_1).f1)] 47 (0, 0)) (kx_ BK196.out) hb)
           have n2_ := Aside0.mk (below_step (hs_ GE196.out) hb)
           clear HO_3
           clear BK196
           clear HB
           have HO_3 := n0_
           have BK196 := n1_
           have HB := n2_
           clear n0_ n1_ n2_
           (try clear hb)
           (try clear hb2)
           (try clear hk)
           (try clear hi)
           refine hK.out _ _ ⟨bc_ BK196 0, bc_ BK196 1, ((HB.out.cell (World.block_lt_of_cell? w _ hw197_0)).trans hw197_0), ((HB.out.cell (World.block_lt_of_cell? w _ hw197_1)).trans hw197_1)⟩ (fun hHeld => ?_)
           clear hK K
           refine norm_ (a' := ?_) ?_ ?_
           rotate_left
           ·show Act.put _ (some 27) _ = _
            simp only [Act.put, sT, sZ, sS, i64_w, i32_w]
            rfl
           refine done_ (by kernel_rfl) ?_
           try go_wp2
           go_roundg k2
           case measure => have := HK1.out; have := HK2.out; omega
           case rel => exact ⟨(x3_2), (wrap64 (x6_2 + 1)), (by first | rfl | (simp; done) | (simp [*]; done)), H', ⟨by have := HK1.out; have := HK2.out; omega⟩, ⟨by (with_reducible repeat (first | apply Kd.S_alloc | apply Kd.S_drewN | apply Kd.S_drew)); exact HO_3.out⟩, ⟨by (with_reducible repeat (first | refine kN ?_ _ | refine kD ?_ | refine kA ?_ _)); exact BK196.out⟩, ⟨hs_ GE196.out⟩⟩
         ·rw [if_neg c8] at H
          exact absurd H (by simp)
        ·rw [if_neg c7] at H
         have c7b0 : decide (x6_2 < (l0.length : Int)) = false := decide_eq_false c7
         clear c7
         have H' := Aside0.mk H
         clear H
         go_wp2
         go_roundg k2
         case measure => have := HK1.out; have := HK2.out; omega
         case rel => exact ⟨(x3_2), (wrap64 (x9_1 + 1)), (by first | rfl | (simp; done) | (simp [*]; done)), H', ⟨by have := HK1.out; have := HK2.out; omega⟩, ⟨by (with_reducible repeat (first | apply Kd.S_alloc | apply Kd.S_drewN | apply Kd.S_drew)); exact HO_3.out⟩, ⟨hs_ GE196.out⟩⟩
     ·rw [if_neg c4] at H
      exact absurd H (by simp)
    ·rw [if_neg c3] at H
     exact absurd H (by simp)
   ·rw [if_neg c2] at H
    have c2b0 : decide (x9_1 < (l0.length : Int)) = false := decide_eq_false c2
    clear c2
    obtain rfl := oI H
    go_wp2
    go_ret
    exact ⟨_, by first | rfl | (simp [errW_none, errW_some] <;> rfl) | (simp [*, errW_none, errW_some] <;> rfl), by (with_reducible repeat (first | apply Kd.S_alloc | apply Kd.S_drewN | apply Kd.S_drew)); exact HO_3.out, hb_⟩
def spec_rePlane.f (k : Nat) (a0 : Int) (l1 : List (S47)) : Option (Bool) := (spec_cdGood.f k a0 l1).bind fun t205 => (if t205 = true then ((spec_cdPairs.f k l1).bind fun t206 => (some ((t206.length : Int) == 0))) else (some false))
theorem spec_rePlane.mono : ∀ a0 a1 k, LeO (spec_rePlane.f k a0 a1) (spec_rePlane.f (k + 1) a0 a1) := by
 intro a0 a1 k
 unfold spec_rePlane.f
 repeat' first
   | (with_reducible exact spec_cdGood.mono _ _ _)
   | (with_reducible exact spec_cdPairs.mono _ _)
   | (with_reducible exact LeO.refl _)
   | (with_reducible exact LeO.none _)
   | (with_reducible refine LeO.ite ?_ ?_)
   | (with_reducible refine LeO.bind ?_ (fun _ => ?_))
   | exact spec_cdGood.mono _ _ _
   | exact spec_cdPairs.mono _ _
   | exact LeO.none _
   | refine LeO.ite ?_ ?_
   | refine LeO.bind ?_ (fun _ => ?_)
set_option maxHeartbeats 8000000 in
set_option maxRecDepth 100000 in
theorem spec_rePlane.calls (k : Nat) (a0 : Int) (A1 : Option Addr) (c1 : Nat) (l1 : List (S47)) (r : Bool) (w : World) (hr1 : Kd.C k47 w A1 l1.length l1) (hc1 : l1.length ≤ c1) (h : spec_rePlane.f k a0 l1 = some r) :
  Calls Try.prog 32 #[.int .i64 a0, .slice A1 l1.length c1] w fun e w' => e = .returned (.bool r) ∧ Below w.heap.size w w' := by
 have HR1 := Aside0.mk hr1
 have HC1 := Aside0.mk hc1
 clear hr1 hc1
 have HB := Aside0.mk (Below.refl w.heap.size w)
 have H : ((spec_cdGood.f k a0 l1).bind fun t205 => (if t205 = true then ((spec_cdPairs.f k l1).bind fun t206 => (some ((t206.length : Int) == 0))) else (some false))) = some r := h
 clear h
 replace H := bI H
 obtain ⟨t205, A30, H⟩ := H
 replace H : (if t205 = true then ((spec_cdPairs.f k l1).bind fun t206 => (some ((t206.length : Int) == 0))) else (some false)) = some r := H
 have A3 := Aside0.mk A30
 clear A30
 by_cases c4 : t205 = true
 ·subst c4
  have H1 : ((spec_cdPairs.f k l1).bind fun t206 => (some ((t206.length : Int) == 0))) = some r := by rw [if_pos rfl] at H; exact H
  clear H
  have H := H1
  clear H1
  replace H := bI H
  obtain ⟨t206, A50, H⟩ := H
  replace H : (some ((t206.length : Int) == 0)) = some r := H
  have A5 := Aside0.mk A50
  clear A50
  obtain rfl := oI H
  go_enter Try.func32, Try.ntmps32
  go_wp2_with (first | ((with_reducible refine gate_callee (f := 43) rfl ?_); refine goesL_ (some 7) rfl rfl Try.func43 (by kernel_rfl) rfl #[.int .i64 a0, .slice A1 l1.length c1] rfl ar_ ?_; (with_reducible refine (spec_cdGood.calls k a0 _ _ l1 true _ ?side1 ?side2 A3.out).mono ?_); (case side1 => repeat (first | exact HR1.out | (with_reducible refine Kd.C_alloc ?_ _) | (with_reducible refine Kd.C_drewN ?_ _) | (with_reducible refine Kd.C_drew ?_))); (case side2 => exact HC1.out); rintro e w6 ⟨rfl, hb⟩; refine ⟨_, rfl, ?_⟩; have n0_ := Aside0.mk (below_step hb_ hb); clear HB; have HB := n0_; clear n0_; (try clear hb); (try clear hb2); (try clear hk); (try clear hi)) | (go_at_call 59; (with_reducible refine (spec_cdPairs.calls k _ _ l1 t206 _ ?side1 ?side2 A5.out).mono ?_); (case side1 => repeat (first | exact (Kd.C_below HR1.out HB.out) | (with_reducible refine Kd.C_alloc ?_ _) | (with_reducible refine Kd.C_drewN ?_ _) | (with_reducible refine Kd.C_drew ?_))); (case side2 => exact HC1.out); rintro e w7 ⟨v207, rfl, ho0, hb⟩; have n0_ := Aside0.mk (Kd.S_lower ho0 (below_size hb_)); have n1_ := Aside0.mk (below_step hb_ hb); clear HB; have HO208 := n0_; have HB := n1_; clear n0_ n1_; (try clear hb); (try clear hb2); (try clear hk); (try clear hi); (try clear ho0); obtain ⟨Ao8, co8, eo8⟩ := Kd.S_slice HO208.out; subst eo8))
  go_ret
  exact ⟨by first | rfl | (simp [errW_none, errW_some] <;> rfl) | (simp [*, errW_none, errW_some] <;> rfl), hb_⟩
 ·replace c4 := Bool.eq_false_iff.mpr c4
  subst c4
  have H1 : (some false) = some r := by rw [if_neg (show ¬ (false = true) by decide)] at H; exact H
  clear H
  have H := H1
  clear H1
  obtain rfl := oI H
  go_enter Try.func32, Try.ntmps32
  go_wp2_with (first | ((with_reducible refine gate_callee (f := 43) rfl ?_); refine goesL_ (some 7) rfl rfl Try.func43 (by kernel_rfl) rfl #[.int .i64 a0, .slice A1 l1.length c1] rfl ar_ ?_; (with_reducible refine (spec_cdGood.calls k a0 _ _ l1 false _ ?side1 ?side2 A3.out).mono ?_); (case side1 => repeat (first | exact HR1.out | (with_reducible refine Kd.C_alloc ?_ _) | (with_reducible refine Kd.C_drewN ?_ _) | (with_reducible refine Kd.C_drew ?_))); (case side2 => exact HC1.out); rintro e w9 ⟨rfl, hb⟩; refine ⟨_, rfl, ?_⟩; have n0_ := Aside0.mk (below_step hb_ hb); clear HB; have HB := n0_; clear n0_; (try clear hb); (try clear hb2); (try clear hk); (try clear hi)))
  go_ret
  exact ⟨by first | rfl | (simp [errW_none, errW_some] <;> rfl) | (simp [*, errW_none, errW_some] <;> rfl), hb_⟩
def spec_l1Least.f (a0 : Int) (a1 : Int) : Option (Int) := if a0 < a1 then (some a0) else (some a1)
set_option maxHeartbeats 8000000 in
set_option maxRecDepth 100000 in
theorem spec_l1Least.calls (a0 : Int) (a1 : Int) (r : Int) (w : World) (h : spec_l1Least.f a0 a1 = some r) :
  Calls Try.prog 87 #[.int .i64 a0, .int .i64 a1] w fun e w' => e = .returned (.int .i64 r) ∧ Drawn0 w w' := by
 have H : (if a0 < a1 then (some a0) else (some a1)) = some r := h
 clear h
 by_cases c3 : a0 < a1
 ·rw [if_pos c3] at H
  have c3b0 : decide (a0 < a1) = true := decide_eq_true c3
  clear c3
  obtain rfl := oI H
  go_enter Try.func87, Try.ntmps87
  go_wp2
  go_ret
  exact ⟨by first | rfl | (simp; done) | (simp [*]; done), by repeat (first | exact Drawn0.refl _ | apply Drawn0.step)⟩
 ·rw [if_neg c3] at H
  have c3b0 : decide (a0 < a1) = false := decide_eq_false c3
  clear c3
  obtain rfl := oI H
  go_enter Try.func87, Try.ntmps87
  go_wp2
  go_ret
  exact ⟨by first | rfl | (simp; done) | (simp [*]; done), by repeat (first | exact Drawn0.refl _ | apply Drawn0.step)⟩
def spec_cdLength.f (a0 : Int) (a1_0 : Int) (a1_1 : Int) : Option (Int) := (spec_l1Least.f (wrap64 (a1_1 - a1_0)) (wrap64 ((wrap64 (a0 - a1_1)) + a1_0))).bind fun t248 => (some t248)
set_option maxHeartbeats 8000000 in
set_option maxRecDepth 100000 in
theorem spec_cdLength.calls (a0 : Int) (a1_0 : Int) (a1_1 : Int) (r : Int) (w : World) (h : spec_cdLength.f a0 a1_0 a1_1 = some r) :
  Calls Try.prog 89 #[.int .i64 a0, .agg #[.int .i64 a1_0, .int .i64 a1_1]] w fun e w' => e = .returned (.int .i64 r) ∧ Below w.heap.size w w' := by
 have hu47 := Try.underlying47
 have HB := Aside0.mk (Below.refl w.heap.size w)
 have H : ((spec_l1Least.f (wrap64 (a1_1 - a1_0)) (wrap64 ((wrap64 (a0 - a1_1)) + a1_0))).bind fun t248 => (some t248)) = some r := h
 clear h
 replace H := bI H
 obtain ⟨t248, A30, H⟩ := H
 replace H : (some t248) = some r := H
 have A3 := Aside0.mk A30
 clear A30
 obtain rfl := oI H
 go_enter Try.func89, Try.ntmps89
 go_wp2_with (first | ((with_reducible refine gate_dst (N := 3) rfl ?_); refine box_event ?hg (N := 3) ?hd (cs := #[.int .i64 a1_0, .int .i64 a1_1]) (t := 47) ?hr ?_; (case hd => rfl); (case hg => rfl); (case hr => first | (go_simp; done) | (go_simp; rfl)); intro gb247 hg w4 hbox hb; have n0_ := Aside0.mk (below_step hb_ hb); have n1_ := Aside0.mk (hbox); have n2_ := Aside0.mk ((by rw [hg]; exact (below_size hb_) : w.heap.size ≤ gb247)); have n3_ := Aside0.mk ((by rw [hg]; exact (below_size hb_) : w.heap.size ≤ gb247)); clear HB; have HB := n0_; have BK247 := n1_; have GW247 := n2_; have GE247 := n3_; clear n0_ n1_ n2_ n3_; clear hb hbox hg; have hcz5_0 : w4.cell? ⟨gb247, 0, none⟩ = some (.int .i64 a1_0) := bc_ BK247 0; have hcz5_1 : w4.cell? ⟨gb247, 1, none⟩ = some (.int .i64 a1_1) := bc_ BK247 1; have hfz5_0 := blk_frozen BK247.out 0; have hfz5_1 := blk_frozen BK247.out 1) | ((with_reducible refine gate_callee (f := 87) rfl ?_); refine goesL_ (some 17) rfl rfl Try.func87 (by kernel_rfl) rfl #[.int .i64 (wrap64 (a1_1 - a1_0)), .int .i64 (wrap64 ((wrap64 (a0 - a1_1)) + a1_0))] rfl ar_ ?_; (with_reducible refine (spec_l1Least.calls (wrap64 (a1_1 - a1_0)) (wrap64 ((wrap64 (a0 - a1_1)) + a1_0)) t248 _ A3.out).mono ?_); rintro e w' ⟨rfl, ⟨nd, rfl⟩⟩; refine ⟨_, rfl, ?_⟩))
 go_ret
 exact ⟨by first | rfl | (simp [errW_none, errW_some] <;> rfl) | (simp [*, errW_none, errW_some] <;> rfl), hs_ GE247.out⟩
def spec_reDiagonal.f (a0 : Int) (a1_0 : Int) (a1_1 : Int) : Option (Bool) := (spec_cdLength.f a0 a1_0 a1_1).bind fun t250 => (some (decide (t250 > 1)))
set_option maxHeartbeats 8000000 in
set_option maxRecDepth 100000 in
theorem spec_reDiagonal.calls (a0 : Int) (a1_0 : Int) (a1_1 : Int) (r : Bool) (w : World) (h : spec_reDiagonal.f a0 a1_0 a1_1 = some r) :
  Calls Try.prog 72 #[.int .i64 a0, .agg #[.int .i64 a1_0, .int .i64 a1_1]] w fun e w' => e = .returned (.bool r) ∧ Below w.heap.size w w' := by
 have hu47 := Try.underlying47
 have HB := Aside0.mk (Below.refl w.heap.size w)
 have H : ((spec_cdLength.f a0 a1_0 a1_1).bind fun t250 => (some (decide (t250 > 1)))) = some r := h
 clear h
 replace H := bI H
 obtain ⟨t250, A30, H⟩ := H
 replace H : (some (decide (t250 > 1))) = some r := H
 have A3 := Aside0.mk A30
 clear A30
 obtain rfl := oI H
 go_enter Try.func72, Try.ntmps72
 go_wp2_with (first | ((with_reducible refine gate_dst (N := 3) rfl ?_); refine box_event ?hg (N := 3) ?hd (cs := #[.int .i64 a1_0, .int .i64 a1_1]) (t := 47) ?hr ?_; (case hd => rfl); (case hg => rfl); (case hr => first | (go_simp; done) | (go_simp; rfl)); intro gb249 hg w4 hbox hb; have n0_ := Aside0.mk (below_step hb_ hb); have n1_ := Aside0.mk (hbox); have n2_ := Aside0.mk ((by rw [hg]; exact (below_size hb_) : w.heap.size ≤ gb249)); have n3_ := Aside0.mk ((by rw [hg]; exact (below_size hb_) : w.heap.size ≤ gb249)); clear HB; have HB := n0_; have BK249 := n1_; have GW249 := n2_; have GE249 := n3_; clear n0_ n1_ n2_ n3_; clear hb hbox hg; have hcz5_0 : w4.cell? ⟨gb249, 0, none⟩ = some (.int .i64 a1_0) := bc_ BK249 0; have hcz5_1 : w4.cell? ⟨gb249, 1, none⟩ = some (.int .i64 a1_1) := bc_ BK249 1; have hfz5_0 := blk_frozen BK249.out 0; have hfz5_1 := blk_frozen BK249.out 1) | ((with_reducible refine gate_callee (f := 89) rfl ?_); refine goesL_ (some 7) rfl rfl Try.func89 (by kernel_rfl) rfl #[.int .i64 a0, .agg #[.int .i64 a1_0, .int .i64 a1_1]] rfl ar_ ?_; (with_reducible refine (spec_cdLength.calls a0 a1_0 a1_1 t250 _ A3.out).mono ?_); rintro e w6 ⟨rfl, hb⟩; refine ⟨_, rfl, ?_⟩; have n0_ := Aside0.mk (blk_below (g := gb249) (o := .cells #[.int .i64 a1_0, .int .i64 a1_1] 47 (0, 0)) (kx_ BK249.out) hb); have n1_ := Aside0.mk (below_step (hs_ GE249.out) hb); clear BK249; clear HB; have BK249 := n0_; have HB := n1_; clear n0_ n1_; (try clear hb); (try clear hb2); (try clear hk); (try clear hi)))
 go_ret
 exact ⟨by first | rfl | (simp [errW_none, errW_some] <;> rfl) | (simp [*, errW_none, errW_some] <;> rfl), hs_ GE249.out⟩
def spec_reTriangled.l0 : Nat → Int → List (S47) → List (S47) → Int → Int → Option (Bool)
 | 0, _, _, _, _, _ => none
 | k + 1, x0, x1, x7, x8, x9 => if x9 < x8 then (if 0 ≤ x9 then (if x9 < (x7.length : Int) then ((spec_reDiagonal.f x0 ((rd_T47 x7 x9).f0) ((rd_T47 x7 x9).f1)).bind fun t253 => (if t253 = true then (spec_reTriangled.l0 k x0 x1 x7 x8 (wrap64 (x9 + 1))) else (some false))) else (none)) else (none)) else ((spec_rePlane.f k x0 x1).bind fun t254 => (if t254 = true then (some ((x1.length : Int) == (wrap64 (x0 - 3)))) else (some false)))
def spec_reTriangled.f (k : Nat) (a0 : Int) (l1 : List (S47)) : Option (Bool) := spec_reTriangled.l0 k a0 l1 l1 (l1.length : Int) 0
theorem spec_reTriangled.mono_l : ∀ k, (∀ y0 y1 y2 y3 y4, LeO (spec_reTriangled.l0 k y0 y1 y2 y3 y4) (spec_reTriangled.l0 (k + 1) y0 y1 y2 y3 y4))
 | 0 => fun _ _ _ _ _ r h => by simp [spec_reTriangled.l0] at h
 | k + 1 => by
  have ih0 := spec_reTriangled.mono_l k
  ·intro y0 y1 y2 y3 y4
   unfold spec_reTriangled.l0
   repeat' first
   | (with_reducible exact ih0 _ _ _ _ _)
   | (with_reducible exact spec_rePlane.mono _ _ _)
   | (with_reducible exact LeO.refl _)
   | (with_reducible exact LeO.none _)
   | (with_reducible refine LeO.ite ?_ ?_)
   | (with_reducible refine LeO.bind ?_ (fun _ => ?_))
   | exact ih0 _ _ _ _ _
   | exact spec_rePlane.mono _ _ _
   | exact LeO.none _
   | refine LeO.ite ?_ ?_
   | refine LeO.bind ?_ (fun _ => ?_)
theorem spec_reTriangled.mono : ∀ a0 a1 k, LeO (spec_reTriangled.f k a0 a1) (spec_reTriangled.f (k + 1) a0 a1) := by
 intro a0 a1 k
 have ih0 := spec_reTriangled.mono_l k
 unfold spec_reTriangled.f
 repeat' first
   | (with_reducible exact ih0 _ _ _ _ _)
   | (with_reducible exact spec_rePlane.mono _ _ _)
   | (with_reducible exact LeO.refl _)
   | (with_reducible exact LeO.none _)
   | (with_reducible refine LeO.ite ?_ ?_)
   | (with_reducible refine LeO.bind ?_ (fun _ => ?_))
   | exact ih0 _ _ _ _ _
   | exact spec_rePlane.mono _ _ _
   | exact LeO.none _
   | refine LeO.ite ?_ ?_
   | refine LeO.bind ?_ (fun _ => ?_)
set_option maxHeartbeats 8000000 in
set_option maxRecDepth 100000 in
theorem spec_reTriangled.calls (k : Nat) (a0 : Int) (A1 : Option Addr) (c1 : Nat) (l1 : List (S47)) (r : Bool) (w : World) (hr1 : Kd.C k47 w A1 l1.length l1) (hc1 : l1.length ≤ c1) (h : spec_reTriangled.f k a0 l1 = some r) :
  Calls Try.prog 44 #[.int .i64 a0, .slice A1 l1.length c1] w fun e w' => e = .returned (.bool r) ∧ Below w.heap.size w w' := by
 have hu47 := Try.underlying47
 have HR1 := Aside0.mk hr1
 have HC1 := Aside0.mk hc1
 clear hr1 hc1
 have HB := Aside0.mk (Below.refl w.heap.size w)
 have H : (spec_reTriangled.l0 k a0 l1 l1 (l1.length : Int) 0) = some r := h
 clear h
 have H' := Aside0.mk H
 clear H
 go_enter Try.func44, Try.ntmps44
 go_wp2
 go_loopg [9] k (fun kq v9 w' => ∃ (x9_1 : Int), v9 = .int .i64 x9_1 ∧ Aside0 (spec_reTriangled.l0 kq a0 l1 l1 (l1.length : Int) x9_1 = some r) ∧ Aside0 (kq ≤ k) ∧ Aside0 (Below w.heap.size w w'))
 case atStart => exact ⟨(0), (by first | rfl | (simp; done) | (simp [*]; done)), H', ⟨Nat.le_refl _⟩, ⟨hb_⟩⟩
 case round =>
  clear H'
  try clear c1
  try clear p2
  obtain ⟨x9_1, rfl, HA, HK1, HB⟩ := hrel
  cases gk with
  | zero => exact absurd HA.out (by simp [spec_reTriangled.l0])
  | succ k1 =>
   have H := HA.out
   clear HA
   simp only [spec_reTriangled.l0] at H
   by_cases c3 : x9_1 < (l1.length : Int)
   ·rw [if_pos c3] at H
    have c3b0 : decide (x9_1 < (l1.length : Int)) = true := decide_eq_true c3
    clear c3
    by_cases c4 : 0 ≤ x9_1
    ·rw [if_pos c4] at H
     have c4b0 : decide (0 ≤ x9_1) = true := decide_eq_true c4
     clear c4
     by_cases c5 : x9_1 < (l1.length : Int)
     ·rw [if_pos c5] at H
      have c5b0 : decide (x9_1 < (l1.length : Int)) = true := decide_eq_true c5
      clear c5
      replace H := bI H
      obtain ⟨t253, A60, H⟩ := H
      replace H : (if t253 = true then (spec_reTriangled.l0 k1 a0 l1 l1 (l1.length : Int) (wrap64 (x9_1 + 1))) else (some false)) = some r := H
      have A6 := Aside0.mk A60
      clear A60
      by_cases c7 : t253 = true
      ·subst c7
       have H1 : (spec_reTriangled.l0 k1 a0 l1 l1 (l1.length : Int) (wrap64 (x9_1 + 1))) = some r := by rw [if_pos rfl] at H; exact H
       clear H
       have H := H1
       clear H1
       have H' := Aside0.mk H
       clear H
       have p251 : 0 ≤ (x9_1 : Int) := of_decide_eq_true (by assumption)
       have q251 : x9_1 < (l1.length : Int) := of_decide_eq_true (by assumption)
       obtain ⟨ad251, e251, hx251_0, hx251_1⟩ := at_T47 HR1.out x9_1 p251 q251
       cases e251
       replace hx251_0 := (HB.out.cell (World.block_lt_of_cell? w _ hx251_0)).trans hx251_0
       replace hx251_1 := (HB.out.cell (World.block_lt_of_cell? w _ hx251_1)).trans hx251_1
       replace p251 := eq_true p251
       replace q251 := eq_true q251
       go_wp2_with (first | ((with_reducible refine gate_dst (N := 6) rfl ?_); (try (refine gate_guard (by rfl) ?_; dsimp only)); refine box_event ?hg (N := 6) ?hd (cs := #[.int .i64 0, .int .i64 0]) (t := 47) ?hr ?_; (case hd => rfl); (case hg => rfl); (case hr => first | (go_simp; done) | (go_simp; rfl)); intro gb252 hg w8 hbox hb; have n0_ := Aside0.mk (below_step hb_ hb); have n1_ := Aside0.mk (hbox); have n2_ := Aside0.mk ((by rw [hg]; exact (below_size hb_) : w.heap.size ≤ gb252)); have n3_ := Aside0.mk ((by rw [hg]; exact (below_size hb_) : w.heap.size ≤ gb252)); clear HB; have HB := n0_; have BK252 := n1_; have GW252 := n2_; have GE252 := n3_; clear n0_ n1_ n2_ n3_; clear hb hbox hg; have hcz9_0 : w8.cell? ⟨gb252, 0, none⟩ = some (.int .i64 0) := bc_ BK252 0; have hcz9_1 : w8.cell? ⟨gb252, 1, none⟩ = some (.int .i64 0) := bc_ BK252 1; have hfz9_0 := blk_frozen BK252.out 0; have hfz9_1 := blk_frozen BK252.out 1) | ((with_reducible refine gate_callee (f := 72) rfl ?_); refine goesL_ (some 15) rfl rfl Try.func72 (by kernel_rfl) rfl #[.int .i64 a0, .agg #[.int .i64 ((rd_T47 l1 x9_1).f0), .int .i64 ((rd_T47 l1 x9_1).f1)]] rfl ar_ ?_; (with_reducible refine (spec_reDiagonal.calls a0 ((rd_T47 l1 x9_1).f0) ((rd_T47 l1 x9_1).f1) true _ A6.out).mono ?_); rintro e w10 ⟨rfl, hb⟩; refine ⟨_, rfl, ?_⟩; have n0_ := Aside0.mk (blk_below (g := gb252) (o := .cells #[.int .i64 ((rd_T47 l1 x9_1).f0), .int .i64 ((rd_T47 l1 x9_1).f1)] 47 (0, 0)) (by (with_reducible repeat (first | refine kN ?_ _ | refine kD ?_ | refine kA ?_ _)); refine blk_put (cs := #[.int .i64 ((rd_T47 l1 x9_1).f0), .int .i64 0]) ?_ 1 _ rfl; (with_reducible repeat (first | refine kN ?_ _ | refine kD ?_ | refine kA ?_ _)); refine blk_put (cs := #[.int .i64 0, .int .i64 0]) ?_ 0 _ rfl; (with_reducible repeat (first | refine kN ?_ _ | refine kD ?_ | refine kA ?_ _)); exact BK252.out) hb); have n1_ := Aside0.mk (below_step (hs_ GE252.out) hb); clear BK252; clear HB; have BK252 := n0_; have HB := n1_; clear n0_ n1_; (try clear hb); (try clear hb2); (try clear hk); (try clear hi)))
       go_roundg k1
       case measure => have := HK1.out; omega
       case rel => exact ⟨(wrap64 (x9_1 + 1)), (by first | rfl | (simp; done) | (simp [*]; done)), H', ⟨by have := HK1.out; omega⟩, ⟨hs_ GE252.out⟩⟩
      ·replace c7 := Bool.eq_false_iff.mpr c7
       subst c7
       have H1 : (some false) = some r := by rw [if_neg (show ¬ (false = true) by decide)] at H; exact H
       clear H
       have H := H1
       clear H1
       obtain rfl := oI H
       have p251 : 0 ≤ (x9_1 : Int) := of_decide_eq_true (by assumption)
       have q251 : x9_1 < (l1.length : Int) := of_decide_eq_true (by assumption)
       obtain ⟨ad251, e251, hx251_0, hx251_1⟩ := at_T47 HR1.out x9_1 p251 q251
       cases e251
       replace hx251_0 := (HB.out.cell (World.block_lt_of_cell? w _ hx251_0)).trans hx251_0
       replace hx251_1 := (HB.out.cell (World.block_lt_of_cell? w _ hx251_1)).trans hx251_1
       replace p251 := eq_true p251
       replace q251 := eq_true q251
       go_wp2_with (first | ((with_reducible refine gate_dst (N := 6) rfl ?_); (try (refine gate_guard (by rfl) ?_; dsimp only)); refine box_event ?hg (N := 6) ?hd (cs := #[.int .i64 0, .int .i64 0]) (t := 47) ?hr ?_; (case hd => rfl); (case hg => rfl); (case hr => first | (go_simp; done) | (go_simp; rfl)); intro gb252 hg w11 hbox hb; have n0_ := Aside0.mk (below_step hb_ hb); have n1_ := Aside0.mk (hbox); have n2_ := Aside0.mk ((by rw [hg]; exact (below_size hb_) : w.heap.size ≤ gb252)); have n3_ := Aside0.mk ((by rw [hg]; exact (below_size hb_) : w.heap.size ≤ gb252)); clear HB; have HB := n0_; have BK252 := n1_; have GW252 := n2_; have GE252 := n3_; clear n0_ n1_ n2_ n3_; clear hb hbox hg; have hcz12_0 : w11.cell? ⟨gb252, 0, none⟩ = some (.int .i64 0) := bc_ BK252 0; have hcz12_1 : w11.cell? ⟨gb252, 1, none⟩ = some (.int .i64 0) := bc_ BK252 1; have hfz12_0 := blk_frozen BK252.out 0; have hfz12_1 := blk_frozen BK252.out 1) | ((with_reducible refine gate_callee (f := 72) rfl ?_); refine goesL_ (some 15) rfl rfl Try.func72 (by kernel_rfl) rfl #[.int .i64 a0, .agg #[.int .i64 ((rd_T47 l1 x9_1).f0), .int .i64 ((rd_T47 l1 x9_1).f1)]] rfl ar_ ?_; (with_reducible refine (spec_reDiagonal.calls a0 ((rd_T47 l1 x9_1).f0) ((rd_T47 l1 x9_1).f1) false _ A6.out).mono ?_); rintro e w13 ⟨rfl, hb⟩; refine ⟨_, rfl, ?_⟩; have n0_ := Aside0.mk (blk_below (g := gb252) (o := .cells #[.int .i64 ((rd_T47 l1 x9_1).f0), .int .i64 ((rd_T47 l1 x9_1).f1)] 47 (0, 0)) (by (with_reducible repeat (first | refine kN ?_ _ | refine kD ?_ | refine kA ?_ _)); refine blk_put (cs := #[.int .i64 ((rd_T47 l1 x9_1).f0), .int .i64 0]) ?_ 1 _ rfl; (with_reducible repeat (first | refine kN ?_ _ | refine kD ?_ | refine kA ?_ _)); refine blk_put (cs := #[.int .i64 0, .int .i64 0]) ?_ 0 _ rfl; (with_reducible repeat (first | refine kN ?_ _ | refine kD ?_ | refine kA ?_ _)); exact BK252.out) hb); have n1_ := Aside0.mk (below_step (hs_ GE252.out) hb); clear BK252; clear HB; have BK252 := n0_; have HB := n1_; clear n0_ n1_; (try clear hb); (try clear hb2); (try clear hk); (try clear hi)))
       go_ret
       exact ⟨by first | rfl | (simp [errW_none, errW_some] <;> rfl) | (simp [*, errW_none, errW_some] <;> rfl), hs_ GE252.out⟩
     ·rw [if_neg c5] at H
      exact absurd H (by simp)
    ·rw [if_neg c4] at H
     exact absurd H (by simp)
   ·rw [if_neg c3] at H
    have c3b0 : decide (x9_1 < (l1.length : Int)) = false := decide_eq_false c3
    clear c3
    replace H := bI H
    obtain ⟨t254, A140, H⟩ := H
    replace H : (if t254 = true then (some ((l1.length : Int) == (wrap64 (a0 - 3)))) else (some false)) = some r := H
    have A14 := Aside0.mk A140
    clear A140
    by_cases c15 : t254 = true
    ·subst c15
     have H1 : (some ((l1.length : Int) == (wrap64 (a0 - 3)))) = some r := by rw [if_pos rfl] at H; exact H
     clear H
     have H := H1
     clear H1
     obtain rfl := oI H
     go_wp2_with (first | ((with_reducible refine gate_callee (f := 32) rfl ?_); refine goesL_ (some 20) rfl rfl Try.func32 (by kernel_rfl) rfl #[.int .i64 a0, .slice A1 l1.length c1] rfl ar_ ?_; (with_reducible refine (spec_rePlane.calls k1 a0 _ _ l1 true _ ?side1 ?side2 A14.out).mono ?_); (case side1 => repeat (first | exact (Kd.C_below HR1.out HB.out) | (with_reducible refine Kd.C_alloc ?_ _) | (with_reducible refine Kd.C_drewN ?_ _) | (with_reducible refine Kd.C_drew ?_))); (case side2 => exact HC1.out); rintro e w16 ⟨rfl, hb⟩; refine ⟨_, rfl, ?_⟩; have n0_ := Aside0.mk (below_step hb_ hb); clear HB; have HB := n0_; clear n0_; (try clear hb); (try clear hb2); (try clear hk); (try clear hi)))
     go_ret
     exact ⟨by first | rfl | (simp [errW_none, errW_some] <;> rfl) | (simp [*, errW_none, errW_some] <;> rfl), hb_⟩
    ·replace c15 := Bool.eq_false_iff.mpr c15
     subst c15
     have H1 : (some false) = some r := by rw [if_neg (show ¬ (false = true) by decide)] at H; exact H
     clear H
     have H := H1
     clear H1
     obtain rfl := oI H
     go_wp2_with (first | ((with_reducible refine gate_callee (f := 32) rfl ?_); refine goesL_ (some 20) rfl rfl Try.func32 (by kernel_rfl) rfl #[.int .i64 a0, .slice A1 l1.length c1] rfl ar_ ?_; (with_reducible refine (spec_rePlane.calls k1 a0 _ _ l1 false _ ?side1 ?side2 A14.out).mono ?_); (case side1 => repeat (first | exact (Kd.C_below HR1.out HB.out) | (with_reducible refine Kd.C_alloc ?_ _) | (with_reducible refine Kd.C_drewN ?_ _) | (with_reducible refine Kd.C_drew ?_))); (case side2 => exact HC1.out); rintro e w17 ⟨rfl, hb⟩; refine ⟨_, rfl, ?_⟩; have n0_ := Aside0.mk (below_step hb_ hb); clear HB; have HB := n0_; clear n0_; (try clear hb); (try clear hb2); (try clear hk); (try clear hi)))
     go_ret
     exact ⟨by first | rfl | (simp [errW_none, errW_some] <;> rfl) | (simp [*, errW_none, errW_some] <;> rfl), hb_⟩
theorem eqA47 (d : Nat) (w : World) (x0 y0 : Int) (x1 y1 : Int) :
  (Op.equalIn (d + 2) 47 (.agg #[.int .i64 x0, .int .i64 x1]) (.agg #[.int .i64 y0, .int .i64 y1])).run Try.prog w = .ok (x0 == y0 && (x1 == y1)) w := by
 refine eqA_of Try.underlying47 (by kernel_rfl) ?_
 refine eqf_cons (by rfl) (by go_simp; rfl) (by go_simp; rfl) (by go_simp) ?_
 exact eqf_last (by rfl) (by go_simp; rfl) (by go_simp; rfl) (by go_simp)
end Go.Proofs.Ytdeenfpcmaadcaa.Pr
