/- The program's NeedlessClues returns what the reference's returns, for all arguments. (Part 6 of 7.) -/
import Derived.Sort.Grow
import Derived.Shelf.SlSortCmp.InsertionK
import Derived.Shelf.GgSortFunc.RowK
import Derived.Shelf.SlSortFuncK.RowK2
import Derived.RegionTactic
import Derived.Lib.SlicesCompact
import Derived.Lib.SliceRun
import Derived.Sort.WalkB12
import Derived.Shelf.SlGeneric
import Derived.Shelf.SlSortCmp.WholeK
import Derived.Ground.SlsfProg
import Derived.Test.YtkgaljocaapobaaProg
import Derived.Shelf.SlSortCmp.NoneTotal
import Derived.Deep.RegionWith
import Derived.Deep.RegionLaw
import Derived.Lib.SlicesDelete
import Derived.Deep.RegionHeld3
import Derived.Test.YtkgaljocaapobaaKFnExactNeedlessClues0
import Derived.Test.YtkgaljocaapobaaKFnExactNeedlessClues1
import Derived.Test.YtkgaljocaapobaaKFnExactNeedlessClues2
import Derived.Test.YtkgaljocaapobaaKFnExactNeedlessClues3
import Derived.Test.YtkgaljocaapobaaKFnExactNeedlessClues4
set_option linter.unusedVariables false
set_option linter.unusedSimpArgs false
/- What the comparison of two chords does to the world: it draws, and lays blocks of its own, nothing else. -/
namespace Go.Proofs.Ytkgaljocaapobaa.Pr
open Go.RowKit Go.Proofs.YtkgaljocaapobaaW.PrintWords Go.Proofs.YtkgaljocaapobaaW.PrintLast Go.Proofs.YtkgaljocaapobaaW.PrintMore
def Gr (w w' : World) : Prop := ∃ q os', w' = Sort.grow (w.drewN q) os'
theorem Gr.refl (w : World) : Gr w w := ⟨0, #[], by simp [Sort.grow, World.drewN]⟩
theorem Gr.drewN {w w' : World} (h : Gr w w') (n : Nat) : Gr w (w'.drewN n) := by
  obtain ⟨q, os, rfl⟩ := h
  exact ⟨q + n, os, by simp [Sort.grow, World.drewN, Nat.add_assoc]⟩
theorem Gr.drew {w w' : World} (h : Gr w w') : Gr w w'.drew := h.drewN 1
theorem Gr.alloc {w w' : World} (h : Gr w w') (o : Obj) : Gr w (w'.alloc o) := by
  obtain ⟨q, os, rfl⟩ := h
  exact ⟨q, os ++ #[o], by rw [Sort.alloc_eq_grow, Sort.grow_grow]⟩
theorem two_reads (X : World) (a b : Int) : Kd.C (Kd.int .i64) (X.alloc (.cells #[.int .i64 a, .int .i64 b] 3)) (some ⟨X.heap.size, 0, none⟩) 2 [a, b] := by
  refine ⟨rfl, by simp, fun _ => ⟨_, rfl, fun j p hj => ⟨[.int .i64 p], rfl, rfl, fun i u hu => ?_⟩⟩⟩
  have hi : i = 0 := by
    have := (List.getElem?_eq_some_iff.1 hu).1
    simp at this
    exact this
  subst hi
  obtain rfl := oI hu
  have h0 : (X.alloc (.cells #[.int .i64 a, .int .i64 b] 3)).cell? ⟨X.heap.size, 0, none⟩ = some (.int .i64 a) := by simp
  have h1 : (X.alloc (.cells #[.int .i64 a, .int .i64 b] 3)).cell? ⟨X.heap.size, 1, none⟩ = some (.int .i64 b) := by simp
  match j, hj with
  | 0, hj => (obtain rfl := oI hj; exact h0)
  | 1, hj => (obtain rfl := oI hj; exact h1)
  | j + 2, hj => simp at hj
set_option maxHeartbeats 8000000 in
set_option maxRecDepth 100000 in
theorem compareChords_grow (k : Nat) (x y : S88) (t163 t164 t168 : Int) (w : World) (h1 : cmp_Compare_int.f x.f0 y.f0 = some t163) (h2 : cmp_Compare_int.f x.f1 y.f1 = some t164) (h3 : cmp_Or_int.f k [t163, t164] = some t168) :
    Calls Try.prog 93 #[.agg #[.int .i64 x.f0, .int .i64 x.f1], .agg #[.int .i64 y.f0, .int .i64 y.f1]] w fun e w' => e = .returned (.int .i64 t168) ∧ Gr w w' := by
  have hu60 := Try.underlying88
  have A3 := Aside0.mk h1
  have A4 := Aside0.mk h2
  have A5 := Aside0.mk h3
  clear h1 h2 h3
  go_enter Try.func93, Try.ntmps93
  go_wp2
  obtain ⟨W7, hW7⟩ : ∃ W7, (w.alloc (.cells #[.int .i64 x.f0, .int .i64 x.f1] 88)).alloc (.cells #[.int .i64 y.f0, .int .i64 y.f1] 88) = W7 := ⟨_, rfl⟩
  have G7 := Aside0.mk (show Gr w W7 from hW7 ▸ ((Gr.refl w).alloc _).alloc _)
  have FA0 : W7.cell? ⟨w.heap.size, 0, none⟩ = some (.int .i64 x.f0) := by rw [← hW7]; simp
  have FA1 : W7.cell? ⟨w.heap.size, 1, none⟩ = some (.int .i64 x.f1) := by rw [← hW7]; simp
  have FB0 : W7.cell? ⟨w.heap.size + 1, 0, none⟩ = some (.int .i64 y.f0) := by rw [← hW7]; simp
  have FB1 : W7.cell? ⟨w.heap.size + 1, 1, none⟩ = some (.int .i64 y.f1) := by rw [← hW7]; simp
  rw [hW7]
  clear hW7
  refine start_ (n := 13) (S := fun w' => w'.cell? ⟨w.heap.size, 0, none⟩ = some (.int .i64 x.f0) ∧ w'.cell? ⟨w.heap.size, 1, none⟩ = some (.int .i64 x.f1) ∧ w'.cell? ⟨(w.heap.size + 1), 0, none⟩ = some (.int .i64 y.f0) ∧ w'.cell? ⟨(w.heap.size + 1), 1, none⟩ = some (.int .i64 y.f1)) (ds := []) #[false, false, false, false, false, false, false, false, false, false, false, false, false] (by kernel_rfl) rfl rfl ⟨FA0, FA1, FB0, FB1⟩ (fun hHeld => ?_); refine with_tabW impl_compareChords.tab1 impl_compareChords.bits1 (fun HT_ HW_ => ?_)
  refine pure_ (i := 0) (N := some 5) (v := ?_) (a' := ?_) #[true, false, false, false, false, false, false, false, false, false, false, false, false] rfl rfl (any_of HT_.out (by kernel_rfl)) (fun _ _ _ h => h) (Or.inl ⟨by rfl, ?_⟩) ?_ ?_
  rotate_left
  · intro w'
    go_simp
    with_reducible rfl
  rotate_left
  · simp only [Act.put, sT, sZ, sS, i64_w, i32_w]
    rfl
  refine pure_ (i := 2) (N := some 7) (v := ?_) (a' := ?_) #[true, false, true, false, false, false, false, false, false, false, false, false, false] rfl rfl (any_of HT_.out (by kernel_rfl)) (fun _ _ _ h => h) (Or.inl ⟨by rfl, ?_⟩) ?_ ?_
  rotate_left
  · intro w'
    go_simp
    with_reducible rfl
  rotate_left
  · simp only [Act.put, sT, sZ, sS, i64_w, i32_w]
    rfl
  refine pure_ (i := 5) (N := some 10) (v := ?_) (a' := ?_) #[true, false, true, false, false, true, false, false, false, false, false, false, false] rfl rfl (any_of HT_.out (by kernel_rfl)) (fun _ _ _ h => h) (Or.inl ⟨by rfl, ?_⟩) ?_ ?_
  rotate_left
  · intro w'
    go_simp
    with_reducible rfl
  rotate_left
  · simp only [Act.put, sT, sZ, sS, i64_w, i32_w]
    rfl
  refine pure_ (i := 7) (N := some 12) (v := ?_) (a' := ?_) #[true, false, true, false, false, true, false, true, false, false, false, false, false] rfl rfl (any_of HT_.out (by kernel_rfl)) (fun _ _ _ h => h) (Or.inl ⟨by rfl, ?_⟩) ?_ ?_
  rotate_left
  · intro w'
    go_simp
    with_reducible rfl
  rotate_left
  · simp only [Act.put, sT, sZ, sS, i64_w, i32_w]
    rfl
  refine take_ (i := 1) (N := some 6) (v := ?_) (a' := ?_) #[true, true, true, false, false, true, false, true, false, false, false, false, false] rfl rfl (take_ofW HT_.out HW_.out (by kernel_rfl)) (fun _ _ _ h => h) (Or.inl ⟨by rfl, ?_⟩) hHeld ?_ ?_
  rotate_left
  · rintro w' ⟨s0, s1, s2, s3⟩
    go_simp
    with_reducible rfl
  rotate_left
  · simp only [Act.put, sT, sZ, sS, i64_w, i32_w]
    rfl
  refine take_ (i := 3) (N := some 8) (v := ?_) (a' := ?_) #[true, true, true, true, false, true, false, true, false, false, false, false, false] rfl rfl (take_ofW HT_.out HW_.out (by kernel_rfl)) (fun _ _ _ h => h) (Or.inl ⟨by rfl, ?_⟩) hHeld ?_ ?_
  rotate_left
  · rintro w' ⟨s0, s1, s2, s3⟩
    go_simp
    with_reducible rfl
  rotate_left
  · simp only [Act.put, sT, sZ, sS, i64_w, i32_w]
    rfl
  refine take_ (i := 6) (N := some 11) (v := ?_) (a' := ?_) #[true, true, true, true, false, true, true, true, false, false, false, false, false] rfl rfl (take_ofW HT_.out HW_.out (by kernel_rfl)) (fun _ _ _ h => h) (Or.inl ⟨by rfl, ?_⟩) hHeld ?_ ?_
  rotate_left
  · rintro w' ⟨s0, s1, s2, s3⟩
    go_simp
    with_reducible rfl
  rotate_left
  · simp only [Act.put, sT, sZ, sS, i64_w, i32_w]
    rfl
  refine take_ (i := 8) (N := some 13) (v := ?_) (a' := ?_) #[true, true, true, true, false, true, true, true, true, false, false, false, false] rfl rfl (take_ofW HT_.out HW_.out (by kernel_rfl)) (fun _ _ _ h => h) (Or.inl ⟨by rfl, ?_⟩) hHeld ?_ ?_
  rotate_left
  · rintro w' ⟨s0, s1, s2, s3⟩
    go_simp
    with_reducible rfl
  rotate_left
  · simp only [Act.put, sT, sZ, sS, i64_w, i32_w]
    rfl
  refine one_ (i := 4) (N := some 9) #[true, true, true, true, true, true, true, true, true, false, false, false, false] rfl rfl (one_of HT_.out (by kernel_rfl)) (by decide) (fun K hK => ?_)
  refine goes_ Try.func98 (by kernel_rfl) rfl #[.int .i64 x.f0, .int .i64 y.f0] (by rfl) rfl rfl ar_ ?_
  with_reducible refine (cmp_Compare_int.calls x.f0 y.f0 t163 _ A3.out).mono ?_
  rintro e w' ⟨rfl, ⟨nd1, rfl⟩⟩
  refine ⟨_, rfl, ?_⟩
  refine hK.out _ _ ⟨FA0, FA1, FB0, FB1⟩ (fun hHeld => ?_)
  clear hK K
  refine norm_ (a' := ?_) ?_ ?_
  rotate_left
  · show Act.put _ (some 9) _ = _
    simp only [Act.put, sT, sZ, sS, i64_w, i32_w]
    rfl
  refine one_ (i := 9) (N := some 14) #[true, true, true, true, true, true, true, true, true, true, false, false, false] rfl rfl (one_of HT_.out (by kernel_rfl)) (by decide) (fun K hK => ?_)
  refine goes_ Try.func98 (by kernel_rfl) rfl #[.int .i64 x.f1, .int .i64 y.f1] (by rfl) rfl rfl ar_ ?_
  with_reducible refine (cmp_Compare_int.calls x.f1 y.f1 t164 _ A4.out).mono ?_
  rintro e w' ⟨rfl, ⟨nd, rfl⟩⟩
  refine ⟨_, rfl, ?_⟩
  refine hK.out _ _ ⟨FA0, FA1, FB0, FB1⟩ (fun hHeld => ?_)
  clear hK K
  refine norm_ (a' := ?_) ?_ ?_
  rotate_left
  · show Act.put _ (some 14) _ = _
    simp only [Act.put, sT, sZ, sS, i64_w, i32_w]
    rfl
  refine one_ (i := 10) (N := some 15) #[true, true, true, true, true, true, true, true, true, true, true, false, false] rfl rfl (one_of HT_.out (by kernel_rfl)) (by decide) (fun K hK => ?_)
  have FL : ∀ (X : World) (o : Obj) {ad : Addr} {v : Value}, X.cell? ad = some v → (X.alloc o).cell? ad = some v := fun X o {ad v} h => Lib.cell?_alloc_some _ h
  refine event_step (v := .slice (some ⟨W7.heap.size, 0, none⟩) 2 2) (w1 := ((W7.drew.drewN nd1).drewN nd).alloc (.cells #[.int .i64 t163, .int .i64 t164] 3)) (by rfl) ?hr ?_
  (case hr => first | (go_simp; done) | (go_simp; rfl))
  refine hK.out _ _ ⟨FL _ _ FA0, FL _ _ FA1, FL _ _ FB0, FL _ _ FB1⟩ (fun hHeld => ?_)
  clear hK K
  refine norm_ (a' := ?_) ?_ ?_
  rotate_left
  · show Act.put _ (some 15) _ = _
    simp only [Act.put, sT, sZ, sS, i64_w, i32_w]
    rfl
  refine one_ (i := 11) (N := some 16) #[true, true, true, true, true, true, true, true, true, true, true, true, false] rfl rfl (one_of HT_.out (by kernel_rfl)) (by decide) (fun K hK => ?_)
  refine goes_ Try.func97 (by kernel_rfl) rfl #[.slice (some ⟨W7.heap.size, 0, none⟩) 2 2] (by rfl) rfl rfl ar_ ?_
  refine (cmp_Or_int.calls k (some ⟨W7.heap.size, 0, none⟩) 2 [t163, t164] t168 _ ?side1 (by simp) A5.out).mono ?_
  (case side1 => exact two_reads _ t163 t164)
  rintro e w' ⟨rfl, ⟨nd, rfl⟩⟩
  refine ⟨_, rfl, ?_⟩
  refine hK.out _ _ ⟨FL _ _ FA0, FL _ _ FA1, FL _ _ FB0, FL _ _ FB1⟩ (fun hHeld => ?_)
  clear hK K
  refine norm_ (a' := ?_) ?_ ?_
  rotate_left
  · show Act.put _ (some 16) _ = _
    simp only [Act.put, sT, sZ, sS, i64_w, i32_w]
    rfl
  refine pure_ (i := 12) (N := some 4) (v := ?_) (a' := ?_) #[true, true, true, true, true, true, true, true, true, true, true, true, true] rfl rfl (any_of HT_.out (by kernel_rfl)) (fun _ _ _ h => h) (Or.inl ⟨by rfl, ?_⟩) ?_ ?_
  rotate_left
  · intro w'
    go_simp
    with_reducible rfl
  rotate_left
  · simp only [Act.put, sT, sZ, sS, i64_w, i32_w]
    rfl
  refine done_ (done_of HT_.out (by kernel_rfl)) ?_
  try go_wp2
  go_ret
  exact ⟨rfl, by repeat (first | exact G7.out | apply Gr.drewN | apply Gr.drew | apply Gr.alloc)⟩
end Go.Proofs.Ytkgaljocaapobaa.Pr
/- A row of chords of the call's own, laid open cell by cell and put together again. -/
namespace Go.Proofs.Ytkgaljocaapobaa.Pr
open Go.RowKit Go.Sort Go.Proofs.YtkgaljocaapobaaW.PrintWords Go.Proofs.YtkgaljocaapobaaW.PrintLast Go.Proofs.YtkgaljocaapobaaW.PrintMore
instance : Inhabited S88 := ⟨z88⟩
instance : DecidableEq S88 := fun x y =>
  match x, y with
  | ⟨a, b⟩, ⟨c, d⟩ => if h : a = c ∧ b = d then isTrue (by rw [h.1, h.2]) else isFalse (fun e => h (by injection e with e1 e2; exact ⟨e1, e2⟩))
def encL (x : S88) : List Value := [.int .i64 x.f0, .int .i64 x.f1]
theorem encL_length (x : S88) : (encL x).length = 2 := rfl
/-- The cells of the elements. -/
def RowAt (W : World) (g : Nat) (xs : List S88) : Prop := ∀ i (h : i < xs.length), W.cell? ⟨g, i * 2, none⟩ = some (.int .i64 xs[i].f0) ∧ W.cell? ⟨g, i * 2 + 1, none⟩ = some (.int .i64 xs[i].f1)
theorem holds_of {W : World} {g : Nat} {xs : List S88} (hc : RowAt W g xs) (hf : ∀ j, W.frozen? ⟨g, j, none⟩ = false) : HoldsK encL 2 W g 0 xs.toArray := fun j hj => by
  have hj' : j < xs.length * 2 := by simpa using hj
  rw [Nat.zero_add]
  refine ⟨?_, hf j⟩
  rw [get_flatK _ _ _ _ (by simpa using hj')]
  have hd : j / 2 < xs.length := by omega
  have e : xs.toArray[j / 2]! = xs[j / 2] := by simp [hd]
  rw [e]
  obtain ⟨h1, h2⟩ := hc (j / 2) hd
  rcases Nat.mod_two_eq_zero_or_one j with hm | hm
  · rw [hm]
    have e2 : (⟨g, j, none⟩ : Addr) = ⟨g, j / 2 * 2, none⟩ := by congr 1; omega
    rw [e2]
    exact h1
  · rw [hm]
    have e2 : (⟨g, j, none⟩ : Addr) = ⟨g, j / 2 * 2 + 1, none⟩ := by congr 1; omega
    rw [e2]
    exact h2
theorem row_of_holds {W : World} {g : Nat} {d : Array S88} (h : HoldsK encL 2 W g 0 d) : RowAt W g d.toList := fun i hi => by
  have hi' : i < d.size := by simpa using hi
  have h0 := (HoldsK.cell h hi' (show 0 < 2 by omega)).1
  have h1 := (HoldsK.cell h hi' (show 1 < 2 by omega)).1
  rw [Nat.zero_add, getElem!_pos d i hi'] at h0 h1
  have e : d.toList[i] = d[i] := by simp
  rw [e]
  exact ⟨h0, h1⟩
/-- A row that is the call's own: empty, or a block whose first cells are the elements'. -/
theorem open_own {W : World} {base : Nat} {ok : Nat → Prop} {v : Value} {xs : List S88} (h : Kd.R k88 88 W base ok v xs) :
    (v = .slice none 0 0 ∧ xs = []) ∨ ∃ g cap cur, v = .slice (some ⟨g, 0, none⟩) xs.length cap ∧ ok g ∧ base ≤ g ∧ W.heap[g]? = some (.cells cur 88 (0, 0)) ∧ xs.length ≤ cap ∧ cap ≤ maxLen ∧ cur.size = cap * 2 ∧ RowAt W g xs := by
  obtain ⟨h0, inner, ho, hr⟩ := h
  obtain ⟨hl, hv⟩ := ho
  rcases hv with ⟨rfl, hn⟩ | ⟨g, cap, cur, rfl, hg, hb, hn, hm, hs, ht⟩
  · exact .inl ⟨rfl, List.eq_nil_of_length_eq_zero hn⟩
  · refine .inr ⟨g, cap, cur, rfl, h0 g rfl, hg, hb, hn, hm, hs, fun i hi => ?_⟩
    have hk2 := k88_openM (hr.2 i xs[i] (List.getElem?_eq_getElem hi))
    have hsz : k88.sz = 2 := rfl
    rw [hsz] at hk2 ht
    have e0 : ((inner.drop (i * 2)).take 2)[0]? = some (.int .i64 xs[i].f0) := by rw [hk2]; rfl
    have e1 : ((inner.drop (i * 2)).take 2)[1]? = some (.int .i64 xs[i].f1) := by rw [hk2]; rfl
    rw [List.getElem?_take_of_lt (by omega), List.getElem?_drop] at e0 e1
    have hq : ∀ q, q < xs.length * 2 → W.cell? ⟨g, q, none⟩ = inner[q]? := by
      intro q hq
      rw [blk_cell hb q, ← ht, List.getElem?_take_of_lt hq]
      simp
    exact ⟨by rw [hq _ (by omega)]; simpa using e0, by rw [hq _ (by omega)]; exact e1⟩
theorem shut_own {W : World} {base g cap : Nat} {ok : Nat → Prop} {cur : Array Value} {zs : List S88} (hok : ok g) (hg : base ≤ g) (hb : W.heap[g]? = some (.cells cur 88 (0, 0))) (hn : zs.length ≤ cap) (hm : cap ≤ maxLen) (hs : cur.size = cap * 2)
    (hc : RowAt W g zs) : Kd.R k88 88 W base ok (.slice (some ⟨g, 0, none⟩) zs.length cap) zs := by
  have hle : zs.length * 2 ≤ cur.size := by rw [hs]; exact Nat.mul_le_mul_right 2 hn
  refine ⟨fun k hk => by have : g = k := by simpa [Value.ownBlock] using hk
                         subst this; exact hok, cur.toList.take (zs.length * 2), ⟨?_, .inr ⟨g, cap, cur, rfl, hg, hb, hn, hm, hs, rfl⟩⟩, ?_, fun j p hj => ?_⟩
  · show (cur.toList.take (zs.length * 2)).length = zs.length * 2
    rw [List.length_take]
    exact Nat.min_eq_left (by rw [Array.length_toList]; exact hle)
  · show (cur.toList.take (zs.length * 2)).length = zs.length * 2
    rw [List.length_take]
    exact Nat.min_eq_left (by rw [Array.length_toList]; exact hle)
  · obtain ⟨hjl, rfl⟩ := List.getElem?_eq_some_iff.1 hj
    obtain ⟨h0, h1⟩ := hc j hjl
    rw [blk_cell hb] at h0 h1
    have hsz : k88.sz = 2 := rfl
    rw [hsz]
    have e : ((cur.toList.take (zs.length * 2)).drop (j * 2)).take 2 = [.int .i64 zs[j].f0, .int .i64 zs[j].f1] := by
      apply List.ext_getElem?
      intro q
      match q with
      | 0 =>
        rw [List.getElem?_take_of_lt (by omega), List.getElem?_drop, List.getElem?_take_of_lt (by omega)]
        simpa using h0
      | 1 =>
        rw [List.getElem?_take_of_lt (by omega), List.getElem?_drop, List.getElem?_take_of_lt (by omega)]
        simpa using h1
      | q + 2 =>
        rw [List.getElem?_eq_none (by rw [List.length_take]; omega), List.getElem?_eq_none (by simp)]
    rw [e]
    exact k88_mkM _ _ _ _
end Go.Proofs.Ytkgaljocaapobaa.Pr
/- What slices.Compact does to a row of chords of the call's own: the first of each run is kept. -/
namespace Go.Proofs.Ytkgaljocaapobaa.Pr
open Go.RowKit Go.Sort Go.Lib Go.Proofs.YtkgaljocaapobaaW.PrintWords Go.Proofs.YtkgaljocaapobaaW.PrintLast Go.Proofs.YtkgaljocaapobaaW.PrintMore
attribute [local go_sem high] eqA88
theorem setMany_one (d : Array S88) (i : Nat) (x : S88) (hi : i < d.size) : setMany (flatK encL 2 d) (i * 2) (encL x) = flatK encL 2 (d.setIfInBounds i x) := by
  refine ext_get! (by simp) fun t ht => ?_
  have ht' : t < d.size * 2 := by simpa using ht
  rw [get_setMany _ _ _ t (by simpa using ht'), get_flatK _ _ _ t ht', get_flatK _ _ _ t (by simpa using ht')]
  have hlen : (encL x).length = 2 := rfl
  rw [hlen]
  have hd : t / 2 < d.size := by omega
  by_cases a : t / 2 = i
  · rw [if_pos (by omega)]
    have e : (d.setIfInBounds i x)[t / 2]! = x := by rw [a]; simp [hi]
    rw [e, show t - i * 2 = t % 2 by omega]
  · rw [if_neg (by omega)]
    have e : (d.setIfInBounds i x)[t / 2]! = d[t / 2]! := by
      simp [Array.getElem!_eq_getD, Array.getD, Array.getElem_setIfInBounds, hd, Ne.symm a]
    rw [e]
theorem store_chord {w wr : World} {n blk : Nat} {dk : Array S88} {i : Nat} (hi : i < dk.size) (hwr : wr = putRowK encL 2 (Sort.ahead w n) blk 0 dk) (x : S88) :
    ((wr.drew).setCell ⟨blk, i * 2, none⟩ (.int .i64 x.f0)).setCell ⟨blk, i * 2 + 1, none⟩ (.int .i64 x.f1) = putRowK encL 2 (Sort.ahead w (n + 1)) blk 0 (dk.setIfInBounds i x) := by
  have h1 : wr.drew = putRowK encL 2 (Sort.ahead w (n + 1)) blk 0 dk := by
    have := putRowK_drewN encL 2 w n 1 blk 0 dk
    rw [← hwr] at this
    exact this
  rw [h1]
  have h2 := setCells_putRow (Sort.ahead w (n + 1)) blk 0 (encL x) (i * 2) (flatK encL 2 dk) (by rw [size_flatK]; show i * 2 + 2 ≤ _; omega)
  rw [setMany_one dk i x hi, Nat.zero_add] at h2
  exact h2
theorem eqB {x y : S88} (h : ¬ x = y) : (x.f0 == y.f0 && (x.f1 == y.f1)) = false := by
  rw [Bool.eq_false_iff]
  intro e
  simp only [Bool.and_eq_true, beq_iff_eq] at e
  obtain ⟨a, b⟩ := x
  obtain ⟨c, d⟩ := y
  exact h (by rw [show a = c from e.1, show b = d from e.2])
/-- The end of it: the cells of what is kept. -/
def CompEnd (w : World) (blk : Nat) (d : Array S88) (w' : World) : Prop :=
  ∃ q F, w' = putRow id (Sort.ahead w q) blk 0 F ∧ F.size = d.size * 2 ∧ ∀ j, j < (compactUpTo d d.size).length * 2 → F[j]! = (flatK encL 2 (compactUpTo d d.size).toArray)[j]!
theorem comp_same {w : World} {blk : Nat} {d : Array S88} (hH : HoldsK encL 2 w blk 0 d) (hall : ∀ j, j < d.size → keeps d j = true) (q : Nat) : (compactUpTo d d.size).length = d.size ∧ CompEnd w blk d (w.drewN q) := by
  have e : compactUpTo d d.size = d.toList := by rw [compactUpTo_all d _ hall, range_map_get]
  refine ⟨by rw [e]; simp, q, flatK encL 2 d, ?_, by simp, fun j hj => ?_⟩
  · exact (putRowK_self encL 2 (Sort.ahead w q) blk 0 d (holdsK_ahead encL 2 w q blk 0 d hH)).symm
  · rw [e]
def zerosCh (n : Nat) : List Value := (Builtin.zeroCells (Value.cells (.agg #[.int .i64 0, .int .i64 0])) n).toList
theorem zerosCh_length (n : Nat) : (zerosCh n).length = n * 2 := by simp [zerosCh, Builtin.zeroCells, Value.cells]
theorem run_clear_chord (w : World) (ty : TypeId) (b o n c : Nat) (hn : 0 < n) (hc : ∀ j, j < n * 2 → (w.cell? ⟨b, o + j, none⟩).isSome = true) (hf : ∀ j, j < n * 2 → w.frozen? ⟨b, o + j, none⟩ = false) :
    (Builtin.clear_ #[83] ty #[.slice (some ⟨b, o, none⟩) n c]).run Try.prog w = .ok (.tuple #[]) (w.setCells b o (zerosCh n)) := by
  have hv : ∀ w, (zeroValue 88).run Try.prog w = .ok (.agg #[.int .i64 0, .int .i64 0]) w := Try.zeroValue88
  have hone : ∀ v ∈ zerosCh n, v.oneCell' = true := by
    intro v hv
    simp [zerosCh, Builtin.zeroCells, Value.cells] at hv
    obtain ⟨i, hi, rfl⟩ := hv
    rcases Nat.mod_two_eq_zero_or_one i with h | h <;> simp [h, Value.oneCell']
  have hst := run_storeCells_cells (P := Try.prog) b o (zerosCh n) 0 w (fun j hj => by rw [Nat.add_zero]; exact hc j (by rw [zerosCh_length] at hj; exact hj)) (fun j hj => by rw [Nat.add_zero]; exact hf j (by rw [zerosCh_length] at hj; exact hj)) hone
  simp only [Nat.add_zero] at hst
  obtain ⟨m, rfl⟩ : ∃ m, n = m + 1 := ⟨n - 1, by omega⟩
  unfold zerosCh at hst ⊢
  simp [Builtin.clear_, run_underlying Try.underlying83, hv, hst]
theorem comp_end {w wr : World} {blk q2 kk : Nat} {d dk : Array S88} (hkk : kk ≤ d.size) (W2 : wr = putRowK encL 2 (Sort.ahead w q2) blk 0 dk) (I : CompInv d d.size kk dk) : CompEnd w blk d (wr.setCells blk (kk * 2) (zerosCh (d.size - kk))) := by
  have hsz := I.size
  refine ⟨q2, setMany (flatK encL 2 dk) (kk * 2) (zerosCh (d.size - kk)), ?_, by simp [hsz], fun j hj => ?_⟩
  · have h2 := setCells_putRow (Sort.ahead w q2) blk 0 (zerosCh (d.size - kk)) (kk * 2) (flatK encL 2 dk) (by rw [size_flatK, zerosCh_length]; omega)
    rw [Nat.zero_add] at h2
    rw [W2]
    exact h2
  · rw [I.len] at hj
    have hl : (compactUpTo d d.size).length = kk := I.len
    rw [get_setMany _ _ _ j (by rw [size_flatK]; omega), if_neg (by omega), get_flatK _ _ _ j (by omega), get_flatK _ _ _ j (by simp [hl]; omega)]
    have hlow := I.low (j / 2) (by omega)
    have e : (compactUpTo d d.size).toArray[j / 2]! = dk[j / 2]! := by
      have : j / 2 < (compactUpTo d d.size).length := by omega
      rw [getElem!_pos _ _ (by simpa using this)]
      rw [List.getElem?_eq_getElem this] at hlow
      simpa using oI hlow
    rw [e]
set_option maxHeartbeats 8000000 in
set_option maxRecDepth 1000000 in
theorem compact_chord (blk cap : Nat) (d : Array S88) (w : World) (hH : HoldsK encL 2 w blk 0 d) (hsz : d.size ≤ 4611686018427387904) (hcap : d.size ≤ cap) :
    Calls Try.prog 94 #[.slice (some ⟨blk, 0, none⟩) d.size cap] w fun e w' => e = .returned (.slice (some ⟨blk, 0, none⟩) (compactUpTo d d.size).length cap) ∧ CompEnd w blk d w' := by
  have hu60 := Try.underlying88
  by_cases h2 : d.size < 2
  · obtain ⟨e1, e2⟩ := comp_same hH (fun j hj => keeps_lt_one d j (by omega)) 0
    have E1 := Aside0.mk e1
    have E2 := Aside0.mk e2
    clear e1 e2 hH
    go_enter Try.func94, Try.ntmps94
    go_wp2
    go_ret
    exact ⟨by rw [E1.out]; rfl, E2.out⟩
  · have HH := Aside0.mk hH
    clear hH
    go_enter Try.func94, Try.ntmps94
    go_wp2
    go_loopg [3] d.size (fun g s3 wr => ∃ k q : Nat, Aside0 (1 ≤ k) ∧ Aside0 (k ≤ d.size) ∧ Aside0 (d.size - k ≤ g) ∧ s3 = .int .i64 k ∧ wr = w.drewN q ∧ Aside0 (∀ j, j < k → keeps d j = true))
    case atStart => exact ⟨1, 0, ⟨Nat.le_refl _⟩, ⟨by omega⟩, ⟨by omega⟩, rfl, rfl, ⟨keeps_lt_one d⟩⟩
    case round =>
      obtain ⟨k, q, K1, K2, KG, rfl, rfl, A⟩ := hrel
      have hk1 := K1.out
      have hk := K2.out
      by_cases hlt : k < d.size
      · obtain ⟨c1, f1⟩ := HoldsK.cell HH.out hlt (show 0 < 2 by omega)
        obtain ⟨c2, f2⟩ := HoldsK.cell HH.out hlt (show 1 < 2 by omega)
        obtain ⟨b1, _⟩ := HoldsK.cell HH.out (show k - 1 < d.size by omega) (show 0 < 2 by omega)
        obtain ⟨b2, _⟩ := HoldsK.cell HH.out (show k - 1 < d.size by omega) (show 1 < 2 by omega)
        obtain ⟨x, hx⟩ : ∃ x, d[k]! = x := ⟨_, rfl⟩
        obtain ⟨y, hy⟩ : ∃ y, d[k - 1]! = y := ⟨_, rfl⟩
        rw [hx] at c1 c2
        rw [hy] at b1 b2
        have B := Aside0.mk (show d[k]! = x ∧ d[k - 1]! = y from ⟨hx, hy⟩)
        clear hx hy
        simp only [Nat.zero_add, Nat.add_zero] at c1 c2 b1 b2 f1 f2
        change w.cell? ⟨blk, k * 2, none⟩ = some (.int .i64 x.f0) at c1
        change w.cell? ⟨blk, k * 2 + 1, none⟩ = some (.int .i64 x.f1) at c2
        change w.cell? ⟨blk, (k - 1) * 2, none⟩ = some (.int .i64 y.f0) at b1
        change w.cell? ⟨blk, (k - 1) * 2 + 1, none⟩ = some (.int .i64 y.f1) at b2
        by_cases hdup : x = y
        · subst hdup
          go_wp2_with fail
          go_region
          go_wp2
          clear c1 c2 b1 b2 f1 f2
          go_loopg [3, 5] d.size (fun g s3 s5 wr => ∃ (kk k2 q2 : Nat) (dk : Array S88), s3 = .int .i64 kk ∧ s5 = .int .i64 k2 ∧ Aside0 (1 ≤ k2) ∧ Aside0 (k + k2 ≤ d.size) ∧ Aside0 (d.size - (k + k2) ≤ g) ∧ Aside0 (wr = putRowK encL 2 (Sort.ahead w q2) blk 0 dk) ∧ Aside0 (CompInv d (k + k2) kk dk))
          case atStart => exact ⟨k, 1, q + 1, d, rfl, rfl, ⟨Nat.le_refl _⟩, ⟨by omega⟩, ⟨by omega⟩, ⟨(putRowK_self encL 2 (Sort.ahead w (q + 1)) blk 0 d (holdsK_ahead encL 2 w (q + 1) blk 0 d HH.out)).symm⟩, ⟨CompInv.start A.out (keeps_neg (by omega) (by rw [B.out.1, B.out.2]))⟩⟩
          case round =>
            obtain ⟨kk, k2, q2, dk, rfl, rfl, H1, HLE, HG2, W2, I2⟩ := hrel
            have h1 := H1.out
            have hle := HLE.out
            have hkk := I2.out.lt
            have hds := I2.out.size
            have hHk : HoldsK encL 2 wr blk 0 dk := by rw [W2.out]; exact holdsK_putRowK encL 2 _ blk 0 d dk (holdsK_ahead encL 2 w q2 blk 0 d HH.out) hds
            by_cases hlt2 : k + k2 < d.size
            · obtain ⟨c1, _⟩ := HoldsK.cell hHk (show k + k2 < dk.size by omega) (show 0 < 2 by omega)
              obtain ⟨c2, _⟩ := HoldsK.cell hHk (show k + k2 < dk.size by omega) (show 1 < 2 by omega)
              obtain ⟨b1, _⟩ := HoldsK.cell hHk (show k + k2 - 1 < dk.size by omega) (show 0 < 2 by omega)
              obtain ⟨b2, _⟩ := HoldsK.cell hHk (show k + k2 - 1 < dk.size by omega) (show 1 < 2 by omega)
              obtain ⟨o1, f1⟩ := HoldsK.cell hHk (show kk < dk.size by omega) (show 0 < 2 by omega)
              obtain ⟨o2, f2⟩ := HoldsK.cell hHk (show kk < dk.size by omega) (show 1 < 2 by omega)
              rw [I2.out.high (k + k2) (by omega)] at c1 c2
              rw [I2.out.high (k + k2 - 1) (by omega)] at b1 b2
              obtain ⟨u, hu⟩ : ∃ u, d[k + k2]! = u := ⟨_, rfl⟩
              obtain ⟨v, hv⟩ : ∃ v, d[k + k2 - 1]! = v := ⟨_, rfl⟩
              obtain ⟨o, ho⟩ : ∃ o, dk[kk]! = o := ⟨_, rfl⟩
              rw [hu] at c1 c2
              rw [hv] at b1 b2
              rw [ho] at o1 o2
              have C := Aside0.mk (show d[k + k2]! = u ∧ d[k + k2 - 1]! = v from ⟨hu, hv⟩)
              clear hu hv ho hHk
              simp only [Nat.zero_add, Nat.add_zero] at c1 c2 b1 b2 o1 o2 f1 f2
              rw [show (k + k2) * 2 = k * 2 + k2 * 2 by omega] at c1 c2
              rw [show (k + k2 - 1) * 2 = k * 2 + (k2 - 1) * 2 by omega] at b1 b2
              change wr.cell? ⟨blk, k * 2 + k2 * 2, none⟩ = some (.int .i64 u.f0) at c1
              change wr.cell? ⟨blk, k * 2 + k2 * 2 + 1, none⟩ = some (.int .i64 u.f1) at c2
              change wr.cell? ⟨blk, k * 2 + (k2 - 1) * 2, none⟩ = some (.int .i64 v.f0) at b1
              change wr.cell? ⟨blk, k * 2 + (k2 - 1) * 2 + 1, none⟩ = some (.int .i64 v.f1) at b2
              change wr.cell? ⟨blk, kk * 2, none⟩ = some (.int .i64 o.f0) at o1
              change wr.cell? ⟨blk, kk * 2 + 1, none⟩ = some (.int .i64 o.f1) at o2
              by_cases huv : u = v
              · subst huv
                go_wp2_with fail
                go_region
                go_wp2
                go_roundg (d.size - (k + (k2 + 1)))
                case measure => have := HG2.out; omega
                case rel => exact ⟨kk, k2 + 1, q2 + 1, dk, rfl, by go_num, ⟨by omega⟩, ⟨by omega⟩, ⟨Nat.le_refl _⟩, ⟨by rw [W2.out]; rfl⟩, ⟨I2.out.skip (keeps_neg (by omega) (by rw [C.out.1, C.out.2]))⟩⟩
              · have hb := eqB huv
                have D := Aside0.mk huv
                clear huv
                go_wp2_with fail
                go_region
                go_wp2
                go_roundg (d.size - (k + (k2 + 1)))
                case measure => have := HG2.out; omega
                case rel => exact ⟨kk + 1, k2 + 1, q2 + 1, dk.setIfInBounds kk u, by go_num, by go_num, ⟨by omega⟩, ⟨by omega⟩, ⟨Nat.le_refl _⟩, ⟨store_chord (by omega) W2.out u⟩, ⟨by have := I2.out.keep hlt2 (keeps_pos (by rw [C.out.1, C.out.2]; exact D.out)); rwa [C.out.1] at this⟩⟩
            · have hend : k + k2 = d.size := by omega
              have hfr : ∀ j, j < (d.size - kk) * 2 → (wr.cell? ⟨blk, kk * 2 + j, none⟩).isSome = true ∧ wr.frozen? ⟨blk, kk * 2 + j, none⟩ = false := fun j hj => by
                have := hHk (kk * 2 + j) (by rw [size_flatK]; omega)
                rw [Nat.zero_add] at this
                exact ⟨by rw [this.1]; rfl, this.2⟩
              have hcl : ∀ ty, (Builtin.clear_ #[83] ty #[.slice (some ⟨blk, kk * 2, none⟩) (d.size - kk) (cap - kk)]).run Try.prog wr = .ok (.tuple #[]) (wr.setCells blk (kk * 2) (zerosCh (d.size - kk))) :=
                fun ty => run_clear_chord wr ty blk (kk * 2) (d.size - kk) (cap - kk) (by omega) (fun j hj => (hfr j hj).1) (fun j hj => (hfr j hj).2)
              have hI := I2.out
              rw [hend] at hI
              have E1 := Aside0.mk hI.len
              have E2 := Aside0.mk (comp_end (by omega) W2.out hI)
              clear hHk hfr hI I2 W2
              go_wp2
              go_ret
              exact ⟨by rw [E1.out]; rfl, E2.out⟩
        · have hb := eqB hdup
          have D := Aside0.mk hdup
          clear hdup
          go_wp2_with fail
          go_region
          go_wp2
          go_roundg (d.size - (k + 1))
          case measure => have := KG.out; omega
          case rel =>
            refine ⟨k + 1, q + 1, ⟨by omega⟩, ⟨by omega⟩, ⟨Nat.le_refl _⟩, by go_num, rfl, ⟨fun j hj => ?_⟩⟩
            by_cases e : j = k
            · subst e
              exact keeps_pos (by rw [B.out.1, B.out.2]; exact D.out)
            · exact A.out j (by omega)
      · have hkd : k = d.size := by omega
        subst hkd
        obtain ⟨e1, e2⟩ := comp_same HH.out A.out q
        have E1 := Aside0.mk e1
        have E2 := Aside0.mk e2
        clear e1 e2
        go_wp2
        go_ret
        exact ⟨by rw [E1.out]; rfl, E2.out⟩
end Go.Proofs.Ytkgaljocaapobaa.Pr
/-
  DERIVED: THE SHELF's CONTRACTS AT THIS DUMP, IN PLAIN WORDS (tools/lay-plain.mjs out of 'YtkgaljocaapobaaSortLay.lean', which tools/lay-shelf.mjs wrote): THE SAME DECLARATIONS UNDER THE SAME NAMES: 'import', 'namespace', 'open', 'def', 'theorem' AND NOTHING ELSE: no command of the shelf's: FOR A HAND-IN. Each laying: the table of numbers ('.._ren') and one theorem, a field a fact of the dump's own or the kernel's comparison; each contract: ONE APPLICATION.
-/
namespace Go.Proofs
open Go.Shelf
def Try.sortCh_ren : Go.Shelf.Ren := ⟨fun | 6 => 92 | 15 => 96 | 14 => 95 | 28 => 107 | 29 => 108 | 20 => 99 | 21 => 100 | 22 => 101 | 23 => 102 | 24 => 103 | 25 => 104 | 26 => 105 | 27 => 106 | 46 => 110 | 47 => 111 | 48 => 112 | 49 => 113 | 50 => 114 | 57 => 115 | n => n, fun | 22 => 83 | 24 => 88 | 25 => 95 | 3 => 3 | 39 => 98 | 0 => 0 | 53 => 108 | 55 => 110 | 4 => 4 | 46 => 102 | 45 => 101 | 50 => 34 | 5 => 5 | 9 => 9 | 66 => 111 | 70 => 115 | 76 => 117 | 77 => 118 | n => n, fun | n => n⟩
theorem Try.sortCh : Go.Proofs.SlLaysF0.n6 Try.prog Try.sortCh_ren := {
  mixed := by kernel_rfl
  f6 := ⟨Try.f92.name, by decide, Try.func92.trans (congrArg some (by kernel_rfl))⟩
  f14 := ⟨Try.f95.name, by decide, Try.func95.trans (congrArg some (by kernel_rfl))⟩
  f15 := Try.func96.trans (congrArg some (by kernel_rfl))
  f20 := ⟨Try.f99.name, by decide, Try.func99.trans (congrArg some (by kernel_rfl))⟩
  f21 := ⟨Try.f100.name, by decide, Try.func100.trans (congrArg some (by kernel_rfl))⟩
  f22 := ⟨Try.f101.name, by decide, Try.func101.trans (congrArg some (by kernel_rfl))⟩
  f23 := ⟨Try.f102.name, by decide, Try.func102.trans (congrArg some (by kernel_rfl))⟩
  f24 := ⟨Try.f103.name, by decide, Try.func103.trans (congrArg some (by kernel_rfl))⟩
  f25 := ⟨Try.f104.name, by decide, Try.func104.trans (congrArg some (by kernel_rfl))⟩
  f26 := ⟨Try.f105.name, by decide, Try.func105.trans (congrArg some (by kernel_rfl))⟩
  f27 := ⟨Try.f106.name, by decide, Try.func106.trans (congrArg some (by kernel_rfl))⟩
  f28 := Try.func107.trans (congrArg some (by kernel_rfl))
  f29 := Try.func108.trans (congrArg some (by kernel_rfl))
  f46 := ⟨Try.f110.name, by decide, Try.func110.trans (congrArg some (by kernel_rfl))⟩
  f47 := Try.func111.trans (congrArg some (by kernel_rfl))
  f48 := Try.func112.trans (congrArg some (by kernel_rfl))
  f49 := ⟨Try.f113.name, by decide, Try.func113.trans (congrArg some (by kernel_rfl))⟩
  f50 := ⟨Try.f114.name, by decide, Try.func114.trans (congrArg some (by kernel_rfl))⟩
  f57 := ⟨Try.f115.name, by decide, Try.func115.trans (congrArg some (by kernel_rfl))⟩
  t0 := Try.underlying0
  a0 := Try.isAgg0
  z0 := Try.sizeOf0
  v0 := Try.zeroValue0
  t3 := Try.underlying3
  a3 := Try.isAgg3
  z3 := Try.sizeOf3
  v3 := Try.zeroValue3
  t4 := Try.underlying4
  a4 := Try.isAgg4
  z4 := Try.sizeOf4
  v4 := Try.zeroValue4
  t5 := Try.underlying5
  a5 := Try.isAgg5
  z5 := Try.sizeOf5
  v5 := Try.zeroValue5
  t9 := Try.underlying9
  a9 := Try.isAgg9
  z9 := Try.sizeOf9
  v9 := Try.zeroValue9
  t22 := Try.underlying83
  a22 := Try.isAgg83
  z22 := Try.sizeOf83
  v22 := Try.zeroValue83
  t25 := Try.underlying95
  a25 := Try.isAgg95
  z25 := Try.sizeOf95
  v25 := Try.zeroValue95
  t39 := Try.underlying98
  a39 := Try.isAgg98
  z39 := Try.sizeOf98
  v39 := Try.zeroValue98
  t45 := Try.underlying101
  a45 := Try.isAgg101
  z45 := Try.sizeOf101
  v45 := Try.zeroValue101
  t46 := Try.underlying102
  a46 := Try.isAgg102
  z46 := Try.sizeOf102
  v46 := Try.zeroValue102
  t50 := Try.underlying34
  a50 := Try.isAgg34
  z50 := Try.sizeOf34
  v50 := Try.zeroValue34
  t53 := Try.underlying108
  a53 := Try.isAgg108
  z53 := Try.sizeOf108
  v53 := Try.zeroValue108
  t55 := Try.underlying110
  a55 := Try.isAgg110
  z55 := Try.sizeOf110
  v55 := Try.zeroValue110
  t66 := Try.underlying111
  a66 := Try.isAgg111
  z66 := Try.sizeOf111
  v66 := Try.zeroValue111
  t70 := Try.underlying115
  a70 := Try.isAgg115
  z70 := Try.sizeOf115
  v70 := Try.zeroValue115
  t76 := Try.underlying117
  a76 := Try.isAgg117
  z76 := Try.sizeOf117
  v76 := Try.zeroValue117
  t77 := Try.underlying118
  a77 := Try.isAgg118
  z77 := Try.sizeOf118
  v77 := Try.zeroValue118 }
end Go.Proofs
/- What the program's `ordered` does to a row of chords of the call's own: the row in order, each chord once. -/
namespace Go.Proofs.Ytkgaljocaapobaa.Pr
open Go.RowKit Go.Sort Go.Lib Go.Proofs.YtkgaljocaapobaaW.PrintWords Go.Proofs.YtkgaljocaapobaaW.PrintLast Go.Proofs.YtkgaljocaapobaaW.PrintMore
/-- The sorted row. -/
def sortC (xs : List S88) : List S88 := xs.mergeSort fun x y => !(ltOf M.cmpC) y x
/-- The chords in order, each once. -/
def ordC (xs : List S88) : List S88 := compactUpTo (sortC xs).toArray (sortC xs).toArray.size
theorem ltC_iff (x y : S88) : (ltOf M.cmpC) x y = true ↔ (x.f0 < y.f0 ∨ x.f0 = y.f0 ∧ x.f1 < y.f1) := by
  unfold ltOf M.cmpC
  rw [decide_eq_true_iff]
  split
  · simp; omega
  · split
    · simp; omega
    · split
      · simp; omega
      · split
        · simp; omega
        · simp; omega
theorem ltC_not (x y : S88) : (ltOf M.cmpC) x y = false ↔ ¬ (x.f0 < y.f0 ∨ x.f0 = y.f0 ∧ x.f1 < y.f1) := by
  rw [← ltC_iff, Bool.not_eq_true]
theorem swoC : SWO (ltOf M.cmpC) where
  irrefl x := by rw [ltC_not]; omega
  trans x y z h1 h2 := by rw [ltC_iff] at *; omega
  ntrans x y z h1 h2 := by rw [ltC_not] at *; omega
theorem antC (x y : S88) (h1 : (ltOf M.cmpC) x y = false) (h2 : (ltOf M.cmpC) y x = false) : x = y := by
  rw [ltC_not] at h1 h2
  obtain ⟨a, b⟩ := x
  obtain ⟨c, d⟩ := y
  simp only at h1 h2
  rw [show a = c by omega, show b = d by omega]
theorem compareChords_lays (g size : Nat) (w : World) : Go.Proofs.CmpLays Try.prog 93 #[] encL 2 M.cmpC g 0 size w := fun m os dk hs x y => by
  obtain ⟨k, hk⟩ := M.or_ev (if x.f0 < y.f0 then -1 else if x.f0 > y.f0 then 1 else 0) (if x.f1 < y.f1 then -1 else if x.f1 > y.f1 then 1 else 0)
  have e : (if (if x.f0 < y.f0 then (-1 : Int) else if x.f0 > y.f0 then 1 else 0) = 0 then (if x.f1 < y.f1 then (-1 : Int) else if x.f1 > y.f1 then 1 else 0) else (if x.f0 < y.f0 then -1 else if x.f0 > y.f0 then 1 else 0)) = M.cmpC x y := by
    unfold M.cmpC
    by_cases h1 : x.f0 < y.f0
    · simp [h1]
    · by_cases h2 : x.f0 > y.f0
      · simp [h1, h2]
      · simp [h1, h2]
  have h := compareChords_grow k x y _ _ _ (sortWorldK encL 2 w g 0 m dk os) (M.compare_eq _ _) (M.compare_eq _ _) (hk k (Nat.le_refl k))
  rw [e] at h
  exact h
theorem compactUpTo_length_le (d : Array S88) (m : Nat) : (compactUpTo d m).length ≤ m := by
  unfold compactUpTo
  rw [List.length_map]
  exact Nat.le_trans (List.length_filter_le _ _) (by simp)
theorem sortC_length (xs : List S88) : (sortC xs).length = xs.length := by
  unfold sortC
  exact List.length_mergeSort xs
theorem ordC_length (xs : List S88) : (ordC xs).length ≤ xs.length := by
  unfold ordC
  refine Nat.le_trans (compactUpTo_length_le _ _) ?_
  simp [sortC_length]
theorem ordC_nil : ordC [] = [] := by simp [ordC, sortC, compactUpTo]
set_option maxHeartbeats 2000000 in
theorem compact_none (w : World) : Calls Try.prog 94 #[.slice none 0 0] w fun e w' => e = .returned (.slice none 0 0) ∧ Below w.heap.size w w' := by
  go_enter Try.func94, Try.ntmps94
  go_wp2
  go_ret
  exact ⟨rfl, Below.refl _ _⟩
theorem oneL : ∀ x : S88, ∀ v ∈ encL x, v.oneCell' = true := by
  intro x v hv
  simp [encL] at hv
  rcases hv with rfl | rfl <;> rfl
set_option maxHeartbeats 2000000 in
/-- The sort, at a row of the call's own. -/
theorem sort_chord (g cap : Nat) (xs : List S88) (w : World) (hH : HoldsK encL 2 w g 0 xs.toArray) (hg : g < w.heap.size) (hlen : xs.length < 4611686018427387904) :
    Calls Try.prog 92 #[.slice (some ⟨g, 0, none⟩) xs.length cap, .func (.func 93) #[] #[]] w fun e w' => e = .returned (.tuple #[]) ∧ ∃ n os, w' = sortWorldK encL 2 w g 0 n (sortC xs).toArray os := by
  have h := AnyQ.slices_SortFunc_total Try.sortCh 2 (fun w => Try.isAgg88 w) (fun w => Try.sizeOf88 w) encL encL_length oneL M.cmpC swoC 93 #[] g 0 cap xs.toArray w (enters_of Try.func93 (by kernel_rfl) rfl)
    (compareChords_lays g xs.toArray.size w) hH hg (by simpa using hlen) antC
  exact h
/-- Behind the sort and the compaction the row's first cells are the chords in order, each once. -/
theorem ord_end {w w1 w2 : World} {g cap n base : Nat} {ok : Nat → Prop} {os : Array Obj} {cur : Array Value} {xs : List S88} (hok : ok g) (hg : base ≤ g) (hB : base ≤ w.heap.size) (hb : w.heap[g]? = some (.cells cur 88 (0, 0))) (hn : xs.length ≤ cap) (hm : cap ≤ maxLen) (hs : cur.size = cap * 2)
    (hH : HoldsK encL 2 w g 0 xs.toArray) (e1 : w1 = sortWorldK encL 2 w g 0 n (sortC xs).toArray os) (h2 : CompEnd w1 g (sortC xs).toArray w2) :
    Kd.R k88 88 w2 base ok (.slice (some ⟨g, 0, none⟩) (ordC xs).length cap) (ordC xs) ∧ Below base w w2 ∧ Kept w w2 ok := by
  have hgs : g < w.heap.size := (Array.getElem?_eq_some_iff.1 hb).1
  have hH1 : HoldsK encL 2 w1 g 0 (sortC xs).toArray := by
    rw [e1]
    exact holdsK_sortWorldK_c encL 2 w g 0 xs.toArray (sortC xs).toArray n os hH hgs (by simp [sortC_length])
  have hb1 : w1.heap[g]? = some (.cells (putCells id 0 (flatK encL 2 (sortC xs).toArray) cur) 88 (0, 0)) := by
    rw [e1]
    show ((putRowK encL 2 (Sort.ahead w n) g 0 (sortC xs).toArray).heap ++ os)[g]? = _
    have := blk_putRow (w := Sort.ahead w n) (flatK encL 2 (sortC xs).toArray) hb
    rw [Array.getElem?_append_left (by rw [size_putRowK]; exact hgs)]
    exact this
  have hB1 : Below base w w1 := by
    rw [e1]
    refine ((below_ahead n).trans (below_putRow (flatK encL 2 (sortC xs).toArray) hg)).trans (below_grow os ?_)
    rw [show (putRow id (Sort.ahead w n) g 0 (flatK encL 2 (sortC xs).toArray)).heap.size = w.heap.size from by simp [putRow, mapBlock, Sort.ahead]]
    exact hB
  obtain ⟨q, F, e2, hF, hFj⟩ := h2
  have hb2 : w2.heap[g]? = some (.cells (putCells id 0 F (putCells id 0 (flatK encL 2 (sortC xs).toArray) cur)) 88 (0, 0)) := by
    rw [e2]
    exact blk_putRow (w := Sort.ahead w1 q) F hb1
  have hB2 : Below base w1 w2 := by
    rw [e2]
    exact (below_ahead q).trans (below_putRow F hg)
  have hK1 : Kept w w1 ok := by
    rw [e1]
    exact ((kept_ahead n).then_ (kept_putRow (flatK encL 2 (sortC xs).toArray) hok) (fun _ h => .inl h)).then_ (kept_grow os) (fun _ h => .inl h)
  have hK2 : Kept w1 w2 ok := by
    rw [e2]
    exact (kept_ahead q).then_ (kept_putRow F hok) (fun _ h => .inl h)
  have hholds : Holds id w2 g 0 F := by
    rw [e2]
    exact holds_putRow id (Sort.ahead w1 q) g 0 (flatK encL 2 (sortC xs).toArray) F hH1 (by rw [hF, size_flatK])
  have hle : (ordC xs).length * 2 ≤ F.size := by
    rw [hF]
    have := compactUpTo_length_le (sortC xs).toArray (sortC xs).toArray.size
    show (compactUpTo (sortC xs).toArray (sortC xs).toArray.size).length * 2 ≤ _
    omega
  have hK : HoldsK encL 2 w2 g 0 (ordC xs).toArray := fun j hj => by
    rw [size_flatK] at hj
    have hj' : j < (ordC xs).length * 2 := by simpa using hj
    obtain ⟨c1, f1⟩ := hholds j (by omega)
    refine ⟨?_, f1⟩
    rw [c1]
    exact congrArg some (hFj j hj')
  have hrow := row_of_holds hK
  refine ⟨shut_own hok hg hb2 (Nat.le_trans (ordC_length xs) hn) hm (by rw [size_putCells_id, size_putCells_id, hs]) ?_, hB1.trans hB2, hK1.then_ hK2 (fun _ h => .inl h)⟩
  simpa using hrow
set_option maxHeartbeats 4000000 in
/-- The program's `ordered`, at a row of the call's own. -/
theorem ordered_own (base : Nat) (ok : Nat → Prop) (v : Value) (xs : List S88) (w : World) (hr : Kd.R k88 88 w base ok v xs) (hB : base ≤ w.heap.size) (hlen : xs.length < 4611686018427387904) :
    Calls Try.prog 87 #[v] w fun e w' => ∃ v', e = .returned v' ∧ Kd.R k88 88 w' base ok v' (ordC xs) ∧ Below base w w' ∧ Kept w w' ok := by
  rcases open_own hr with ⟨rfl, rfl⟩ | ⟨g, cap, cur, rfl, hok, hg, hb, hn, hm, hs, hrow⟩
  · have h1 := Aside0.mk (fun (W : World) => AnyF.slices_SortFunc_none Try.sortCh none 0 (.func (.func 93) #[] #[]) W)
    have h2 := Aside0.mk (fun (W : World) => compact_none W)
    have HR := Aside0.mk (show Kd.R k88 88 w base ok (.slice none 0 0) (ordC []) from by rw [ordC_nil]; exact hr)
    have HB := Aside0.mk hB
    clear hr hB hlen
    go_enter Try.func87, Try.ntmps87
    go_wp2_with (first | (go_at_call 92; refine (h1.out _).mono ?_; rintro e w' ⟨rfl, rfl⟩) | (go_at_call 94; refine (h2.out _).mono ?_; rintro e w' ⟨rfl, hb2⟩))
    go_ret
    exact ⟨_, rfl, Kd.R_below HR.out hb2, hb2.mono HB.out, Kept.of_below hb2 _⟩
  · have hH := holds_of hrow (unfrozen hb)
    have hgs : g < w.heap.size := (Array.getElem?_eq_some_iff.1 hb).1
    have h1 := Aside0.mk (sort_chord g cap xs w hH hgs hlen)
    have h2 := Aside0.mk (fun (w1 : World) (n : Nat) (os : Array Obj) (e : w1 = sortWorldK encL 2 w g 0 n (sortC xs).toArray os) =>
      compact_chord g cap (sortC xs).toArray w1 (by rw [e]; exact holdsK_sortWorldK_c encL 2 w g 0 xs.toArray (sortC xs).toArray n os hH hgs (by simp [sortC_length])) (by simp [sortC_length]; omega) (by simp [sortC_length]; exact hn))
    have h3 := Aside0.mk (fun (w1 w2 : World) (n : Nat) (os : Array Obj) (e1 : w1 = sortWorldK encL 2 w g 0 n (sortC xs).toArray os) (h2 : CompEnd w1 g (sortC xs).toArray w2) => ord_end hok hg hB hb hn hm hs hH e1 h2)
    have hsz : (sortC xs).toArray.size = xs.length := by simp [sortC_length]
    rw [hsz] at h2
    have HS := Aside0.mk hsz
    clear hr hok hg hb hn hm hs hrow hH hgs hB hlen hsz
    go_enter Try.func87, Try.ntmps87
    go_wp2_with (first | (go_at_call 92; refine h1.out.mono ?_; rintro e w1 ⟨rfl, n, os, hw1⟩; have HW := Aside0.mk hw1; clear hw1) | (go_at_call 94; refine (h2.out _ n os HW.out).mono ?_; rintro e w2 ⟨rfl, hc⟩))
    go_ret
    obtain ⟨r1, r2⟩ := h3.out _ _ n os HW.out hc
    refine ⟨_, rfl, ?_, r2⟩
    have e : (compactUpTo (sortC xs).toArray xs.length) = ordC xs := by
      unfold ordC
      rw [HS.out]
    rw [e]
    exact r1
def impl_ordered.f (l0 : List (S88)) : Option (List (S88)) := if l0.length < 4611686018427387904 then some (ordC l0) else none
theorem impl_ordered.calls (P0_ : Nat → Prop) (u9000_ : Value) (l0 : List (S88)) (r : List (S88)) (w0 w : World) (hB : Below w0.heap.size w0 w) (ho0 : Kd.R k88 88 w w0.heap.size P0_ u9000_ l0) (h : impl_ordered.f l0 = some r) :
    Calls Try.prog 87 #[u9000_] w fun e w' => ∃ v0_ : Value, e = .returned (v0_) ∧ Kd.R k88 88 w' w0.heap.size (fun k_ => (P0_ k_ ∨ w.heap.size ≤ k_)) v0_ r ∧ Below w0.heap.size w0 w' ∧ Kept w w' (fun k_ => P0_ k_) := by
  unfold impl_ordered.f at h
  by_cases hl : l0.length < 4611686018427387904
  · rw [if_pos hl] at h
    obtain rfl := oI h
    exact (ordered_own w0.heap.size P0_ u9000_ l0 w ho0 hB.size hl).mono fun e w' ⟨v', he, hr, hb, hk⟩ => ⟨v', he, Kd.R_mono hr (fun _ h => .inl h), hB.trans hb, hk⟩
  · rw [if_neg hl] at h
    cases h
end Go.Proofs.Ytkgaljocaapobaa.Pr
namespace Go.Proofs.Ytkgaljocaapobaa.Pr
open Go.RowKit Go.Proofs.YtkgaljocaapobaaW.PrintWords Go.Proofs.YtkgaljocaapobaaW.PrintLast Go.Proofs.YtkgaljocaapobaaW.PrintMore
attribute [local go_sem] max2_int min2_int max_two min_two max_three min_three max_four min_four
def impl_chord.f (a0 : Int) (a1 : Int) : Option (Int × Int) := some (mn a0 a1, mx a0 a1)
set_option maxHeartbeats 8000000 in
set_option maxRecDepth 100000 in
theorem impl_chord.calls (a0 : Int) (a1 : Int) (r1 : Int) (r2 : Int) (w : World) (h : impl_chord.f a0 a1 = some (r1, r2)) :
  Calls Try.prog 86 #[.int .i64 a0, .int .i64 a1] w fun e w' => e = .returned (.agg #[.int .i64 r1, .int .i64 r2]) ∧ Below w.heap.size w w' := by
 have hu88 := Try.underlying88
 have HB := Aside0.mk (Below.refl w.heap.size w)
 have H : (some (mn a0 a1, mx a0 a1)) = some (r1, r2) := h
 clear h
 obtain ⟨ji3, hji3⟩ : ∃ j_ : Int, (mn a0 a1) = j_ := ⟨_, rfl⟩
 replace H : (some (ji3, mx a0 a1)) = some (r1, r2) := by first | (rw [hji3] at H; exact H) | (simp only [hji3] at H ⊢; exact H)
 have hji3_ : (if a1 < a0 then a1 else a0) = ji3 := hji3
 obtain ⟨ji4, hji4⟩ : ∃ j_ : Int, (mx a0 a1) = j_ := ⟨_, rfl⟩
 replace H : (some (ji3, ji4)) = some (r1, r2) := by first | (rw [hji4] at H; exact H) | (simp only [hji4] at H ⊢; exact H)
 have hji4_ : (if a0 < a1 then a1 else a0) = ji4 := hji4
 simp only [Option.some.injEq, Prod.mk.injEq] at H
 obtain ⟨rfl, rfl⟩ := H
 go_enter Try.func86, Try.ntmps86
 go_wp2_with (first | ((with_reducible refine gate_dst (N := 4) rfl ?_); refine box_event ?hg (N := 4) ?hd (cs := #[.int .i64 0, .int .i64 0]) (t := 88) ?hr ?_; (case hd => rfl); (case hg => rfl); (case hr => first | (go_simp; done) | (go_simp; rfl)); intro gb128 hg w5 hbox hb; have n0_ := Aside0.mk (below_step hb_ hb); have n1_ := Aside0.mk (hbox); have n2_ := Aside0.mk ((by rw [hg]; exact (below_size hb_) : w.heap.size ≤ gb128)); have n3_ := Aside0.mk ((by rw [hg]; exact (below_size hb_) : w.heap.size ≤ gb128)); clear HB; have HB := n0_; have BK128 := n1_; have GW128 := n2_; have GE128 := n3_; clear n0_ n1_ n2_ n3_; clear hb hbox hg; have hcz6_0 : w5.cell? ⟨gb128, 0, none⟩ = some (.int .i64 0) := (blk_cell BK128.out 0).trans rfl; have hcz6_1 : w5.cell? ⟨gb128, 1, none⟩ = some (.int .i64 0) := (blk_cell BK128.out 1).trans rfl; have hfz6_0 := blk_frozen BK128.out 0; have hfz6_1 := blk_frozen BK128.out 1))
 refine bodyPost_ret (results_cell_row rfl _ _ gb128 88 #[.int .i64 ji3, .int .i64 ji4] (0, 0) _ rfl (by (with_reducible repeat (first | refine kN ?_ _ | refine kD ?_ | refine kA ?_ _)); refine blk_put (cs := #[.int .i64 ji3, .int .i64 0]) ?_ 1 _ rfl; (with_reducible repeat (first | refine kN ?_ _ | refine kD ?_ | refine kA ?_ _)); refine blk_put (cs := #[.int .i64 0, .int .i64 0]) ?_ 0 _ rfl; (with_reducible repeat (first | refine kN ?_ _ | refine kD ?_ | refine kA ?_ _)); exact BK128.out) Try.underlying88 rfl (by kernel_rfl)) rfl ?_
 exact ⟨by first | rfl | (simp [errW_none, errW_some] <;> rfl) | (simp only [← hji3, ← hji4]; first | rfl | (simp [errW_none, errW_some] <;> rfl)) | (simp [*, errW_none, errW_some] <;> rfl), hs_ GE128.out⟩
def impl_Star_chords.l0 : Nat → List (S88) → Int → Int → Int → Int → Option ((List (S88)))
 | 0, _, _, _, _, _ => none
 | k + 1, x3, x7, x8, x157000, x157001 => if x8 < x7 then (if x157000 = 0 then (none) else ((impl_chord.f x8 (Int.tmod (wrap64 (x8 + x157001)) x157000)).bind fun bt160 => (if x3.length < 8796093022208 then (impl_Star_chords.l0 k (x3 ++ [(⟨bt160.1, bt160.2⟩ : S88)]) x7 (wrap64 (x8 + 1)) x157000 x157001) else (none)))) else ((impl_ordered.f x3).bind fun t165 => (some t165))
def impl_Star_chords.f (k : Nat) (a0_0 : Int) (a0_1 : Int) : Option ((List (S88))) := impl_Star_chords.l0 k (([] : List (S88))) a0_0 0 a0_0 a0_1
theorem impl_Star_chords.mono_l : ∀ k, (∀ y0 y1 y2 y3 y4, LeO (impl_Star_chords.l0 k y0 y1 y2 y3 y4) (impl_Star_chords.l0 (k + 1) y0 y1 y2 y3 y4))
 | 0 => fun _ _ _ _ _ r h => by simp [impl_Star_chords.l0] at h
 | k + 1 => by
  have ih0 := impl_Star_chords.mono_l k
  ·intro y0 y1 y2 y3 y4
   unfold impl_Star_chords.l0
   repeat' first
   | (with_reducible exact ih0 _ _ _ _ _)
   | (with_reducible exact LeO.refl _)
   | (with_reducible exact LeO.none _)
   | (with_reducible refine LeO.ite ?_ ?_)
   | (with_reducible refine LeO.bind ?_ (fun _ => ?_))
   | exact ih0 _ _ _ _ _
   | exact LeO.none _
   | refine LeO.ite ?_ ?_
   | refine LeO.bind ?_ (fun _ => ?_)
theorem impl_Star_chords.mono : ∀ a0 a1 k, LeO (impl_Star_chords.f k a0 a1) (impl_Star_chords.f (k + 1) a0 a1) := by
 intro a0 a1 k
 have ih0 := impl_Star_chords.mono_l k
 unfold impl_Star_chords.f
 repeat' first
   | (with_reducible exact ih0 _ _ _ _ _)
   | (with_reducible exact LeO.refl _)
   | (with_reducible exact LeO.none _)
   | (with_reducible refine LeO.ite ?_ ?_)
   | (with_reducible refine LeO.bind ?_ (fun _ => ?_))
   | exact ih0 _ _ _ _ _
   | exact LeO.none _
   | refine LeO.ite ?_ ?_
   | refine LeO.bind ?_ (fun _ => ?_)
set_option maxHeartbeats 8000000 in
set_option maxRecDepth 100000 in
theorem impl_Star_chords.calls (k : Nat) (a0_0 : Int) (a0_1 : Int) (r : List (S88)) (w : World) (h : impl_Star_chords.f k a0_0 a0_1 = some r) :
  Calls Try.prog 80 #[.agg #[.int .i64 a0_0, .int .i64 a0_1]] w fun e w' => ∃ v0_ : Value, e = .returned (v0_) ∧ Kd.R k88 88 w' w.heap.size (fun _ => True) v0_ r ∧ Below w.heap.size w w' := by
 have hu37 := Try.underlying37
 have HB := Aside0.mk (Below.refl w.heap.size w)
 have H : (impl_Star_chords.l0 k (([] : List (S88))) a0_0 0 a0_0 a0_1) = some r := h
 clear h
 obtain ⟨y157, hy157⟩ : ∃ y_ : List (S88), y_ = (([] : List (S88))) := ⟨_, rfl⟩
 replace H : (impl_Star_chords.l0 k y157 a0_0 0 a0_0 a0_1) = some r := by first | (rw [hy157]; with_reducible exact H) | (have H2_ := (Option.bind_some _ _).symm.trans H; rw [hy157]; with_reducible exact H2_) | (have H2_ := (Option.bind_some _ _).symm.trans H; with_reducible exact H2_) | with_reducible exact H | (rw [hy157]; exact H) | exact H
 have Ny157 := Aside0.mk hy157
 clear hy157
 have H' := Aside0.mk H
 clear H
 go_enter Try.func80, Try.ntmps80
 go_wp2_with (first | ((with_reducible refine gate_dst (N := 1) rfl ?_); refine box_event ?hg (N := 1) ?hd (cs := #[.int .i64 a0_0, .int .i64 a0_1]) (t := 37) ?hr ?_; (case hd => rfl); (case hg => rfl); (case hr => first | (go_simp; done) | (go_simp; rfl)); intro gb156 hg w2 hbox hb; have n0_ := Aside0.mk (below_step hb_ hb); have n1_ := Aside0.mk (hbox); have n2_ := Aside0.mk ((by rw [hg]; exact (below_size hb_) : w.heap.size ≤ gb156)); have n3_ := Aside0.mk ((by rw [hg]; exact (below_size hb_) : w.heap.size ≤ gb156)); clear HB; have HB := n0_; have BK156 := n1_; have GW156 := n2_; have GE156 := n3_; clear n0_ n1_ n2_ n3_; clear hb hbox hg) | ((with_reducible refine gate_dst (N := 5) rfl ?_); refine Kd.R_lit k88 _ 88 ?hg (N := 5) ?hd (xs := ([] : List (S88))) (inner := []) (ok := fun _ => True) (okp := fun _ => True) ?hr ?hp (fun _ hk => hk) trivial (Below.refl _ _) (Nat.le_refl _) (by simp) ?_; (case hd => rfl); (case hg => rfl); (case hr => first | (go_simp; done) | (go_simp; rfl)); (case hp => exact (Reps.none _ _)); intro v158 w3 ho4 hb hg_ hnew_; clear hg_ hnew_; (first | rw [← Ny157.out] at ho4 | (simp only [Int.reduceToNat] at ho4; rw [← Ny157.out] at ho4)); have n0_ := Aside0.mk (Kd.R_lower ho4 (below_size (hs_ GE156.out))); have n1_ := Aside0.mk (blk_below (g := gb156) (o := .cells #[.int .i64 a0_0, .int .i64 a0_1] 37 (0, 0)) (kx_ BK156.out) hb); have n2_ := Aside0.mk (below_step (hs_ GE156.out) hb); clear BK156; clear HB; have HO159 := n0_; have BK156 := n1_; have HB := n2_; clear n0_ n1_ n2_; clear hb ho4; have hcz5_0 : w3.cell? ⟨gb156, 0, none⟩ = some (.int .i64 a0_0) := (blk_cell BK156.out 0).trans rfl; have hcz5_1 : w3.cell? ⟨gb156, 1, none⟩ = some (.int .i64 a0_1) := (blk_cell BK156.out 1).trans rfl; have hfz5_0 := blk_frozen BK156.out 0; have hfz5_1 := blk_frozen BK156.out 1))
 go_loopg [3, 8] k (fun kq v3 v8 w' => ∃ (x3_1 : List (S88)) (x8_1 : Int), v8 = .int .i64 x8_1 ∧ Aside0 (impl_Star_chords.l0 kq x3_1 a0_0 x8_1 a0_0 a0_1 = some r) ∧ Aside0 (kq ≤ k) ∧ Aside0 (Kd.R k88 88 w' w.heap.size (fun _ => True) v3 x3_1) ∧ Aside0 (w'.heap[gb156]? = some (.cells #[.int .i64 a0_0, .int .i64 a0_1] 37 (0, 0))) ∧ Aside0 (Below w.heap.size w w'))
 case atStart => exact ⟨(y157), (0), (by first | rfl | (simp; done) | (simp [*]; done)), H', ⟨Nat.le_refl _⟩, ⟨by (with_reducible repeat (first | apply rA | apply rN | apply rD)); exact HO159.out⟩, ⟨by (with_reducible repeat (first | refine kN ?_ _ | refine kD ?_ | refine kA ?_ _)); exact BK156.out⟩, ⟨hs_ GE156.out⟩⟩
 case round =>
  clear H'
  try clear p2
  try clear hcz5_0
  try clear hcz5_1
  try clear hfz5_0
  try clear hfz5_1
  obtain ⟨x3_1, x8_1, rfl, HA, HK1, HO_3, BK156, HB⟩ := hrel
  cases gk with
  | zero => exact absurd HA.out (by simp [impl_Star_chords.l0])
  | succ k1 =>
   have H := HA.out
   clear HA
   simp only [impl_Star_chords.l0] at H
   by_cases c6 : x8_1 < a0_0
   ·rw [if_pos c6] at H
    have c6b0 : decide (x8_1 < a0_0) = true := decide_eq_true c6
    clear c6
    by_cases c7 : a0_0 = 0
    ·rw [if_pos c7] at H
     exact absurd H (by simp)
    ·rw [if_neg c7] at H
     have c7b0 : (a0_0 == 0) = false := beq_eq_false_iff_ne.mpr c7
     have c7b1 : (a0_0 != 0) = true := bne_iff_ne.mpr c7
     replace H := bI H
     obtain ⟨⟨t160, t161⟩, A80, H⟩ := H
     replace H : (if x3_1.length < 8796093022208 then (impl_Star_chords.l0 k1 (x3_1 ++ [(⟨t160, t161⟩ : S88)]) a0_0 (wrap64 (x8_1 + 1)) a0_0 a0_1) else (none)) = some r := H
     have A8 := Aside0.mk A80
     clear A80
     by_cases c9 : x3_1.length < 8796093022208
     ·rw [if_pos c9] at H
      have LMc9 := Aside0.mk c9
      clear c9
      obtain ⟨y162, hy162⟩ : ∃ y_ : List (S88), y_ = (x3_1 ++ [(⟨t160, t161⟩ : S88)]) := ⟨_, rfl⟩
      replace H : (impl_Star_chords.l0 k1 y162 a0_0 (wrap64 (x8_1 + 1)) a0_0 a0_1) = some r := by first | (rw [hy162]; with_reducible exact H) | (have H2_ := (Option.bind_some _ _).symm.trans H; rw [hy162]; with_reducible exact H2_) | (have H2_ := (Option.bind_some _ _).symm.trans H; with_reducible exact H2_) | with_reducible exact H | (rw [hy162]; exact H) | exact H
      have Ny162 := Aside0.mk hy162
      clear hy162
      have H' := Aside0.mk H
      clear H
      have hcz10_0 : wr.cell? ⟨gb156, 0, none⟩ = some (.int .i64 a0_0) := (blk_cell BK156.out 0).trans rfl
      have hcz10_1 : wr.cell? ⟨gb156, 1, none⟩ = some (.int .i64 a0_1) := (blk_cell BK156.out 1).trans rfl
      have hfz10_0 := blk_frozen BK156.out 0
      have hfz10_1 := blk_frozen BK156.out 1
      go_wp2_with (first | ((with_reducible refine gate_callee (f := 86) rfl ?_); refine goesL_ (some 20) rfl rfl Try.func86 (by kernel_rfl) rfl #[.int .i64 x8_1, .int .i64 (Int.tmod (wrap64 (x8_1 + a0_1)) a0_0)] rfl ar_ ?_; (with_reducible refine (impl_chord.calls x8_1 (Int.tmod (wrap64 (x8_1 + a0_1)) a0_0) t160 t161 _ A8.out).mono ?_); rintro e w11 ⟨rfl, hb⟩; refine ⟨_, rfl, ?_⟩; have n0_ := Aside0.mk (Kd.R_below (by (with_reducible repeat (first | apply rA | apply rN | apply rD)); exact HO_3.out) hb); have n1_ := Aside0.mk (blk_below (g := gb156) (o := .cells #[.int .i64 a0_0, .int .i64 a0_1] 37 (0, 0)) (kx_ BK156.out) hb); have n2_ := Aside0.mk (below_step (hs_ GE156.out) hb); clear HO_3; clear BK156; clear HB; have HO_3 := n0_; have BK156 := n1_; have HB := n2_; clear n0_ n1_ n2_; (try clear hb); (try clear hb2); (try clear hk); (try clear hi)) | ((with_reducible refine gate_builtin (b := .append) (xs := #[.tmp 11, .tmp 21]) rfl ?_); at_builtin; refine Kd.R_append k88 (w0 := w) w.heap.size rfl (.tmp 11) (.tmp 21) 83 88 (.agg #[(.int .i64 0), (.int .i64 0)]) 16 rfl Try.underlying83 info88 rfl (by decide) (by omega) u3 x3_1 (⟨t160, t161⟩ : S88) [.int .i64 t160, .int .i64 t161] (fun _ => True) (fun _ => False) rfl rfl ?aP (fun _ hk => hk.elim) ?aF ?aO ?aB ?aS ?aL ?_; (case aP => exact k88_mkM _ _ _ (⟨t160, t161⟩ : S88)); (case aB => exact (hs_ GE156.out)); (case aF => exact (fun _ _ => trivial)); (case aO => exact (by (with_reducible repeat (first | apply rA | apply rN | apply rD)); exact HO_3.out)); (case aS => exact (below_size (hs_ GE156.out))); (case aL => have := LMc9.out; omega); intro v163 w12 ho hb hg hat; rw [← Ny162.out] at ho; have n0_ := Aside0.mk (blk_grown (g := gb156) (o := .cells #[.int .i64 a0_0, .int .i64 a0_1] 37 (0, 0)) (kx_ BK156.out) hg (Kd.R_ne HO_3.out BK156.out (by decide))); have n1_ := Aside0.mk (hb); have n2_ := Aside0.mk (ho); clear BK156; clear HB; clear HO_3; have BK156 := n0_; have HB := n1_; have HO164 := n2_; clear n0_ n1_ n2_; clear ho hb hg hat))
      go_roundg k1
      case measure => have := HK1.out; omega
      case rel => exact ⟨(y162), (wrap64 (x8_1 + 1)), (by first | rfl | (simp; done) | (simp [*]; done)), H', ⟨by have := HK1.out; omega⟩, ⟨by (with_reducible repeat (first | apply rA | apply rN | apply rD)); exact HO164.out⟩, ⟨by (with_reducible repeat (first | refine kN ?_ _ | refine kD ?_ | refine kA ?_ _)); exact BK156.out⟩, ⟨hs_ GE156.out⟩⟩
     ·rw [if_neg c9] at H
      exact absurd H (by simp)
   ·rw [if_neg c6] at H
    have c6b0 : decide (x8_1 < a0_0) = false := decide_eq_false c6
    clear c6
    replace H := bI H
    obtain ⟨t165, A130, H⟩ := H
    replace H : (some t165) = some r := H
    have A13 := Aside0.mk A130
    clear A130
    obtain rfl := oI H
    obtain ⟨Ao14, co14, eo14⟩ := Kd.R_slice HO_3.out
    subst eo14
    go_wp2_with (first | ((with_reducible refine gate_callee (f := 87) rfl ?_); refine goesL_ (some 25) rfl rfl Try.func87 (by kernel_rfl) rfl #[.slice Ao14 x3_1.length co14] rfl ar_ ?_; (with_reducible refine (impl_ordered.calls (fun k_ => some k_ = (.slice Ao14 x3_1.length co14 : Value).ownBlock) (.slice Ao14 x3_1.length co14) x3_1 t165 w _ ?side1 ?side2 A13.out).mono ?_); (case side1 => repeat (first | (with_reducible first | exact HB.out | apply bA | apply bN | apply bD | refine below_set ?_ GE156.out) | exact HB.out)); (case side2 => exact Kd.R_tight rfl HO_3.out); rintro e w15 ⟨v166, rfl, ho0, hb, hkp⟩; refine ⟨_, rfl, ?_⟩; have n0_ := Aside0.mk (blk_kept (kx_ BK156.out) hkp (fun hs_ => (fun e_ => (Kd.R_ne HO_3.out BK156.out (by decide)) e_) hs_)); have n1_ := Aside0.mk (Kd.R_mono (ok' := fun k_ => True) ho0 (fun k_ hk_ => trivial)); have n2_ := Aside0.mk (hb); clear BK156; clear HB; clear HO_3; have BK156 := n0_; have HO167 := n1_; have HB := n2_; clear n0_ n1_ n2_; (try clear hb); (try clear hkp); (try clear ho0)))
    go_ret
    exact ⟨_, by first | rfl | (simp [errW_none, errW_some] <;> rfl) | (simp [*, errW_none, errW_some] <;> rfl), by (with_reducible repeat (first | apply rA | apply rN | apply rD)); exact HO167.out, hs_ GE156.out⟩
end Go.Proofs.Ytkgaljocaapobaa.Pr
/- The chords of a star: sorted and compacted by the program, put in one by one by the reference; and their crossings. -/
namespace Go.Proofs.Ytkgaljocaapobaa.M
open Go.RowKit Go.Proofs.YtkgaljocaapobaaW.PrintWords Go.Proofs.Ytkgaljocaapobaa.Pr
theorem ltB_iff (x y : Ch) : ltB x y = true ↔ (x.f0 < y.f0 ∨ x.f0 = y.f0 ∧ x.f1 < y.f1) := by simp [ltB]
theorem ltB_not (x y : Ch) : ltB x y = false ↔ ¬ (x.f0 < y.f0 ∨ x.f0 = y.f0 ∧ x.f1 < y.f1) := by rw [← ltB_iff, Bool.not_eq_true]
theorem ordB : Ord ltB where
  irrefl x := by rw [ltB_not]; omega
  trans x y z h1 h2 := by rw [ltB_iff] at *; omega
  tri x y h1 h2 := by
    rw [ltB_not] at h1 h2
    obtain ⟨a, b⟩ := x
    obtain ⟨c, d⟩ := y
    simp only at h1 h2
    rw [show a = c by omega, show b = d by omega]
/-- The chords in order, each once. -/
def setC (xs : List Ch) : List Ch := xs.foldl (put ltB) []
theorem ordC_eq (xs : List Ch) : ordC xs = setC xs := by
  have e : ltOf cmpC = ltB := by
    funext x y
    rw [Bool.eq_iff_iff, ltC_iff, ltB_iff]
  unfold ordC sortC
  rw [e]
  exact sort_compact ordB xs
theorem mem_setC (x : Ch) (xs : List Ch) : x ∈ setC xs ↔ x ∈ xs := by
  unfold setC
  rw [mem_fold]
  simp
theorem setC_length (xs : List Ch) : (setC xs).length ≤ xs.length := by
  have := length_fold ltB xs []
  unfold setC
  simpa using this
theorem srPut_ev (l : List Ch) (c : Ch) (hl : l.length ≤ 1000000) : Ev (fun k => spec_srPut.f k l c.f0 c.f1) (put ltB l c) := by
  unfold spec_srPut.f
  have e := Ev.scan0 (fun k i (_ : Unit) => spec_srPut.l0 k l i c.f0 c.f1) l (fun rest _ => l.take (l.length - rest.length) ++ put ltB rest c) (fun _ _ => True)
    (fun acc _ => by
      refine Ev.step (fun k => by rw [spec_srPut.l0]) ?_
      refine Ev.neg (by omega) ?_
      rw [Int.toNat_natCast]
      refine Ev.bindc rfl (Ev.pos (by omega) (Ev.pos (by omega) (Ev.bindc rfl (Ev.pos (by simp <;> omega) (Ev.bindc rfl (Ev.bindc rfl (Ev.pos (by simp <;> omega) (Ev.bindc rfl (Ev.bindc rfl (Ev.pos (by simp <;> omega) (Ev.val ?_)))))))))))
      simp [put])
    (fun i h acc _ => by
      have hr := rd_ch l i h
      have hdl : (l[i] :: l.drop (i + 1)).length = l.length - i := by simp <;> omega
      have ht : l.length - (l.length - i) = i := by omega
      by_cases hlt : ltB l[i] c = true
      · refine .inl ⟨(), trivial, ?_, fun r hr2 => ?_⟩
        · rw [hdl, ht, put, if_pos hlt, show l.length - (l.drop (i + 1)).length = i + 1 by simp <;> omega, List.take_succ_eq_append_getElem h, List.append_assoc]
          rfl
        · refine Ev.step (fun k => by rw [spec_srPut.l0]) ?_
          refine Ev.pos (by omega) (Ev.pos (by omega) ?_)
          rw [hr]
          refine Ev.bindc (srLess_eq _ _ _ _) (Ev.pos hlt ?_)
          rw [w64 (x := (i : Int) + 1) (by omega) (by omega)]
          exact hr2
      · refine .inr ?_
        refine Ev.step (fun k => by rw [spec_srPut.l0]) ?_
        refine Ev.pos (by omega) (Ev.pos (by omega) ?_)
        rw [hr]
        refine Ev.bindc (srLess_eq _ _ _ _) (Ev.neg hlt ?_)
        rw [hdl, ht, put, if_neg hlt]
        by_cases he : l[i] = c
        · refine Ev.pos (by rw [he]; simp) (Ev.val ?_)
          rw [if_pos he, ← List.drop_eq_getElem_cons h, List.take_append_drop]
        · refine Ev.neg (fun hh => he ?_) ?_
          · simp only [Bool.and_eq_true, beq_iff_eq] at hh
            generalize l[i] = y at hh ⊢
            obtain ⟨a, b⟩ := y
            obtain ⟨c, d⟩ := c
            rw [show a = c from hh.1, show b = d from hh.2]
          · rw [if_neg he, Int.toNat_natCast]
            refine Ev.bindc rfl (Ev.pos (by omega) (Ev.bindc rfl (Ev.pos (by simp <;> omega) (Ev.bindc rfl (Ev.bindc rfl (Ev.pos (by simp <;> omega) (Ev.bindc rfl (Ev.bindc rfl (Ev.pos (by simp <;> omega) (Ev.val ?_))))))))))
            simp only [List.nil_append, List.append_assoc, List.cons_append]
            rw [← List.drop_eq_getElem_cons h])
    () trivial
  simpa using e
/-- The chord from a point of a star. -/
def chV (n s p : Int) : Ch := ⟨mn p (Int.tmod (p + s) n), mx p (Int.tmod (p + s) n)⟩
/-- The chords from the points p, p + 1, .., n - 1. -/
def chsFrom (n s : Int) : Nat → Int → List Ch
  | 0, _ => []
  | d + 1, p => chV n s p :: chsFrom n s d (p + 1)
theorem chsFrom_length (n s : Int) : ∀ d p, (chsFrom n s d p).length = d
  | 0, _ => rfl
  | d + 1, p => by rw [chsFrom, List.length_cons, chsFrom_length]
theorem mem_chsFrom (n s : Int) (c : Ch) : ∀ d p, c ∈ chsFrom n s d p → ∃ q : Int, p ≤ q ∧ q < p + d ∧ c = chV n s q
  | 0, _, h => by simp [chsFrom] at h
  | d + 1, p, h => by
    rw [chsFrom, List.mem_cons] at h
    rcases h with rfl | h
    · exact ⟨p, by omega, by omega, rfl⟩
    · obtain ⟨q, h1, h2, h3⟩ := mem_chsFrom n s c d (p + 1) h
      exact ⟨q, by omega, by omega, h3⟩
theorem srChord_eq (a b : Int) : spec_srChord.f a b = some (mn a b, mx a b) := by
  unfold spec_srChord.f spec_l1Least.f spec_l1Most.f mn mx
  by_cases h1 : a < b
  · rw [if_pos h1, if_neg (show ¬ a > b by omega), if_neg (show ¬ b < a by omega), if_pos h1]; rfl
  · by_cases h2 : a > b
    · rw [if_neg h1, if_pos h2, if_pos (show b < a by omega), if_neg h1]; rfl
    · rw [if_neg h1, if_neg h2, if_neg (show ¬ b < a by omega), if_neg h1]
      have : a = b := by omega
      subst this
      rfl
theorem srChords_ev (n s : Int) (hn : 1 ≤ n ∧ n ≤ 1000) (hs : 0 ≤ s ∧ s ≤ 1000) : Ev (fun k => spec_srChords.f k n s) (setC (chsFrom n s n.toNat 0)) := by
  unfold spec_srChords.f setC
  have e := Ev.upto (fun k i (acc : List Ch) => spec_srChords.l0 k acc i n s) n (fun i acc => (chsFrom n s (n - i).toNat i).foldl (put ltB) acc) (fun i acc => 0 ≤ i ∧ i ≤ n ∧ (acc.length : Int) ≤ i)
    (fun i acc hi hp => by
      have hz : (n - i).toNat = 0 := by omega
      refine Ev.step (fun k => by rw [spec_srChords.l0]) ?_
      refine Ev.neg (by omega) (Ev.val ?_)
      rw [hz]
      rfl)
    (fun i acc hi hp => by
      have hz : (n - i).toNat = (n - (i + 1)).toNat + 1 := by omega
      have hl := length_put ltB (chV n s i) acc
      refine .inl ⟨put ltB acc (chV n s i), ⟨by omega, by omega, by omega⟩, by rw [hz, chsFrom, List.foldl_cons], fun r hr2 => ?_⟩
      refine Ev.step (fun k => by rw [spec_srChords.l0]) ?_
      refine Ev.pos hi (Ev.neg (by omega) ?_)
      rw [w64 (x := i + s) (by omega) (by omega), w64 (x := i + 1) (by omega) (by omega)]
      exact Ev.bindc (srChord_eq _ _) (Ev.bindk (srPut_ev acc (chV n s i) (by omega)) hr2))
    n.toNat 0 [] (by omega) ⟨by omega, by omega, by simp⟩
  rw [show n - 0 = n by omega] at e
  exact e
theorem chords_ev (n s : Int) (hn : 1 ≤ n ∧ n ≤ 1000) (hs : 0 ≤ s ∧ s ≤ 1000) : Ev (fun k => impl_Star_chords.f k n s) (setC (chsFrom n s n.toNat 0)) := by
  unfold impl_Star_chords.f
  have e := Ev.upto (fun k i (acc : List Ch) => impl_Star_chords.l0 k acc n i n s) n (fun i acc => setC (acc ++ chsFrom n s (n - i).toNat i)) (fun i acc => 0 ≤ i ∧ i ≤ n ∧ (acc.length : Int) = i)
    (fun i acc hi hp => by
      have hz : (n - i).toNat = 0 := by omega
      refine Ev.step (fun k => by rw [impl_Star_chords.l0]) ?_
      refine Ev.neg (by omega) (Ev.bindc (a := setC acc) ?_ (Ev.val ?_))
      · unfold impl_ordered.f
        rw [if_pos (by omega), ordC_eq]
      · rw [hz]
        simp [chsFrom])
    (fun i acc hi hp => by
      have hz : (n - i).toNat = (n - (i + 1)).toNat + 1 := by omega
      refine .inl ⟨acc ++ [chV n s i], ⟨by omega, by omega, by simp <;> omega⟩, by rw [hz, chsFrom]; simp, fun r hr2 => ?_⟩
      refine Ev.step (fun k => by rw [impl_Star_chords.l0]) ?_
      refine Ev.pos hi (Ev.neg (by omega) ?_)
      rw [w64 (x := i + s) (by omega) (by omega), w64 (x := i + 1) (by omega) (by omega)]
      exact Ev.bindc rfl (Ev.pos (by omega) hr2))
    n.toNat 0 [] (by omega) ⟨by omega, by omega, by simp⟩
  rw [show n - 0 = n by omega] at e
  exact e
/-- A star's chords are chords of its points. -/
theorem chords_ok (n s : Int) (hn : 1 ≤ n ∧ n ≤ 1000) (hs : 1 ≤ s ∧ s < n) : ∀ c ∈ setC (chsFrom n s n.toNat 0), 0 ≤ c.f0 ∧ c.f0 < c.f1 ∧ c.f1 < n := by
  intro c hc
  obtain ⟨q, h1, h2, rfl⟩ := mem_chsFrom n s c _ _ ((mem_setC _ _).1 hc)
  have ht : Int.tmod (q + s) n = (q + s) % n := Int.tmod_eq_emod_of_nonneg (by omega)
  have hb : 0 ≤ (q + s) % n := Int.emod_nonneg _ (by omega)
  have hb2 : (q + s) % n < n := Int.emod_lt_of_pos _ (by omega)
  have hne : (q + s) % n ≠ q := by
    intro e
    by_cases h : q + s < n
    · rw [Int.emod_eq_of_lt (by omega) h] at e; omega
    · have : (q + s) % n = q + s - n := by
        rw [← Int.sub_emod_right, Int.emod_eq_of_lt (by omega) (by omega)]
      omega
  unfold chV mn mx
  rw [ht]
  generalize (q + s) % n = t at hb hb2 hne ⊢
  simp only
  split <;> split <;> omega
theorem srCount_ev (l : List Ch) (hl : l.length ≤ 1000) (hv : ∀ c ∈ l, c.f0 < c.f1) : Ev (fun k => spec_srCount.f k l) (pairsN l : Int) := by
  unfold spec_srCount.f
  have inner : ∀ (i : Nat) (hi : i < l.length) (r : Int) (acc : Int), 0 ≤ acc ∧ acc ≤ i * 1000 → Ev (fun k => spec_srCount.l0 k l (acc + (cnt l[i] (l.drop (i + 1)) : Int)) l (l.length : Int) ((i : Int) + 1)) r →
      Ev (fun k => spec_srCount.l1 k l acc l (l.length : Int) (i : Int) (l.drop (i + 1)) ((l.drop (i + 1)).length : Int) 0 l[i].f0 l[i].f1) r := by
    intro i hi r acc hacc hr
    have hdl : (l.drop (i + 1)).length = l.length - (i + 1) := List.length_drop
    have e := Ev.cps (fun k j (a : Int) => spec_srCount.l1 k l a l (l.length : Int) (i : Int) (l.drop (i + 1)) ((l.drop (i + 1)).length : Int) j l[i].f0 l[i].f1)
      (fun k a => spec_srCount.l0 k l a l (l.length : Int) ((i : Int) + 1)) (l.drop (i + 1))
      (fun rest a => a + (cnt l[i] rest : Int)) (fun j a => 0 ≤ a ∧ a ≤ i * 1000 + j)
      (fun a r _ hr => by
        refine Ev.step (fun k => by rw [spec_srCount.l1]) ?_
        refine Ev.neg (by omega) ?_
        rw [w64 (x := (i : Int) + 1) (by omega) (by omega)]
        simpa [cnt] using hr)
      (fun j hj a hp => by
        obtain ⟨hp1, hp2⟩ := hp
        have hrd := rd_ch (l.drop (i + 1)) j hj
        have hcv := hv l[i] (List.getElem_mem hi)
        have hdv := hv (l.drop (i + 1))[j] (List.mem_of_mem_drop (List.getElem_mem hj))
        by_cases hc : crB l[i] (l.drop (i + 1))[j] = true
        · refine ⟨a + 1, ⟨by omega, by omega⟩, by rw [cnt_pos _ hc]; omega, fun r hr2 => ?_⟩
          refine Ev.step (fun k => by rw [spec_srCount.l1]) ?_
          refine Ev.pos (by omega) (Ev.pos (by omega) (Ev.pos (by omega) ?_))
          rw [hrd]
          refine Ev.bindc (srCross_eq _ _ hcv hdv) (Ev.pos hc ?_)
          rw [w64 (x := (j : Int) + 1) (by omega) (by omega), w64 (x := a + 1) (by omega) (by omega)]
          exact hr2
        · refine ⟨a, ⟨by omega, by omega⟩, by rw [cnt_neg _ hc], fun r hr2 => ?_⟩
          refine Ev.step (fun k => by rw [spec_srCount.l1]) ?_
          refine Ev.pos (by omega) (Ev.pos (by omega) (Ev.pos (by omega) ?_))
          rw [hrd]
          refine Ev.bindc (srCross_eq _ _ hcv hdv) (Ev.neg hc ?_)
          rw [w64 (x := (j : Int) + 1) (by omega) (by omega)]
          exact hr2)
      (l.drop (i + 1)).length 0 acc r (by omega) ⟨by omega, by omega⟩ (by simpa using hr)
    simpa using e
  have e := Ev.scan0 (fun k i (acc : Int) => spec_srCount.l0 k l acc l (l.length : Int) i) l (fun rest acc => acc + (pairsN rest : Int)) (fun i acc => 0 ≤ acc ∧ acc ≤ i * 1000)
    (fun acc hp => by
      refine Ev.step (fun k => by rw [spec_srCount.l0]) ?_
      exact Ev.neg (by omega) (Ev.val (by simp [pairsN])))
    (fun i h acc hp => by
      have hr := rd_ch l i h
      have hcl := cnt_le l[i] (l.drop (i + 1))
      have hdl : (l.drop (i + 1)).length = l.length - (i + 1) := List.length_drop
      refine .inl ⟨acc + (cnt l[i] (l.drop (i + 1)) : Int), ⟨by omega, by omega⟩, by rw [pairsN]; omega, fun r hr2 => ?_⟩
      refine Ev.step (fun k => by rw [spec_srCount.l0]) ?_
      rw [w64 (x := (i : Int) + 1) (by omega) (by omega), show ((i : Int) + 1).toNat = i + 1 by omega]
      refine Ev.pos (by omega) (Ev.pos (by omega) (Ev.pos (by omega) (Ev.pos (by omega) (Ev.pos (by omega) ?_))))
      rw [hr]
      exact inner i h r acc hp hr2)
    0 ⟨by omega, by omega⟩
  simpa using e
end Go.Proofs.Ytkgaljocaapobaa.M
namespace Go.Proofs.Ytkgaljocaapobaa.Pr
open Go.RowKit Go.Proofs.YtkgaljocaapobaaW.PrintWords Go.Proofs.YtkgaljocaapobaaW.PrintLast Go.Proofs.YtkgaljocaapobaaW.PrintMore
attribute [local go_sem] max2_int min2_int max_two min_two max_three min_three max_four min_four
def impl_divisor.l0 : Nat → Int → Int → Option (Int)
 | 0, _, _ => none
 | k + 1, x0, x1 => if x1 > 0 then (if x1 = 0 then (none) else (impl_divisor.l0 k x1 (Int.tmod x0 x1))) else (some x0)
def impl_divisor.f (k : Nat) (a0 : Int) (a1 : Int) : Option (Int) := impl_divisor.l0 k a0 a1
theorem impl_divisor.mono_l : ∀ k, (∀ y0 y1, LeO (impl_divisor.l0 k y0 y1) (impl_divisor.l0 (k + 1) y0 y1))
 | 0 => fun _ _ r h => by simp [impl_divisor.l0] at h
 | k + 1 => by
  have ih0 := impl_divisor.mono_l k
  ·intro y0 y1
   unfold impl_divisor.l0
   repeat' first
   | (with_reducible exact ih0 _ _)
   | (with_reducible exact LeO.refl _)
   | (with_reducible exact LeO.none _)
   | (with_reducible refine LeO.ite ?_ ?_)
   | (with_reducible refine LeO.bind ?_ (fun _ => ?_))
   | exact ih0 _ _
   | exact LeO.none _
   | refine LeO.ite ?_ ?_
   | refine LeO.bind ?_ (fun _ => ?_)
theorem impl_divisor.mono : ∀ a0 a1 k, LeO (impl_divisor.f k a0 a1) (impl_divisor.f (k + 1) a0 a1) := by
 intro a0 a1 k
 have ih0 := impl_divisor.mono_l k
 unfold impl_divisor.f
 repeat' first
   | (with_reducible exact ih0 _ _)
   | (with_reducible exact LeO.refl _)
   | (with_reducible exact LeO.none _)
   | (with_reducible refine LeO.ite ?_ ?_)
   | (with_reducible refine LeO.bind ?_ (fun _ => ?_))
   | exact ih0 _ _
   | exact LeO.none _
   | refine LeO.ite ?_ ?_
   | refine LeO.bind ?_ (fun _ => ?_)
set_option maxHeartbeats 8000000 in
set_option maxRecDepth 100000 in
theorem impl_divisor.calls (k : Nat) (a0 : Int) (a1 : Int) (r : Int) (w : World) (h : impl_divisor.f k a0 a1 = some r) :
  Calls Try.prog 84 #[.int .i64 a0, .int .i64 a1] w fun e w' => e = .returned (.int .i64 r) ∧ Drawn0 w w' := by
 have H : (impl_divisor.l0 k a0 a1) = some r := h
 clear h
 have H' := Aside0.mk H
 clear H
 go_enter Try.func84, Try.ntmps84
 go_wp2
 repeat (go_quiet (fail); try go_wp2)
 go_loopg [0, 1] k (fun kq v0 v1 w' => ∃ (x0_1 : Int) (x1_1 : Int), v0 = .int .i64 x0_1 ∧ v1 = .int .i64 x1_1 ∧ Aside0 (impl_divisor.l0 kq x0_1 x1_1 = some r) ∧ Aside0 (kq ≤ k) ∧ Drawn0 w w')
 case atStart => exact ⟨(a0), (a1), (by first | rfl | (simp; done) | (simp [*]; done)), (by first | rfl | (simp; done) | (simp [*]; done)), H', ⟨Nat.le_refl _⟩, by repeat (first | exact Drawn0.refl _ | apply Drawn0.step)⟩
 case round =>
  clear H'
  try clear p2
  obtain ⟨x0_1, x1_1, rfl, rfl, HA, HK1, ⟨m1, rfl⟩⟩ := hrel
  cases gk with
  | zero => exact absurd HA.out (by simp [impl_divisor.l0])
  | succ k1 =>
   have H := HA.out
   clear HA
   simp only [impl_divisor.l0] at H
   by_cases c3 : x1_1 > 0
   ·rw [if_pos c3] at H
    have c3b0 : decide (0 < x1_1) = true := decide_eq_true c3
    clear c3
    by_cases c4 : x1_1 = 0
    ·rw [if_pos c4] at H
     exact absurd H (by simp)
    ·rw [if_neg c4] at H
     have c4b0 : (x1_1 == 0) = false := beq_eq_false_iff_ne.mpr c4
     have c4b1 : (x1_1 != 0) = true := bne_iff_ne.mpr c4
     have H' := Aside0.mk H
     clear H
     go_wp2
     repeat (go_quiet (fail); try go_wp2)
     go_roundg k1
     case measure => have := HK1.out; omega
     case rel => exact ⟨(x1_1), (Int.tmod x0_1 x1_1), (by first | rfl | (simp; done) | (simp [*]; done)), (by first | rfl | (simp; done) | (simp [*]; done)), H', ⟨by have := HK1.out; omega⟩, by repeat (first | exact Drawn0.refl _ | apply Drawn0.step)⟩
   ·rw [if_neg c3] at H
    have c3b0 : decide (0 < x1_1) = false := decide_eq_false c3
    clear c3
    obtain rfl := oI H
    go_wp2
    repeat (go_quiet (fail); try go_wp2)
    go_ret
    exact ⟨by first | rfl | (simp; done) | (simp [*]; done), by repeat (first | exact Drawn0.refl _ | apply Drawn0.step)⟩
def impl_Star_strings.f (k : Nat) (a0_0 : Int) (a0_1 : Int) : Option (Int) := (impl_divisor.f k a0_0 a0_1).bind fun t114 => (some t114)
theorem impl_Star_strings.mono : ∀ a0 a1 k, LeO (impl_Star_strings.f k a0 a1) (impl_Star_strings.f (k + 1) a0 a1) := by
 intro a0 a1 k
 unfold impl_Star_strings.f
 repeat' first
   | (with_reducible exact impl_divisor.mono _ _ _)
   | (with_reducible exact LeO.refl _)
   | (with_reducible exact LeO.none _)
   | (with_reducible refine LeO.ite ?_ ?_)
   | (with_reducible refine LeO.bind ?_ (fun _ => ?_))
   | exact impl_divisor.mono _ _ _
   | exact LeO.none _
   | refine LeO.ite ?_ ?_
   | refine LeO.bind ?_ (fun _ => ?_)
set_option maxHeartbeats 8000000 in
set_option maxRecDepth 100000 in
theorem impl_Star_strings.calls (k : Nat) (a0_0 : Int) (a0_1 : Int) (r : Int) (w : World) (h : impl_Star_strings.f k a0_0 a0_1 = some r) :
  Calls Try.prog 78 #[.agg #[.int .i64 a0_0, .int .i64 a0_1]] w fun e w' => e = .returned (.int .i64 r) ∧ Below w.heap.size w w' := by
 have hu37 := Try.underlying37
 have HB := Aside0.mk (Below.refl w.heap.size w)
 have H : ((impl_divisor.f k a0_0 a0_1).bind fun t114 => (some t114)) = some r := h
 clear h
 replace H := bI H
 obtain ⟨t114, A20, H⟩ := H
 replace H : (some t114) = some r := H
 have A2 := Aside0.mk A20
 clear A20
 obtain rfl := oI H
 go_enter Try.func78, Try.ntmps78
 go_wp2_with (first | ((with_reducible refine gate_dst (N := 1) rfl ?_); refine box_event ?hg (N := 1) ?hd (cs := #[.int .i64 a0_0, .int .i64 a0_1]) (t := 37) ?hr ?_; (case hd => rfl); (case hg => rfl); (case hr => first | (go_simp; done) | (go_simp; rfl)); intro gb113 hg w3 hbox hb; have n0_ := Aside0.mk (below_step hb_ hb); have n1_ := Aside0.mk (hbox); have n2_ := Aside0.mk ((by rw [hg]; exact (below_size hb_) : w.heap.size ≤ gb113)); have n3_ := Aside0.mk ((by rw [hg]; exact (below_size hb_) : w.heap.size ≤ gb113)); clear HB; have HB := n0_; have BK113 := n1_; have GW113 := n2_; have GE113 := n3_; clear n0_ n1_ n2_ n3_; clear hb hbox hg; have hcz4_0 : w3.cell? ⟨gb113, 0, none⟩ = some (.int .i64 a0_0) := (blk_cell BK113.out 0).trans rfl; have hcz4_1 : w3.cell? ⟨gb113, 1, none⟩ = some (.int .i64 a0_1) := (blk_cell BK113.out 1).trans rfl; have hfz4_0 := blk_frozen BK113.out 0; have hfz4_1 := blk_frozen BK113.out 1) | ((with_reducible refine gate_callee (f := 84) rfl ?_); refine goesL_ (some 7) rfl rfl Try.func84 (by kernel_rfl) rfl #[.int .i64 a0_0, .int .i64 a0_1] rfl ar_ ?_; (with_reducible refine (impl_divisor.calls k a0_0 a0_1 t114 _ A2.out).mono ?_); rintro e w' ⟨rfl, ⟨nd, rfl⟩⟩; refine ⟨_, rfl, ?_⟩))
 go_ret
 exact ⟨by first | rfl | (simp [errW_none, errW_some] <;> rfl) | (simp [*, errW_none, errW_some] <;> rfl), hs_ GE113.out⟩
def impl_told.f (k : Nat) (a0 : Int) (a1_0 : Int) (a1_1 : Int) : Option (Int) := if a0 = 0 then (some a1_0) else (if a0 = 1 then ((impl_Star_strings.f k a1_0 a1_1).bind fun t169 => (some t169)) else (if a0 = 2 then ((impl_Star_strings.f k a1_0 a1_1).bind fun t170 => (if t170 = 0 then (none) else (some (wrap64 (Int.tdiv a1_1 t170))))) else (if a0 = 3 then ((impl_Star_chords.f k a1_0 a1_1).bind fun t171 => ((impl_crossings.f k t171).bind fun t174 => (some t174))) else ((impl_Star_chords.f k a1_0 a1_1).bind fun t175 => (some (t175.length : Int))))))
theorem impl_told.mono : ∀ a0 a1 a2 k, LeO (impl_told.f k a0 a1 a2) (impl_told.f (k + 1) a0 a1 a2) := by
 intro a0 a1 a2 k
 unfold impl_told.f
 repeat' first
   | (with_reducible exact impl_Star_chords.mono _ _ _)
   | (with_reducible exact impl_Star_strings.mono _ _ _)
   | (with_reducible exact impl_crossings.mono _ _)
   | (with_reducible exact LeO.refl _)
   | (with_reducible exact LeO.none _)
   | (with_reducible refine LeO.ite ?_ ?_)
   | (with_reducible refine LeO.bind ?_ (fun _ => ?_))
   | exact impl_Star_chords.mono _ _ _
   | exact impl_Star_strings.mono _ _ _
   | exact impl_crossings.mono _ _
   | exact LeO.none _
   | refine LeO.ite ?_ ?_
   | refine LeO.bind ?_ (fun _ => ?_)
set_option maxHeartbeats 8000000 in
set_option maxRecDepth 100000 in
theorem impl_told.calls (k : Nat) (a0 : Int) (a1_0 : Int) (a1_1 : Int) (r : Int) (w : World) (h : impl_told.f k a0 a1_0 a1_1 = some r) :
  Calls Try.prog 74 #[.int .i64 a0, .agg #[.int .i64 a1_0, .int .i64 a1_1]] w fun e w' => e = .returned (.int .i64 r) ∧ Below w.heap.size w w' := by
 have hu37 := Try.underlying37
 have HB := Aside0.mk (Below.refl w.heap.size w)
 have H : (if a0 = 0 then (some a1_0) else (if a0 = 1 then ((impl_Star_strings.f k a1_0 a1_1).bind fun t169 => (some t169)) else (if a0 = 2 then ((impl_Star_strings.f k a1_0 a1_1).bind fun t170 => (if t170 = 0 then (none) else (some (wrap64 (Int.tdiv a1_1 t170))))) else (if a0 = 3 then ((impl_Star_chords.f k a1_0 a1_1).bind fun t171 => ((impl_crossings.f k t171).bind fun t174 => (some t174))) else ((impl_Star_chords.f k a1_0 a1_1).bind fun t175 => (some (t175.length : Int))))))) = some r := h
 clear h
 by_cases c3 : a0 = 0
 ·rw [if_pos c3] at H
  have c3b0 : (a0 == 0) = true := beq_iff_eq.mpr c3
  have c3b1 : (a0 != 0) = false := bne_eq_false_iff_eq.mpr c3
  clear c3
  obtain rfl := oI H
  go_enter Try.func74, Try.ntmps74
  go_wp2_with (first | ((with_reducible refine gate_dst (N := 3) rfl ?_); refine box_event ?hg (N := 3) ?hd (cs := #[.int .i64 a1_0, .int .i64 a1_1]) (t := 37) ?hr ?_; (case hd => rfl); (case hg => rfl); (case hr => first | (go_simp; done) | (go_simp; rfl)); intro gb168 hg w4 hbox hb; have n0_ := Aside0.mk (below_step hb_ hb); have n1_ := Aside0.mk (hbox); have n2_ := Aside0.mk ((by rw [hg]; exact (below_size hb_) : w.heap.size ≤ gb168)); have n3_ := Aside0.mk ((by rw [hg]; exact (below_size hb_) : w.heap.size ≤ gb168)); clear HB; have HB := n0_; have BK168 := n1_; have GW168 := n2_; have GE168 := n3_; clear n0_ n1_ n2_ n3_; clear hb hbox hg; have hcz5_0 : w4.cell? ⟨gb168, 0, none⟩ = some (.int .i64 a1_0) := (blk_cell BK168.out 0).trans rfl; have hcz5_1 : w4.cell? ⟨gb168, 1, none⟩ = some (.int .i64 a1_1) := (blk_cell BK168.out 1).trans rfl; have hfz5_0 := blk_frozen BK168.out 0; have hfz5_1 := blk_frozen BK168.out 1))
  go_ret
  exact ⟨by first | rfl | (simp [errW_none, errW_some] <;> rfl) | (simp [*, errW_none, errW_some] <;> rfl), hs_ GE168.out⟩
 ·rw [if_neg c3] at H
  have c3b0 : (a0 == 0) = false := beq_eq_false_iff_ne.mpr c3
  have c3b1 : (a0 != 0) = true := bne_iff_ne.mpr c3
  by_cases c6 : a0 = 1
  ·rw [if_pos c6] at H
   have c6b0 : (a0 == 1) = true := beq_iff_eq.mpr c6
   have c6b1 : (a0 != 1) = false := bne_eq_false_iff_eq.mpr c6
   clear c6
   replace H := bI H
   obtain ⟨t169, A70, H⟩ := H
   replace H : (some t169) = some r := H
   have A7 := Aside0.mk A70
   clear A70
   obtain rfl := oI H
   go_enter Try.func74, Try.ntmps74
   go_wp2_with (first | ((with_reducible refine gate_dst (N := 3) rfl ?_); refine box_event ?hg (N := 3) ?hd (cs := #[.int .i64 a1_0, .int .i64 a1_1]) (t := 37) ?hr ?_; (case hd => rfl); (case hg => rfl); (case hr => first | (go_simp; done) | (go_simp; rfl)); intro gb168 hg w8 hbox hb; have n0_ := Aside0.mk (below_step hb_ hb); have n1_ := Aside0.mk (hbox); have n2_ := Aside0.mk ((by rw [hg]; exact (below_size hb_) : w.heap.size ≤ gb168)); have n3_ := Aside0.mk ((by rw [hg]; exact (below_size hb_) : w.heap.size ≤ gb168)); clear HB; have HB := n0_; have BK168 := n1_; have GW168 := n2_; have GE168 := n3_; clear n0_ n1_ n2_ n3_; clear hb hbox hg; have hcz9_0 : w8.cell? ⟨gb168, 0, none⟩ = some (.int .i64 a1_0) := (blk_cell BK168.out 0).trans rfl; have hcz9_1 : w8.cell? ⟨gb168, 1, none⟩ = some (.int .i64 a1_1) := (blk_cell BK168.out 1).trans rfl; have hfz9_0 := blk_frozen BK168.out 0; have hfz9_1 := blk_frozen BK168.out 1) | ((with_reducible refine gate_callee (f := 78) rfl ?_); refine goesL_ (some 13) rfl rfl Try.func78 (by kernel_rfl) rfl #[.agg #[.int .i64 a1_0, .int .i64 a1_1]] rfl ar_ ?_; (with_reducible refine (impl_Star_strings.calls k a1_0 a1_1 t169 _ A7.out).mono ?_); rintro e w10 ⟨rfl, hb⟩; refine ⟨_, rfl, ?_⟩; have n0_ := Aside0.mk (blk_below (g := gb168) (o := .cells #[.int .i64 a1_0, .int .i64 a1_1] 37 (0, 0)) (kx_ BK168.out) hb); have n1_ := Aside0.mk (below_step (hs_ GE168.out) hb); clear BK168; clear HB; have BK168 := n0_; have HB := n1_; clear n0_ n1_; (try clear hb); (try clear hb2); (try clear hk); (try clear hi)))
   go_ret
   exact ⟨by first | rfl | (simp [errW_none, errW_some] <;> rfl) | (simp [*, errW_none, errW_some] <;> rfl), hs_ GE168.out⟩
  ·rw [if_neg c6] at H
   have c6b0 : (a0 == 1) = false := beq_eq_false_iff_ne.mpr c6
   have c6b1 : (a0 != 1) = true := bne_iff_ne.mpr c6
   by_cases c11 : a0 = 2
   ·rw [if_pos c11] at H
    have c11b0 : (a0 == 2) = true := beq_iff_eq.mpr c11
    have c11b1 : (a0 != 2) = false := bne_eq_false_iff_eq.mpr c11
    clear c11
    replace H := bI H
    obtain ⟨t170, A120, H⟩ := H
    replace H : (if t170 = 0 then (none) else (some (wrap64 (Int.tdiv a1_1 t170)))) = some r := H
    have A12 := Aside0.mk A120
    clear A120
    by_cases c13 : t170 = 0
    ·rw [if_pos c13] at H
     exact absurd H (by simp)
    ·rw [if_neg c13] at H
     have c13b0 : (t170 == 0) = false := beq_eq_false_iff_ne.mpr c13
     have c13b1 : (t170 != 0) = true := bne_iff_ne.mpr c13
     obtain rfl := oI H
     go_enter Try.func74, Try.ntmps74
     try go_wp2_with (first | ((with_reducible refine gate_dst (N := 3) rfl ?_); refine box_event ?hg (N := 3) ?hd (cs := #[.int .i64 a1_0, .int .i64 a1_1]) (t := 37) ?hr ?_; (case hd => rfl); (case hg => rfl); (case hr => first | (go_simp; done) | (go_simp; rfl)); intro gb168 hg w14 hbox hb; have n0_ := Aside0.mk (below_step hb_ hb); have n1_ := Aside0.mk (hbox); have n2_ := Aside0.mk ((by rw [hg]; exact (below_size hb_) : w.heap.size ≤ gb168)); have n3_ := Aside0.mk ((by rw [hg]; exact (below_size hb_) : w.heap.size ≤ gb168)); clear HB; have HB := n0_; have BK168 := n1_; have GW168 := n2_; have GE168 := n3_; clear n0_ n1_ n2_ n3_; clear hb hbox hg))
     have n0_ := Aside0.mk (blk_drew BK168.out)
     have n1_ := Aside0.mk (below_drew1 HB.out)
     clear BK168
     clear HB
     have BK168 := n0_
     have HB := n1_
     clear n0_ n1_
     refine start_ (n := 6) (S := fun w' => w'.cell? ⟨gb168, 0, none⟩ = some (.int .i64 a1_0) ∧ w'.cell? ⟨gb168, 1, none⟩ = some (.int .i64 a1_1)) (ds := []) #[false, false, false, false, false, false] (by kernel_rfl) rfl rfl ⟨(blk_cell BK168.out 0).trans rfl, (blk_cell BK168.out 1).trans rfl⟩ (fun hHeld => ?_)
     generalize w14.drew = w15 at BK168 HB hHeld ⊢
     refine pure_ (i := 0) (N := some 16) (v := ?_) (a' := ?_) #[true, false, false, false, false, false] rfl rfl (by kernel_rfl) (fun _ _ _ h => h) (Or.inl ⟨by rfl, ?_⟩) ?_ ?_
     rotate_left
     ·intro w'
      go_simp
      with_reducible rfl
     rotate_left
     ·simp only [Act.put, sT, sZ, sS, i64_w, i32_w]
      rfl
     refine take_ (i := 1) (N := some 17) (v := ?_) (a' := ?_) #[true, true, false, false, false, false] rfl rfl (by kernel_rfl) (fun _ _ _ h => h) (Or.inl ⟨by rfl, ?_⟩) hHeld ?_ ?_
     rotate_left
     ·rintro w' ⟨s0, s1⟩
      go_simp
      with_reducible rfl
     rotate_left
     ·simp only [Act.put, sT, sZ, sS, i64_w, i32_w]
      rfl
     refine take_ (i := 2) (N := some 18) (v := ?_) (a' := ?_) #[true, true, true, false, false, false] rfl rfl (by kernel_rfl) (fun _ _ _ h => h) (Or.inl ⟨by rfl, ?_⟩) hHeld ?_ ?_
     rotate_left
     ·rintro w' ⟨s0, s1⟩
      go_simp
      with_reducible rfl
     rotate_left
     ·simp only [Act.put, sT, sZ, sS, i64_w, i32_w]
      rfl
     refine one_ (i := 3) (N := some 19) #[true, true, true, true, false, false] rfl rfl (by kernel_rfl) (by decide) (fun K hK => ?_)
     refine goes_ Try.func78 (by kernel_rfl) rfl #[.agg #[.int .i64 a1_0, .int .i64 a1_1]] (by rfl) rfl rfl ar_ ?_
     with_reducible refine (impl_Star_strings.calls k a1_0 a1_1 t170 _ A12.out).mono ?_
     rintro e w16 ⟨rfl, hb⟩
     refine ⟨_, rfl, ?_⟩
     have n0_ := Aside0.mk (blk_below (g := gb168) (o := .cells #[.int .i64 a1_0, .int .i64 a1_1] 37 (0, 0)) (kx_ BK168.out) hb)
     have n1_ := Aside0.mk (below_step (hs_ GE168.out) hb)
     clear BK168
     clear HB
     have BK168 := n0_
     have HB := n1_
     clear n0_ n1_
     (try clear hb)
     (try clear hb2)
     (try clear hk)
     (try clear hi)
     refine hK.out _ _ ⟨(blk_cell BK168.out 0).trans rfl, (blk_cell BK168.out 1).trans rfl⟩ (fun hHeld => ?_)
     clear hK K
     refine norm_ (a' := ?_) ?_ ?_
     rotate_left
     ·show Act.put _ (some 19) _ = _
      simp only [Act.put, sT, sZ, sS, i64_w, i32_w]
      rfl
     refine pure_ (i := 4) (N := some 20) (v := ?_) (a' := ?_) #[true, true, true, true, true, false] rfl rfl (by kernel_rfl) (fun _ _ _ h => h) (Or.inl ⟨by rfl, ?_⟩) ?_ ?_
     rotate_left
     ·intro w'
      go_simp
      with_reducible rfl
     rotate_left
     ·simp only [Act.put, sT, sZ, sS, i64_w, i32_w]
      rfl
     refine pure_ (i := 5) (N := some 4) (v := ?_) (a' := ?_) #[true, true, true, true, true, true] rfl rfl (by kernel_rfl) (fun _ _ _ h => h) (Or.inl ⟨by rfl, ?_⟩) ?_ ?_
     rotate_left
     ·intro w'
      go_simp
      with_reducible rfl
     rotate_left
     ·simp only [Act.put, sT, sZ, sS, i64_w, i32_w]
      rfl
     refine done_ (by kernel_rfl) ?_
     try go_wp2
     go_ret
     exact ⟨by first | rfl | (simp [errW_none, errW_some] <;> rfl) | (simp [*, errW_none, errW_some] <;> rfl), hs_ GE168.out⟩
   ·rw [if_neg c11] at H
    have c11b0 : (a0 == 2) = false := beq_eq_false_iff_ne.mpr c11
    have c11b1 : (a0 != 2) = true := bne_iff_ne.mpr c11
    by_cases c17 : a0 = 3
    ·rw [if_pos c17] at H
     have c17b0 : (a0 == 3) = true := beq_iff_eq.mpr c17
     have c17b1 : (a0 != 3) = false := bne_eq_false_iff_eq.mpr c17
     clear c17
     replace H := bI H
     obtain ⟨t171, A180, H⟩ := H
     replace H : ((impl_crossings.f k t171).bind fun t174 => (some t174)) = some r := H
     have A18 := Aside0.mk A180
     clear A180
     replace H := bI H
     obtain ⟨t174, A190, H⟩ := H
     replace H : (some t174) = some r := H
     have A19 := Aside0.mk A190
     clear A190
     obtain rfl := oI H
     go_enter Try.func74, Try.ntmps74
     go_wp2_with (first | ((with_reducible refine gate_dst (N := 3) rfl ?_); refine box_event ?hg (N := 3) ?hd (cs := #[.int .i64 a1_0, .int .i64 a1_1]) (t := 37) ?hr ?_; (case hd => rfl); (case hg => rfl); (case hr => first | (go_simp; done) | (go_simp; rfl)); intro gb168 hg w20 hbox hb; have n0_ := Aside0.mk (below_step hb_ hb); have n1_ := Aside0.mk (hbox); have n2_ := Aside0.mk ((by rw [hg]; exact (below_size hb_) : w.heap.size ≤ gb168)); have n3_ := Aside0.mk ((by rw [hg]; exact (below_size hb_) : w.heap.size ≤ gb168)); clear HB; have HB := n0_; have BK168 := n1_; have GW168 := n2_; have GE168 := n3_; clear n0_ n1_ n2_ n3_; clear hb hbox hg; have hcz21_0 : w20.cell? ⟨gb168, 0, none⟩ = some (.int .i64 a1_0) := (blk_cell BK168.out 0).trans rfl; have hcz21_1 : w20.cell? ⟨gb168, 1, none⟩ = some (.int .i64 a1_1) := (blk_cell BK168.out 1).trans rfl; have hfz21_0 := blk_frozen BK168.out 0; have hfz21_1 := blk_frozen BK168.out 1) | ((with_reducible refine gate_callee (f := 80) rfl ?_); refine goesL_ (some 24) rfl rfl Try.func80 (by kernel_rfl) rfl #[.agg #[.int .i64 a1_0, .int .i64 a1_1]] rfl ar_ ?_; (with_reducible refine (impl_Star_chords.calls k a1_0 a1_1 t171 _ A18.out).mono ?_); rintro e w22 ⟨v172, rfl, ho0, hb⟩; refine ⟨_, rfl, ?_⟩; have n0_ := Aside0.mk (Kd.R_lower ho0 (below_size (hs_ GE168.out))); have n1_ := Aside0.mk (blk_below (g := gb168) (o := .cells #[.int .i64 a1_0, .int .i64 a1_1] 37 (0, 0)) (kx_ BK168.out) hb); have n2_ := Aside0.mk (below_step (hs_ GE168.out) hb); clear BK168; clear HB; have HO173 := n0_; have BK168 := n1_; have HB := n2_; clear n0_ n1_ n2_; (try clear hb); (try clear hb2); (try clear hk); (try clear hi); (try clear ho0); obtain ⟨Ao23, co23, eo23⟩ := Kd.R_slice HO173.out; subst eo23) | ((with_reducible refine gate_callee (f := 79) rfl ?_); refine goesL_ (some 25) rfl rfl Try.func79 (by kernel_rfl) rfl #[.slice Ao23 t171.length co23] rfl ar_ ?_; (with_reducible refine (impl_crossings.calls k _ _ t171 t174 _ ?side1 ?side2 A19.out).mono ?_); (case side1 => repeat (first | exact (Kd.R_reads' HO173.out).2.2 | (with_reducible refine Kd.C_alloc ?_ _) | (with_reducible refine Kd.C_drewN ?_ _) | (with_reducible refine Kd.C_drew ?_))); (case side2 => exact (Kd.R_reads' HO173.out).2.1); rintro e w24 ⟨rfl, hb⟩; refine ⟨_, rfl, ?_⟩; have n0_ := Aside0.mk (Kd.R_below (by (with_reducible repeat (first | apply rA | apply rN | apply rD)); exact HO173.out) hb); have n1_ := Aside0.mk (blk_below (g := gb168) (o := .cells #[.int .i64 a1_0, .int .i64 a1_1] 37 (0, 0)) (kx_ BK168.out) hb); have n2_ := Aside0.mk (below_step (hs_ GE168.out) hb); clear HO173; clear BK168; clear HB; have HO173 := n0_; have BK168 := n1_; have HB := n2_; clear n0_ n1_ n2_; (try clear hb); (try clear hb2); (try clear hk); (try clear hi)))
     go_ret
     exact ⟨by first | rfl | (simp [errW_none, errW_some] <;> rfl) | (simp [*, errW_none, errW_some] <;> rfl), hs_ GE168.out⟩
    ·rw [if_neg c17] at H
     have c17b0 : (a0 == 3) = false := beq_eq_false_iff_ne.mpr c17
     have c17b1 : (a0 != 3) = true := bne_iff_ne.mpr c17
     replace H := bI H
     obtain ⟨t175, A250, H⟩ := H
     replace H : (some (t175.length : Int)) = some r := H
     have A25 := Aside0.mk A250
     clear A250
     obtain rfl := oI H
     go_enter Try.func74, Try.ntmps74
     go_wp2_with (first | ((with_reducible refine gate_dst (N := 3) rfl ?_); refine box_event ?hg (N := 3) ?hd (cs := #[.int .i64 a1_0, .int .i64 a1_1]) (t := 37) ?hr ?_; (case hd => rfl); (case hg => rfl); (case hr => first | (go_simp; done) | (go_simp; rfl)); intro gb168 hg w26 hbox hb; have n0_ := Aside0.mk (below_step hb_ hb); have n1_ := Aside0.mk (hbox); have n2_ := Aside0.mk ((by rw [hg]; exact (below_size hb_) : w.heap.size ≤ gb168)); have n3_ := Aside0.mk ((by rw [hg]; exact (below_size hb_) : w.heap.size ≤ gb168)); clear HB; have HB := n0_; have BK168 := n1_; have GW168 := n2_; have GE168 := n3_; clear n0_ n1_ n2_ n3_; clear hb hbox hg; have hcz27_0 : w26.cell? ⟨gb168, 0, none⟩ = some (.int .i64 a1_0) := (blk_cell BK168.out 0).trans rfl; have hcz27_1 : w26.cell? ⟨gb168, 1, none⟩ = some (.int .i64 a1_1) := (blk_cell BK168.out 1).trans rfl; have hfz27_0 := blk_frozen BK168.out 0; have hfz27_1 := blk_frozen BK168.out 1) | ((with_reducible refine gate_callee (f := 80) rfl ?_); refine goesL_ (some 27) rfl rfl Try.func80 (by kernel_rfl) rfl #[.agg #[.int .i64 a1_0, .int .i64 a1_1]] rfl ar_ ?_; (with_reducible refine (impl_Star_chords.calls k a1_0 a1_1 t175 _ A25.out).mono ?_); rintro e w28 ⟨v176, rfl, ho0, hb⟩; refine ⟨_, rfl, ?_⟩; have n0_ := Aside0.mk (Kd.R_lower ho0 (below_size (hs_ GE168.out))); have n1_ := Aside0.mk (blk_below (g := gb168) (o := .cells #[.int .i64 a1_0, .int .i64 a1_1] 37 (0, 0)) (kx_ BK168.out) hb); have n2_ := Aside0.mk (below_step (hs_ GE168.out) hb); clear BK168; clear HB; have HO177 := n0_; have BK168 := n1_; have HB := n2_; clear n0_ n1_ n2_; (try clear hb); (try clear hb2); (try clear hk); (try clear hi); (try clear ho0); obtain ⟨Ao29, co29, eo29⟩ := Kd.R_slice HO177.out; subst eo29))
     go_ret
     exact ⟨by first | rfl | (simp [errW_none, errW_some] <;> rfl) | (simp [*, errW_none, errW_some] <;> rfl), hs_ GE168.out⟩
def impl_fits.f (k : Nat) (a0_0 : Int) (a0_1 : Int) (a0_2 : Int) (a1_0 : Int) (a1_1 : Int) : Option (Bool) := if a0_0 = 4 then (if a0_1 < a1_0 then (if a1_0 = 0 then (none) else (some ((Int.tmod (wrap64 (a0_1 + a1_1)) a1_0) == a0_2))) else (some false)) else ((impl_told.f k a0_0 a1_0 a1_1).bind fun t180 => (some (t180 == a0_1)))
theorem impl_fits.mono : ∀ a0 a1 a2 a3 a4 k, LeO (impl_fits.f k a0 a1 a2 a3 a4) (impl_fits.f (k + 1) a0 a1 a2 a3 a4) := by
 intro a0 a1 a2 a3 a4 k
 unfold impl_fits.f
 repeat' first
   | (with_reducible exact impl_told.mono _ _ _ _)
   | (with_reducible exact LeO.refl _)
   | (with_reducible exact LeO.none _)
   | (with_reducible refine LeO.ite ?_ ?_)
   | (with_reducible refine LeO.bind ?_ (fun _ => ?_))
   | exact impl_told.mono _ _ _ _
   | exact LeO.none _
   | refine LeO.ite ?_ ?_
   | refine LeO.bind ?_ (fun _ => ?_)
def impl_fits.T2 : Bool × List (List Nat × List Nat) := (true, [([], []), ([0], [0]), ([], []), ([2], [2]), ([1, 3], [1, 3]), ([4], [4]), ([5], [5]), ([6, 5], [5, 6]), ([5], [5]), ([8, 5], [5, 8]), ([7, 9, 5], [5, 7, 9]), ([5], [5]), ([11, 5], [5, 11]), ([10, 12, 5], [5, 10, 12]), ([5], [5]), ([14, 5], [5, 14]), ([13, 15, 5], [5, 13, 15]), ([5, 16], [5, 16]), ([17, 5, 0, 1, 2, 3, 4, 5, 6, 7, 8, 9, 10, 11, 12, 13, 14, 15, 16, 17], [17])])
def impl_fits.B2 : List Nat := [0, 1, 0, 4, 15, 31, 63, 127, 63, 319, 1023, 63, 2111, 8191, 63, 16447, 65535, 131071, 262143]
theorem impl_fits.tab2 : rtab .any (opsOf Try.f68 2) = impl_fits.T2 := by kernel_rfl
theorem impl_fits.bits2 : waitsOk impl_fits.T2.2 impl_fits.B2 = true := by kernel_rfl
def impl_fits.T3 : Bool × List (List Nat × List Nat) := (true, [([], []), ([0], [0]), ([], []), ([1, 2], [1, 2]), ([], []), ([4], [4]), ([3, 5], [3, 5]), ([6, 3, 0, 1, 2, 3, 4, 5, 6], [6])])
def impl_fits.B3 : List Nat := [0, 1, 0, 7, 0, 16, 63, 127]
theorem impl_fits.tab3 : rtab .any (opsOf Try.f68 3) = impl_fits.T3 := by kernel_rfl
theorem impl_fits.bits3 : waitsOk impl_fits.T3.2 impl_fits.B3 = true := by kernel_rfl
set_option maxHeartbeats 8000000 in
set_option maxRecDepth 100000 in
theorem impl_fits.calls (k : Nat) (a0_0 : Int) (a0_1 : Int) (a0_2 : Int) (a1_0 : Int) (a1_1 : Int) (r : Bool) (w : World) (h : impl_fits.f k a0_0 a0_1 a0_2 a1_0 a1_1 = some r) :
  Calls Try.prog 68 #[.agg #[.int .i64 a0_0, .int .i64 a0_1, .int .i64 a0_2], .agg #[.int .i64 a1_0, .int .i64 a1_1]] w fun e w' => e = .returned (.bool r) ∧ Below w.heap.size w w' := by
 have hu67 := Try.underlying67
 have hu37 := Try.underlying37
 have HB := Aside0.mk (Below.refl w.heap.size w)
 have H : (if a0_0 = 4 then (if a0_1 < a1_0 then (if a1_0 = 0 then (none) else (some ((Int.tmod (wrap64 (a0_1 + a1_1)) a1_0) == a0_2))) else (some false)) else ((impl_told.f k a0_0 a1_0 a1_1).bind fun t180 => (some (t180 == a0_1)))) = some r := h
 clear h
 by_cases c3 : a0_0 = 4
 ·rw [if_pos c3] at H
  have c3b0 : (a0_0 == 4) = true := beq_iff_eq.mpr c3
  have c3b1 : (a0_0 != 4) = false := bne_eq_false_iff_eq.mpr c3
  clear c3
  by_cases c4 : a0_1 < a1_0
  ·rw [if_pos c4] at H
   have c4b0 : decide (a0_1 < a1_0) = true := decide_eq_true c4
   clear c4
   by_cases c5 : a1_0 = 0
   ·rw [if_pos c5] at H
    exact absurd H (by simp)
   ·rw [if_neg c5] at H
    have c5b0 : (a1_0 == 0) = false := beq_eq_false_iff_ne.mpr c5
    have c5b1 : (a1_0 != 0) = true := bne_iff_ne.mpr c5
    obtain rfl := oI H
    go_enter Try.func68, Try.ntmps68
    try go_wp2_with (first | ((with_reducible refine gate_dst (N := 2) rfl ?_); refine box_event ?hg (N := 2) ?hd (cs := #[.int .i64 a0_0, .int .i64 a0_1, .int .i64 a0_2]) (t := 67) ?hr ?_; (case hd => rfl); (case hg => rfl); (case hr => first | (go_simp; done) | (go_simp; rfl)); intro gb178 hg w6 hbox hb; have n0_ := Aside0.mk (below_step hb_ hb); have n1_ := Aside0.mk (hbox); have n2_ := Aside0.mk ((by rw [hg]; exact (below_size hb_) : w.heap.size ≤ gb178)); have n3_ := Aside0.mk ((by rw [hg]; exact (below_size hb_) : w.heap.size ≤ gb178)); clear HB; have HB := n0_; have BK178 := n1_; have GW178 := n2_; have GE178 := n3_; clear n0_ n1_ n2_ n3_; clear hb hbox hg) | ((with_reducible refine gate_dst (N := 3) rfl ?_); refine box_event ?hg (N := 3) ?hd (cs := #[.int .i64 a1_0, .int .i64 a1_1]) (t := 37) ?hr ?_; (case hd => rfl); (case hg => rfl); (case hr => first | (go_simp; done) | (go_simp; rfl)); intro gb179 hg w7 hbox hb; have n0_ := Aside0.mk (blk_below (g := gb178) (o := .cells #[.int .i64 a0_0, .int .i64 a0_1, .int .i64 a0_2] 67 (0, 0)) (kx_ BK178.out) hb); have n1_ := Aside0.mk (below_step (hs_ GE178.out) hb); have n2_ := Aside0.mk (hbox); have n3_ := Aside0.mk ((by rw [hg]; exact (below_size (hs_ GE178.out)) : w.heap.size ≤ gb179)); have n4_ := Aside0.mk ((by rw [hg]; exact (below_size (hs_ GE178.out)) : w.heap.size ≤ gb179)); have n5_ := Aside0.mk ((by rw [hg]; exact Nat.ne_of_lt (blk_lt (g := gb178) (o := .cells #[.int .i64 a0_0, .int .i64 a0_1, .int .i64 a0_2] 67 (0, 0)) (kx_ BK178.out)) : gb178 ≠ gb179)); have n6_ := Aside0.mk ((by rw [hg]; exact Nat.ne_of_gt (blk_lt (g := gb178) (o := .cells #[.int .i64 a0_0, .int .i64 a0_1, .int .i64 a0_2] 67 (0, 0)) (kx_ BK178.out)) : gb179 ≠ gb178)); clear BK178; clear HB; have BK178 := n0_; have HB := n1_; have BK179 := n2_; have GW179 := n3_; have GE179 := n4_; have NB178_179 := n5_; have NB179_178 := n6_; clear n0_ n1_ n2_ n3_ n4_ n5_ n6_; clear hb hbox hg; have hnb8 := NB178_179.out; have hnc8 := NB179_178.out; have hcz9_0 : w7.cell? ⟨gb178, 0, none⟩ = some (.int .i64 a0_0) := (blk_cell BK178.out 0).trans rfl; have hcz9_1 : w7.cell? ⟨gb178, 1, none⟩ = some (.int .i64 a0_1) := (blk_cell BK178.out 1).trans rfl; have hcz9_2 : w7.cell? ⟨gb178, 2, none⟩ = some (.int .i64 a0_2) := (blk_cell BK178.out 2).trans rfl; have hfz9_0 := blk_frozen BK178.out 0; have hfz9_1 := blk_frozen BK178.out 1; have hfz9_2 := blk_frozen BK178.out 2))
    have n0_ := Aside0.mk (blk_drew BK178.out)
    have n1_ := Aside0.mk (blk_drew BK179.out)
    have n2_ := Aside0.mk (below_drew1 HB.out)
    clear BK178
    clear BK179
    clear HB
    have BK178 := n0_
    have BK179 := n1_
    have HB := n2_
    clear n0_ n1_ n2_
    refine start_ (n := 19) (S := fun w' => w'.cell? ⟨gb178, 0, none⟩ = some (.int .i64 a0_0) ∧ w'.cell? ⟨gb178, 1, none⟩ = some (.int .i64 a0_1) ∧ w'.cell? ⟨gb178, 2, none⟩ = some (.int .i64 a0_2) ∧ w'.cell? ⟨gb179, 0, none⟩ = some (.int .i64 a1_0) ∧ w'.cell? ⟨gb179, 1, none⟩ = some (.int .i64 a1_1)) (ds := []) #[false, false, false, false, false, false, false, false, false, false, false, false, false, false, false, false, false, false, false] (by kernel_rfl) rfl rfl ⟨(blk_cell BK178.out 0).trans rfl, (blk_cell BK178.out 1).trans rfl, (blk_cell BK178.out 2).trans rfl, (blk_cell BK179.out 0).trans rfl, (blk_cell BK179.out 1).trans rfl⟩ (fun hHeld => ?_); refine with_tabW impl_fits.tab2 impl_fits.bits2 (fun HT_ HW_ => ?_)
    generalize w7.drew = w10 at BK178 BK179 HB hHeld ⊢
    refine pure_ (i := 0) (N := some 8) (v := ?_) (a' := ?_) #[true, false, false, false, false, false, false, false, false, false, false, false, false, false, false, false, false, false, false] rfl rfl (any_of HT_.out (by kernel_rfl)) (fun _ _ _ h => h) (Or.inl ⟨by rfl, ?_⟩) ?_ ?_
    rotate_left
    ·intro w'
     go_simp
     with_reducible rfl
    rotate_left
    ·simp only [Act.put, sT, sZ, sS, i64_w, i32_w]
     rfl
    refine pure_ (i := 2) (N := some 10) (v := ?_) (a' := ?_) #[true, false, true, false, false, false, false, false, false, false, false, false, false, false, false, false, false, false, false] rfl rfl (any_of HT_.out (by kernel_rfl)) (fun _ _ _ h => h) (Or.inl ⟨by rfl, ?_⟩) ?_ ?_
    rotate_left
    ·intro w'
     go_simp
     with_reducible rfl
    rotate_left
    ·simp only [Act.put, sT, sZ, sS, i64_w, i32_w]
     rfl
    refine take_ (i := 1) (N := some 9) (v := ?_) (a' := ?_) #[true, true, true, false, false, false, false, false, false, false, false, false, false, false, false, false, false, false, false] rfl rfl (take_ofW HT_.out HW_.out (by kernel_rfl)) (fun _ _ _ h => h) (Or.inl ⟨by rfl, ?_⟩) hHeld ?_ ?_
    rotate_left
    ·rintro w' ⟨s0, s1, s2, s3, s4⟩
     go_simp
     with_reducible rfl
    rotate_left
    ·simp only [Act.put, sT, sZ, sS, i64_w, i32_w]
     rfl
    refine take_ (i := 3) (N := some 11) (v := ?_) (a' := ?_) #[true, true, true, true, false, false, false, false, false, false, false, false, false, false, false, false, false, false, false] rfl rfl (take_ofW HT_.out HW_.out (by kernel_rfl)) (fun _ _ _ h => h) (Or.inl ⟨by rfl, ?_⟩) hHeld ?_ ?_
    rotate_left
    ·rintro w' ⟨s0, s1, s2, s3, s4⟩
     go_simp
     with_reducible rfl
    rotate_left
    ·simp only [Act.put, sT, sZ, sS, i64_w, i32_w]
     rfl
    refine pure_ (i := 4) (N := some 12) (v := ?_) (a' := ?_) #[true, true, true, true, true, false, false, false, false, false, false, false, false, false, false, false, false, false, false] rfl rfl (any_of HT_.out (by kernel_rfl)) (fun _ _ _ h => h) (Or.inl ⟨by rfl, ?_⟩) ?_ ?_
    rotate_left
    ·intro w'
     go_simp
     with_reducible rfl
    rotate_left
    ·simp only [Act.put, sT, sZ, sS, i64_w, i32_w]
     rfl
    refine pure_ (i := 5) (N := some 13) (v := ?_) (a' := ?_) #[true, true, true, true, true, true, false, false, false, false, false, false, false, false, false, false, false, false, false] rfl rfl (any_of HT_.out (by kernel_rfl)) (fun _ _ _ h => h) (Or.inl ⟨by rfl, ?_⟩) ?_ ?_
    rotate_left
    ·intro w'
     go_simp
     with_reducible rfl
    rotate_left
    ·simp only [Act.put, sT, sZ, sS, i64_w, i32_w]
     rfl
    refine pure_ (i := 6) (N := some 14) (v := ?_) (a' := ?_) #[true, true, true, true, true, true, true, false, false, false, false, false, false, false, false, false, false, false, false] rfl rfl (any_of HT_.out (by kernel_rfl)) (fun _ _ _ h => h) (Or.inl ⟨by rfl, ?_⟩) ?_ ?_
    rotate_left
    ·intro w'
     go_simp
     with_reducible rfl
    rotate_left
    ·simp only [Act.put, sT, sZ, sS, i64_w, i32_w]
     rfl
    refine pure_ (i := 8) (N := some 16) (v := ?_) (a' := ?_) #[true, true, true, true, true, true, true, false, true, false, false, false, false, false, false, false, false, false, false] rfl rfl (any_of HT_.out (by kernel_rfl)) (fun _ _ _ h => h) (Or.inl ⟨by rfl, ?_⟩) ?_ ?_
    rotate_left
    ·intro w'
     go_simp
     with_reducible rfl
    rotate_left
    ·simp only [Act.put, sT, sZ, sS, i64_w, i32_w]
     rfl
    refine pure_ (i := 11) (N := some 19) (v := ?_) (a' := ?_) #[true, true, true, true, true, true, true, false, true, false, false, true, false, false, false, false, false, false, false] rfl rfl (any_of HT_.out (by kernel_rfl)) (fun _ _ _ h => h) (Or.inl ⟨by rfl, ?_⟩) ?_ ?_
    rotate_left
    ·intro w'
     go_simp
     with_reducible rfl
    rotate_left
    ·simp only [Act.put, sT, sZ, sS, i64_w, i32_w]
     rfl
    refine pure_ (i := 14) (N := some 22) (v := ?_) (a' := ?_) #[true, true, true, true, true, true, true, false, true, false, false, true, false, false, true, false, false, false, false] rfl rfl (any_of HT_.out (by kernel_rfl)) (fun _ _ _ h => h) (Or.inl ⟨by rfl, ?_⟩) ?_ ?_
    rotate_left
    ·intro w'
     go_simp
     with_reducible rfl
    rotate_left
    ·simp only [Act.put, sT, sZ, sS, i64_w, i32_w]
     rfl
    refine take_ (i := 7) (N := some 15) (v := ?_) (a' := ?_) #[true, true, true, true, true, true, true, true, true, false, false, true, false, false, true, false, false, false, false] rfl rfl (take_ofW HT_.out HW_.out (by kernel_rfl)) (fun _ _ _ h => h) (Or.inl ⟨by rfl, ?_⟩) hHeld ?_ ?_
    rotate_left
    ·rintro w' ⟨s0, s1, s2, s3, s4⟩
     go_simp
     with_reducible rfl
    rotate_left
    ·simp only [Act.put, sT, sZ, sS, i64_w, i32_w]
     rfl
    refine take_ (i := 9) (N := some 17) (v := ?_) (a' := ?_) #[true, true, true, true, true, true, true, true, true, true, false, true, false, false, true, false, false, false, false] rfl rfl (take_ofW HT_.out HW_.out (by kernel_rfl)) (fun _ _ _ h => h) (Or.inl ⟨by rfl, ?_⟩) hHeld ?_ ?_
    rotate_left
    ·rintro w' ⟨s0, s1, s2, s3, s4⟩
     go_simp
     with_reducible rfl
    rotate_left
    ·simp only [Act.put, sT, sZ, sS, i64_w, i32_w]
     rfl
    refine pure_ (i := 10) (N := some 18) (v := ?_) (a' := ?_) #[true, true, true, true, true, true, true, true, true, true, true, true, false, false, true, false, false, false, false] rfl rfl (any_of HT_.out (by kernel_rfl)) (fun _ _ _ h => h) (Or.inl ⟨by rfl, ?_⟩) ?_ ?_
    rotate_left
    ·intro w'
     go_simp
     with_reducible rfl
    rotate_left
    ·simp only [Act.put, sT, sZ, sS, i64_w, i32_w]
     rfl
    refine take_ (i := 12) (N := some 20) (v := ?_) (a' := ?_) #[true, true, true, true, true, true, true, true, true, true, true, true, true, false, true, false, false, false, false] rfl rfl (take_ofW HT_.out HW_.out (by kernel_rfl)) (fun _ _ _ h => h) (Or.inl ⟨by rfl, ?_⟩) hHeld ?_ ?_
    rotate_left
    ·rintro w' ⟨s0, s1, s2, s3, s4⟩
     go_simp
     with_reducible rfl
    rotate_left
    ·simp only [Act.put, sT, sZ, sS, i64_w, i32_w]
     rfl
    refine pure_ (i := 13) (N := some 21) (v := ?_) (a' := ?_) #[true, true, true, true, true, true, true, true, true, true, true, true, true, true, true, false, false, false, false] rfl rfl (any_of HT_.out (by kernel_rfl)) (fun _ _ _ h => h) (Or.inl ⟨by rfl, ?_⟩) ?_ ?_
    rotate_left
    ·intro w'
     go_simp
     with_reducible rfl
    rotate_left
    ·simp only [Act.put, sT, sZ, sS, i64_w, i32_w]
     rfl
    refine take_ (i := 15) (N := some 23) (v := ?_) (a' := ?_) #[true, true, true, true, true, true, true, true, true, true, true, true, true, true, true, true, false, false, false] rfl rfl (take_ofW HT_.out HW_.out (by kernel_rfl)) (fun _ _ _ h => h) (Or.inl ⟨by rfl, ?_⟩) hHeld ?_ ?_
    rotate_left
    ·rintro w' ⟨s0, s1, s2, s3, s4⟩
     go_simp
     with_reducible rfl
    rotate_left
    ·simp only [Act.put, sT, sZ, sS, i64_w, i32_w]
     rfl
    refine pure_ (i := 16) (N := some 24) (v := ?_) (a' := ?_) #[true, true, true, true, true, true, true, true, true, true, true, true, true, true, true, true, true, false, false] rfl rfl (any_of HT_.out (by kernel_rfl)) (fun _ _ _ h => h) (Or.inl ⟨by rfl, ?_⟩) ?_ ?_
    rotate_left
    ·intro w'
     go_simp
     with_reducible rfl
    rotate_left
    ·simp only [Act.put, sT, sZ, sS, i64_w, i32_w]
     rfl
    refine pure_ (i := 17) (N := some 25) (v := ?_) (a' := ?_) #[true, true, true, true, true, true, true, true, true, true, true, true, true, true, true, true, true, true, false] rfl rfl (any_of HT_.out (by kernel_rfl)) (fun _ _ _ h => h) (Or.inl ⟨by rfl, ?_⟩) ?_ ?_
    rotate_left
    ·intro w'
     go_simp
     with_reducible rfl
    rotate_left
    ·simp only [Act.put, sT, sZ, sS, i64_w, i32_w]
     rfl
    refine pure_ (i := 18) (N := some 4) (v := ?_) (a' := ?_) #[true, true, true, true, true, true, true, true, true, true, true, true, true, true, true, true, true, true, true] rfl rfl (any_of HT_.out (by kernel_rfl)) (fun _ _ _ h => h) (Or.inl ⟨by rfl, ?_⟩) ?_ ?_
    rotate_left
    ·intro w'
     go_simp
     with_reducible rfl
    rotate_left
    ·simp only [Act.put, sT, sZ, sS, i64_w, i32_w]
     rfl
    refine done_ (done_of HT_.out (by kernel_rfl)) ?_
    try go_wp2
    go_ret
    exact ⟨by first | rfl | (simp [errW_none, errW_some] <;> rfl) | (simp [*, errW_none, errW_some] <;> rfl), by repeat (first | (with_reducible first | exact HB.out | apply bA | apply bN | apply bD | refine below_set ?_ GE178.out | refine below_set ?_ GE179.out) | exact HB.out)⟩
  ·rw [if_neg c4] at H
   have c4b0 : decide (a0_1 < a1_0) = false := decide_eq_false c4
   clear c4
   obtain rfl := oI H
   go_enter Try.func68, Try.ntmps68
   try go_wp2_with (first | ((with_reducible refine gate_dst (N := 2) rfl ?_); refine box_event ?hg (N := 2) ?hd (cs := #[.int .i64 a0_0, .int .i64 a0_1, .int .i64 a0_2]) (t := 67) ?hr ?_; (case hd => rfl); (case hg => rfl); (case hr => first | (go_simp; done) | (go_simp; rfl)); intro gb178 hg w11 hbox hb; have n0_ := Aside0.mk (below_step hb_ hb); have n1_ := Aside0.mk (hbox); have n2_ := Aside0.mk ((by rw [hg]; exact (below_size hb_) : w.heap.size ≤ gb178)); have n3_ := Aside0.mk ((by rw [hg]; exact (below_size hb_) : w.heap.size ≤ gb178)); clear HB; have HB := n0_; have BK178 := n1_; have GW178 := n2_; have GE178 := n3_; clear n0_ n1_ n2_ n3_; clear hb hbox hg) | ((with_reducible refine gate_dst (N := 3) rfl ?_); refine box_event ?hg (N := 3) ?hd (cs := #[.int .i64 a1_0, .int .i64 a1_1]) (t := 37) ?hr ?_; (case hd => rfl); (case hg => rfl); (case hr => first | (go_simp; done) | (go_simp; rfl)); intro gb179 hg w12 hbox hb; have n0_ := Aside0.mk (blk_below (g := gb178) (o := .cells #[.int .i64 a0_0, .int .i64 a0_1, .int .i64 a0_2] 67 (0, 0)) (kx_ BK178.out) hb); have n1_ := Aside0.mk (below_step (hs_ GE178.out) hb); have n2_ := Aside0.mk (hbox); have n3_ := Aside0.mk ((by rw [hg]; exact (below_size (hs_ GE178.out)) : w.heap.size ≤ gb179)); have n4_ := Aside0.mk ((by rw [hg]; exact (below_size (hs_ GE178.out)) : w.heap.size ≤ gb179)); have n5_ := Aside0.mk ((by rw [hg]; exact Nat.ne_of_lt (blk_lt (g := gb178) (o := .cells #[.int .i64 a0_0, .int .i64 a0_1, .int .i64 a0_2] 67 (0, 0)) (kx_ BK178.out)) : gb178 ≠ gb179)); have n6_ := Aside0.mk ((by rw [hg]; exact Nat.ne_of_gt (blk_lt (g := gb178) (o := .cells #[.int .i64 a0_0, .int .i64 a0_1, .int .i64 a0_2] 67 (0, 0)) (kx_ BK178.out)) : gb179 ≠ gb178)); clear BK178; clear HB; have BK178 := n0_; have HB := n1_; have BK179 := n2_; have GW179 := n3_; have GE179 := n4_; have NB178_179 := n5_; have NB179_178 := n6_; clear n0_ n1_ n2_ n3_ n4_ n5_ n6_; clear hb hbox hg; have hnb13 := NB178_179.out; have hnc13 := NB179_178.out; have hcz14_0 : w12.cell? ⟨gb178, 0, none⟩ = some (.int .i64 a0_0) := (blk_cell BK178.out 0).trans rfl; have hcz14_1 : w12.cell? ⟨gb178, 1, none⟩ = some (.int .i64 a0_1) := (blk_cell BK178.out 1).trans rfl; have hcz14_2 : w12.cell? ⟨gb178, 2, none⟩ = some (.int .i64 a0_2) := (blk_cell BK178.out 2).trans rfl; have hfz14_0 := blk_frozen BK178.out 0; have hfz14_1 := blk_frozen BK178.out 1; have hfz14_2 := blk_frozen BK178.out 2))
   have n0_ := Aside0.mk (blk_drew BK178.out)
   have n1_ := Aside0.mk (blk_drew BK179.out)
   have n2_ := Aside0.mk (below_drew1 HB.out)
   clear BK178
   clear BK179
   clear HB
   have BK178 := n0_
   have BK179 := n1_
   have HB := n2_
   clear n0_ n1_ n2_
   refine start_ (n := 19) (S := fun w' => w'.cell? ⟨gb178, 0, none⟩ = some (.int .i64 a0_0) ∧ w'.cell? ⟨gb178, 1, none⟩ = some (.int .i64 a0_1) ∧ w'.cell? ⟨gb178, 2, none⟩ = some (.int .i64 a0_2) ∧ w'.cell? ⟨gb179, 0, none⟩ = some (.int .i64 a1_0) ∧ w'.cell? ⟨gb179, 1, none⟩ = some (.int .i64 a1_1)) (ds := []) #[false, false, false, false, false, false, false, false, false, false, false, false, false, false, false, false, false, false, false] (by kernel_rfl) rfl rfl ⟨(blk_cell BK178.out 0).trans rfl, (blk_cell BK178.out 1).trans rfl, (blk_cell BK178.out 2).trans rfl, (blk_cell BK179.out 0).trans rfl, (blk_cell BK179.out 1).trans rfl⟩ (fun hHeld => ?_); refine with_tabW impl_fits.tab2 impl_fits.bits2 (fun HT_ HW_ => ?_)
   generalize w12.drew = w15 at BK178 BK179 HB hHeld ⊢
   refine pure_ (i := 0) (N := some 8) (v := ?_) (a' := ?_) #[true, false, false, false, false, false, false, false, false, false, false, false, false, false, false, false, false, false, false] rfl rfl (any_of HT_.out (by kernel_rfl)) (fun _ _ _ h => h) (Or.inl ⟨by rfl, ?_⟩) ?_ ?_
   rotate_left
   ·intro w'
    go_simp
    with_reducible rfl
   rotate_left
   ·simp only [Act.put, sT, sZ, sS, i64_w, i32_w]
    rfl
   refine pure_ (i := 2) (N := some 10) (v := ?_) (a' := ?_) #[true, false, true, false, false, false, false, false, false, false, false, false, false, false, false, false, false, false, false] rfl rfl (any_of HT_.out (by kernel_rfl)) (fun _ _ _ h => h) (Or.inl ⟨by rfl, ?_⟩) ?_ ?_
   rotate_left
   ·intro w'
    go_simp
    with_reducible rfl
   rotate_left
   ·simp only [Act.put, sT, sZ, sS, i64_w, i32_w]
    rfl
   refine take_ (i := 1) (N := some 9) (v := ?_) (a' := ?_) #[true, true, true, false, false, false, false, false, false, false, false, false, false, false, false, false, false, false, false] rfl rfl (take_ofW HT_.out HW_.out (by kernel_rfl)) (fun _ _ _ h => h) (Or.inl ⟨by rfl, ?_⟩) hHeld ?_ ?_
   rotate_left
   ·rintro w' ⟨s0, s1, s2, s3, s4⟩
    go_simp
    with_reducible rfl
   rotate_left
   ·simp only [Act.put, sT, sZ, sS, i64_w, i32_w]
    rfl
   refine take_ (i := 3) (N := some 11) (v := ?_) (a' := ?_) #[true, true, true, true, false, false, false, false, false, false, false, false, false, false, false, false, false, false, false] rfl rfl (take_ofW HT_.out HW_.out (by kernel_rfl)) (fun _ _ _ h => h) (Or.inl ⟨by rfl, ?_⟩) hHeld ?_ ?_
   rotate_left
   ·rintro w' ⟨s0, s1, s2, s3, s4⟩
    go_simp
    with_reducible rfl
   rotate_left
   ·simp only [Act.put, sT, sZ, sS, i64_w, i32_w]
    rfl
   refine pure_ (i := 4) (N := some 12) (v := ?_) (a' := ?_) #[true, true, true, true, true, false, false, false, false, false, false, false, false, false, false, false, false, false, false] rfl rfl (any_of HT_.out (by kernel_rfl)) (fun _ _ _ h => h) (Or.inl ⟨by rfl, ?_⟩) ?_ ?_
   rotate_left
   ·intro w'
    go_simp
    with_reducible rfl
   rotate_left
   ·simp only [Act.put, sT, sZ, sS, i64_w, i32_w]
    rfl
   refine pure_ (i := 5) (N := some 13) (v := ?_) (a' := ?_) #[true, true, true, true, true, true, false, false, false, false, false, false, false, false, false, false, false, false, false] rfl rfl (any_of HT_.out (by kernel_rfl)) (fun _ _ _ h => h) (Or.inl ⟨by rfl, ?_⟩) ?_ ?_
   rotate_left
   ·intro w'
    go_simp
    with_reducible rfl
   rotate_left
   ·simp only [Act.put, sT, sZ, sS, i64_w, i32_w]
    rfl
   refine pure_ (i := 6) (N := some 14) (v := undef) (a' := ?_) #[true, true, true, true, true, true, true, false, false, false, false, false, false, false, false, false, false, false, false] rfl rfl (any_of HT_.out (by kernel_rfl)) (fun _ _ _ h => h) (Or.inr ⟨by rfl, rfl⟩) ?_ ?_
   rotate_left
   ·simp only [Act.put, sT, sZ, sS, i64_w, i32_w]
    rfl
   refine pure_ (i := 7) (N := some 15) (v := undef) (a' := ?_) #[true, true, true, true, true, true, true, true, false, false, false, false, false, false, false, false, false, false, false] rfl rfl (any_of HT_.out (by kernel_rfl)) (fun _ _ _ h => h) (Or.inr ⟨by rfl, rfl⟩) ?_ ?_
   rotate_left
   ·simp only [Act.put, sT, sZ, sS, i64_w, i32_w]
    rfl
   refine pure_ (i := 8) (N := some 16) (v := undef) (a' := ?_) #[true, true, true, true, true, true, true, true, true, false, false, false, false, false, false, false, false, false, false] rfl rfl (any_of HT_.out (by kernel_rfl)) (fun _ _ _ h => h) (Or.inr ⟨by rfl, rfl⟩) ?_ ?_
   rotate_left
   ·simp only [Act.put, sT, sZ, sS, i64_w, i32_w]
    rfl
   refine pure_ (i := 9) (N := some 17) (v := undef) (a' := ?_) #[true, true, true, true, true, true, true, true, true, true, false, false, false, false, false, false, false, false, false] rfl rfl (any_of HT_.out (by kernel_rfl)) (fun _ _ _ h => h) (Or.inr ⟨by rfl, rfl⟩) ?_ ?_
   rotate_left
   ·simp only [Act.put, sT, sZ, sS, i64_w, i32_w]
    rfl
   refine pure_ (i := 10) (N := some 18) (v := undef) (a' := ?_) #[true, true, true, true, true, true, true, true, true, true, true, false, false, false, false, false, false, false, false] rfl rfl (any_of HT_.out (by kernel_rfl)) (fun _ _ _ h => h) (Or.inr ⟨by rfl, rfl⟩) ?_ ?_
   rotate_left
   ·simp only [Act.put, sT, sZ, sS, i64_w, i32_w]
    rfl
   refine pure_ (i := 11) (N := some 19) (v := undef) (a' := ?_) #[true, true, true, true, true, true, true, true, true, true, true, true, false, false, false, false, false, false, false] rfl rfl (any_of HT_.out (by kernel_rfl)) (fun _ _ _ h => h) (Or.inr ⟨by rfl, rfl⟩) ?_ ?_
   rotate_left
   ·simp only [Act.put, sT, sZ, sS, i64_w, i32_w]
    rfl
   refine pure_ (i := 12) (N := some 20) (v := undef) (a' := ?_) #[true, true, true, true, true, true, true, true, true, true, true, true, true, false, false, false, false, false, false] rfl rfl (any_of HT_.out (by kernel_rfl)) (fun _ _ _ h => h) (Or.inr ⟨by rfl, rfl⟩) ?_ ?_
   rotate_left
   ·simp only [Act.put, sT, sZ, sS, i64_w, i32_w]
    rfl
   refine pure_ (i := 13) (N := some 21) (v := undef) (a' := ?_) #[true, true, true, true, true, true, true, true, true, true, true, true, true, true, false, false, false, false, false] rfl rfl (any_of HT_.out (by kernel_rfl)) (fun _ _ _ h => h) (Or.inr ⟨by rfl, rfl⟩) ?_ ?_
   rotate_left
   ·simp only [Act.put, sT, sZ, sS, i64_w, i32_w]
    rfl
   refine pure_ (i := 14) (N := some 22) (v := undef) (a' := ?_) #[true, true, true, true, true, true, true, true, true, true, true, true, true, true, true, false, false, false, false] rfl rfl (any_of HT_.out (by kernel_rfl)) (fun _ _ _ h => h) (Or.inr ⟨by rfl, rfl⟩) ?_ ?_
   rotate_left
   ·simp only [Act.put, sT, sZ, sS, i64_w, i32_w]
    rfl
   refine pure_ (i := 15) (N := some 23) (v := undef) (a' := ?_) #[true, true, true, true, true, true, true, true, true, true, true, true, true, true, true, true, false, false, false] rfl rfl (any_of HT_.out (by kernel_rfl)) (fun _ _ _ h => h) (Or.inr ⟨by rfl, rfl⟩) ?_ ?_
   rotate_left
   ·simp only [Act.put, sT, sZ, sS, i64_w, i32_w]
    rfl
   refine pure_ (i := 16) (N := some 24) (v := undef) (a' := ?_) #[true, true, true, true, true, true, true, true, true, true, true, true, true, true, true, true, true, false, false] rfl rfl (any_of HT_.out (by kernel_rfl)) (fun _ _ _ h => h) (Or.inr ⟨by rfl, rfl⟩) ?_ ?_
   rotate_left
   ·simp only [Act.put, sT, sZ, sS, i64_w, i32_w]
    rfl
   refine pure_ (i := 17) (N := some 25) (v := ?_) (a' := ?_) #[true, true, true, true, true, true, true, true, true, true, true, true, true, true, true, true, true, true, false] rfl rfl (any_of HT_.out (by kernel_rfl)) (fun _ _ _ h => h) (Or.inl ⟨by rfl, ?_⟩) ?_ ?_
   rotate_left
   ·intro w'
    go_simp
    with_reducible rfl
   rotate_left
   ·simp only [Act.put, sT, sZ, sS, i64_w, i32_w]
    rfl
   refine pure_ (i := 18) (N := some 4) (v := ?_) (a' := ?_) #[true, true, true, true, true, true, true, true, true, true, true, true, true, true, true, true, true, true, true] rfl rfl (any_of HT_.out (by kernel_rfl)) (fun _ _ _ h => h) (Or.inl ⟨by rfl, ?_⟩) ?_ ?_
   rotate_left
   ·intro w'
    go_simp
    with_reducible rfl
   rotate_left
   ·simp only [Act.put, sT, sZ, sS, i64_w, i32_w]
    rfl
   refine done_ (done_of HT_.out (by kernel_rfl)) ?_
   try go_wp2
   go_ret
   exact ⟨by first | rfl | (simp [errW_none, errW_some] <;> rfl) | (simp [*, errW_none, errW_some] <;> rfl), by repeat (first | (with_reducible first | exact HB.out | apply bA | apply bN | apply bD | refine below_set ?_ GE178.out | refine below_set ?_ GE179.out) | exact HB.out)⟩
 ·rw [if_neg c3] at H
  have c3b0 : (a0_0 == 4) = false := beq_eq_false_iff_ne.mpr c3
  have c3b1 : (a0_0 != 4) = true := bne_iff_ne.mpr c3
  replace H := bI H
  obtain ⟨t180, A160, H⟩ := H
  replace H : (some (t180 == a0_1)) = some r := H
  have A16 := Aside0.mk A160
  clear A160
  obtain rfl := oI H
  go_enter Try.func68, Try.ntmps68
  try go_wp2_with (first | ((with_reducible refine gate_dst (N := 2) rfl ?_); refine box_event ?hg (N := 2) ?hd (cs := #[.int .i64 a0_0, .int .i64 a0_1, .int .i64 a0_2]) (t := 67) ?hr ?_; (case hd => rfl); (case hg => rfl); (case hr => first | (go_simp; done) | (go_simp; rfl)); intro gb178 hg w17 hbox hb; have n0_ := Aside0.mk (below_step hb_ hb); have n1_ := Aside0.mk (hbox); have n2_ := Aside0.mk ((by rw [hg]; exact (below_size hb_) : w.heap.size ≤ gb178)); have n3_ := Aside0.mk ((by rw [hg]; exact (below_size hb_) : w.heap.size ≤ gb178)); clear HB; have HB := n0_; have BK178 := n1_; have GW178 := n2_; have GE178 := n3_; clear n0_ n1_ n2_ n3_; clear hb hbox hg) | ((with_reducible refine gate_dst (N := 3) rfl ?_); refine box_event ?hg (N := 3) ?hd (cs := #[.int .i64 a1_0, .int .i64 a1_1]) (t := 37) ?hr ?_; (case hd => rfl); (case hg => rfl); (case hr => first | (go_simp; done) | (go_simp; rfl)); intro gb179 hg w18 hbox hb; have n0_ := Aside0.mk (blk_below (g := gb178) (o := .cells #[.int .i64 a0_0, .int .i64 a0_1, .int .i64 a0_2] 67 (0, 0)) (kx_ BK178.out) hb); have n1_ := Aside0.mk (below_step (hs_ GE178.out) hb); have n2_ := Aside0.mk (hbox); have n3_ := Aside0.mk ((by rw [hg]; exact (below_size (hs_ GE178.out)) : w.heap.size ≤ gb179)); have n4_ := Aside0.mk ((by rw [hg]; exact (below_size (hs_ GE178.out)) : w.heap.size ≤ gb179)); have n5_ := Aside0.mk ((by rw [hg]; exact Nat.ne_of_lt (blk_lt (g := gb178) (o := .cells #[.int .i64 a0_0, .int .i64 a0_1, .int .i64 a0_2] 67 (0, 0)) (kx_ BK178.out)) : gb178 ≠ gb179)); have n6_ := Aside0.mk ((by rw [hg]; exact Nat.ne_of_gt (blk_lt (g := gb178) (o := .cells #[.int .i64 a0_0, .int .i64 a0_1, .int .i64 a0_2] 67 (0, 0)) (kx_ BK178.out)) : gb179 ≠ gb178)); clear BK178; clear HB; have BK178 := n0_; have HB := n1_; have BK179 := n2_; have GW179 := n3_; have GE179 := n4_; have NB178_179 := n5_; have NB179_178 := n6_; clear n0_ n1_ n2_ n3_ n4_ n5_ n6_; clear hb hbox hg; have hnb19 := NB178_179.out; have hnc19 := NB179_178.out; have hcz20_0 : w18.cell? ⟨gb178, 0, none⟩ = some (.int .i64 a0_0) := (blk_cell BK178.out 0).trans rfl; have hcz20_1 : w18.cell? ⟨gb178, 1, none⟩ = some (.int .i64 a0_1) := (blk_cell BK178.out 1).trans rfl; have hcz20_2 : w18.cell? ⟨gb178, 2, none⟩ = some (.int .i64 a0_2) := (blk_cell BK178.out 2).trans rfl; have hfz20_0 := blk_frozen BK178.out 0; have hfz20_1 := blk_frozen BK178.out 1; have hfz20_2 := blk_frozen BK178.out 2))
  have n0_ := Aside0.mk (blk_drew BK178.out)
  have n1_ := Aside0.mk (blk_drew BK179.out)
  have n2_ := Aside0.mk (below_drew1 HB.out)
  clear BK178
  clear BK179
  clear HB
  have BK178 := n0_
  have BK179 := n1_
  have HB := n2_
  clear n0_ n1_ n2_
  refine start_ (n := 8) (S := fun w' => w'.cell? ⟨gb178, 0, none⟩ = some (.int .i64 a0_0) ∧ w'.cell? ⟨gb178, 1, none⟩ = some (.int .i64 a0_1) ∧ w'.cell? ⟨gb178, 2, none⟩ = some (.int .i64 a0_2) ∧ w'.cell? ⟨gb179, 0, none⟩ = some (.int .i64 a1_0) ∧ w'.cell? ⟨gb179, 1, none⟩ = some (.int .i64 a1_1)) (ds := []) #[false, false, false, false, false, false, false, false] (by kernel_rfl) rfl rfl ⟨(blk_cell BK178.out 0).trans rfl, (blk_cell BK178.out 1).trans rfl, (blk_cell BK178.out 2).trans rfl, (blk_cell BK179.out 0).trans rfl, (blk_cell BK179.out 1).trans rfl⟩ (fun hHeld => ?_); refine with_tabW impl_fits.tab3 impl_fits.bits3 (fun HT_ HW_ => ?_)
  generalize w18.drew = w21 at BK178 BK179 HB hHeld ⊢
  refine pure_ (i := 0) (N := some 26) (v := ?_) (a' := ?_) #[true, false, false, false, false, false, false, false] rfl rfl (any_of HT_.out (by kernel_rfl)) (fun _ _ _ h => h) (Or.inl ⟨by rfl, ?_⟩) ?_ ?_
  rotate_left
  ·intro w'
   go_simp
   with_reducible rfl
  rotate_left
  ·simp only [Act.put, sT, sZ, sS, i64_w, i32_w]
   rfl
  refine pure_ (i := 4) (N := some 30) (v := ?_) (a' := ?_) #[true, false, false, false, true, false, false, false] rfl rfl (any_of HT_.out (by kernel_rfl)) (fun _ _ _ h => h) (Or.inl ⟨by rfl, ?_⟩) ?_ ?_
  rotate_left
  ·intro w'
   go_simp
   with_reducible rfl
  rotate_left
  ·simp only [Act.put, sT, sZ, sS, i64_w, i32_w]
   rfl
  refine take_ (i := 1) (N := some 27) (v := ?_) (a' := ?_) #[true, true, false, false, true, false, false, false] rfl rfl (take_ofW HT_.out HW_.out (by kernel_rfl)) (fun _ _ _ h => h) (Or.inl ⟨by rfl, ?_⟩) hHeld ?_ ?_
  rotate_left
  ·rintro w' ⟨s0, s1, s2, s3, s4⟩
   go_simp
   with_reducible rfl
  rotate_left
  ·simp only [Act.put, sT, sZ, sS, i64_w, i32_w]
   rfl
  refine take_ (i := 2) (N := some 28) (v := ?_) (a' := ?_) #[true, true, true, false, true, false, false, false] rfl rfl (take_ofW HT_.out HW_.out (by kernel_rfl)) (fun _ _ _ h => h) (Or.inl ⟨by rfl, ?_⟩) hHeld ?_ ?_
  rotate_left
  ·rintro w' ⟨s0, s1, s2, s3, s4⟩
   go_simp
   with_reducible rfl
  rotate_left
  ·simp only [Act.put, sT, sZ, sS, i64_w, i32_w]
   rfl
  refine take_ (i := 5) (N := some 31) (v := ?_) (a' := ?_) #[true, true, true, false, true, true, false, false] rfl rfl (take_ofW HT_.out HW_.out (by kernel_rfl)) (fun _ _ _ h => h) (Or.inl ⟨by rfl, ?_⟩) hHeld ?_ ?_
  rotate_left
  ·rintro w' ⟨s0, s1, s2, s3, s4⟩
   go_simp
   with_reducible rfl
  rotate_left
  ·simp only [Act.put, sT, sZ, sS, i64_w, i32_w]
   rfl
  refine one_ (i := 3) (N := some 29) #[true, true, true, true, true, true, false, false] rfl rfl (one_of HT_.out (by kernel_rfl)) (by decide) (fun K hK => ?_)
  refine goes_ Try.func74 (by kernel_rfl) rfl #[.int .i64 a0_0, .agg #[.int .i64 a1_0, .int .i64 a1_1]] (by rfl) rfl rfl ar_ ?_
  with_reducible refine (impl_told.calls k a0_0 a1_0 a1_1 t180 _ A16.out).mono ?_
  rintro e w22 ⟨rfl, hb⟩
  refine ⟨_, rfl, ?_⟩
  have n0_ := Aside0.mk (blk_below (g := gb178) (o := .cells #[.int .i64 a0_0, .int .i64 a0_1, .int .i64 a0_2] 67 (0, 0)) (kx_ BK178.out) hb)
  have n1_ := Aside0.mk (blk_below (g := gb179) (o := .cells #[.int .i64 a1_0, .int .i64 a1_1] 37 (0, 0)) (kx_ BK179.out) hb)
  have n2_ := Aside0.mk (below_step (by repeat (first | (with_reducible first | exact HB.out | apply bA | apply bN | apply bD | refine below_set ?_ GE178.out | refine below_set ?_ GE179.out) | exact HB.out)) hb)
  clear BK178
  clear BK179
  clear HB
  have BK178 := n0_
  have BK179 := n1_
  have HB := n2_
  clear n0_ n1_ n2_
  (try clear hb)
  (try clear hb2)
  (try clear hk)
  (try clear hi)
  refine hK.out _ _ ⟨(blk_cell BK178.out 0).trans rfl, (blk_cell BK178.out 1).trans rfl, (blk_cell BK178.out 2).trans rfl, (blk_cell BK179.out 0).trans rfl, (blk_cell BK179.out 1).trans rfl⟩ (fun hHeld => ?_)
  clear hK K
  refine norm_ (a' := ?_) ?_ ?_
  rotate_left
  ·show Act.put _ (some 29) _ = _
   simp only [Act.put, sT, sZ, sS, i64_w, i32_w]
   rfl
  refine pure_ (i := 6) (N := some 32) (v := ?_) (a' := ?_) #[true, true, true, true, true, true, true, false] rfl rfl (any_of HT_.out (by kernel_rfl)) (fun _ _ _ h => h) (Or.inl ⟨by rfl, ?_⟩) ?_ ?_
  rotate_left
  ·intro w'
   go_simp
   with_reducible rfl
  rotate_left
  ·simp only [Act.put, sT, sZ, sS, i64_w, i32_w]
   rfl
  refine pure_ (i := 7) (N := some 4) (v := ?_) (a' := ?_) #[true, true, true, true, true, true, true, true] rfl rfl (any_of HT_.out (by kernel_rfl)) (fun _ _ _ h => h) (Or.inl ⟨by rfl, ?_⟩) ?_ ?_
  rotate_left
  ·intro w'
   go_simp
   with_reducible rfl
  rotate_left
  ·simp only [Act.put, sT, sZ, sS, i64_w, i32_w]
   rfl
  refine done_ (done_of HT_.out (by kernel_rfl)) ?_
  try go_wp2
  go_ret
  exact ⟨by first | rfl | (simp [errW_none, errW_some] <;> rfl) | (simp [*, errW_none, errW_some] <;> rfl), by repeat (first | (with_reducible first | exact HB.out | apply bA | apply bN | apply bD | refine below_set ?_ GE178.out | refine below_set ?_ GE179.out) | exact HB.out)⟩
end Go.Proofs.Ytkgaljocaapobaa.Pr
/- What a clue tells of a hidden star: the program and the reference tell the same. -/
namespace Go.Proofs.Ytkgaljocaapobaa.M
open Go.RowKit Go.Proofs.YtkgaljocaapobaaW.PrintWords Go.Proofs.Ytkgaljocaapobaa.Pr
def gcdV (n s : Int) : Int := (Nat.gcd s.toNat n.toNat : Nat)
theorem divisor_ev : ∀ (b a : Nat), Ev (fun k => impl_divisor.l0 k (a : Int) (b : Int)) ((Nat.gcd b a : Nat) : Int) := by
  intro b
  induction b using Nat.strongRecOn with
  | ind b ih =>
    intro a
    refine Ev.step (fun k => by rw [impl_divisor.l0]) ?_
    by_cases hb : b = 0
    · subst hb
      refine Ev.neg (by omega) (Ev.val ?_)
      simp
    · refine Ev.pos (by omega) (Ev.neg (by omega) ?_)
      rw [Nat.gcd_rec]
      have e : Int.tmod (a : Int) (b : Int) = ((a % b : Nat) : Int) := (Int.ofNat_tmod a b).symm
      rw [e]
      exact ih (a % b) (Nat.mod_lt _ (by omega)) b
theorem common_ev : ∀ (b a : Nat), Ev (fun k => spec_srCommon.l0 k (a : Int) (b : Int)) ((Nat.gcd b a : Nat) : Int) := by
  intro b
  induction b using Nat.strongRecOn with
  | ind b ih =>
    intro a
    refine Ev.step (fun k => by rw [spec_srCommon.l0]) ?_
    by_cases hb : b = 0
    · subst hb
      refine Ev.neg (by omega) (Ev.val ?_)
      simp
    · refine Ev.pos (by omega) (Ev.neg (by omega) ?_)
      rw [Nat.gcd_rec]
      have e : Int.tmod (a : Int) (b : Int) = ((a % b : Nat) : Int) := (Int.ofNat_tmod a b).symm
      rw [e]
      exact ih (a % b) (Nat.mod_lt _ (by omega)) b
theorem strings_ev (n s : Int) (hn : 0 ≤ n) (hs : 0 ≤ s) : Ev (fun k => impl_Star_strings.f k n s) (gcdV n s) := by
  unfold impl_Star_strings.f impl_divisor.f gcdV
  have e := divisor_ev s.toNat n.toNat
  rw [Int.toNat_of_nonneg hn, Int.toNat_of_nonneg hs] at e
  exact Ev.bindk e (Ev.val rfl)
theorem srCommon_ev (n s : Int) (hn : 0 ≤ n) (hs : 0 ≤ s) : Ev (fun k => spec_srCommon.f k n s) (gcdV n s) := by
  unfold spec_srCommon.f gcdV
  have e := common_ev s.toNat n.toNat
  rw [Int.toNat_of_nonneg hn, Int.toNat_of_nonneg hs] at e
  exact e
theorem gcdV_pos (n s : Int) (hn : 1 ≤ n) : gcdV n s ≠ 0 := by
  unfold gcdV
  have := Nat.gcd_pos_of_pos_right s.toNat (show 0 < n.toNat by omega)
  omega
def hidB (n s : Int) : Bool := okStar n s && decide (n ≤ 14)
theorem hid_in {n s : Int} (h : hidB n s = true) : 3 ≤ n ∧ n ≤ 14 ∧ 1 ≤ s ∧ s < n := by
  simp only [hidB, okStar, inB, Bool.and_eq_true, decide_eq_true_eq] at h
  omega
/-- A star's chords, in order. -/
def chS (n s : Int) : List Ch := setC (chsFrom n s n.toNat 0)
theorem chS_len (n s : Int) : (chS n s).length ≤ n.toNat := by
  have := setC_length (chsFrom n s n.toNat 0)
  rw [chsFrom_length] at this
  exact this
/-- What a clue of a kind, other than 4, tells of a star. -/
def tellV (a n s : Int) : Int := if a = 0 then n else if a = 1 then gcdV n s else if a = 2 then wrap64 (Int.tdiv s (gcdV n s)) else if a = 3 then (pairsN (chS n s) : Int) else ((chS n s).length : Int)
theorem told_ev (a n s : Int) (h : hidB n s = true) : Ev (fun k => impl_told.f k a n s) (tellV a n s) := by
  have hh := hid_in h
  have hl := chS_len n s
  unfold impl_told.f tellV
  by_cases h0 : a = 0
  · rw [if_pos h0]
    exact Ev.pos h0 (Ev.val rfl)
  · rw [if_neg h0]
    refine Ev.neg h0 ?_
    by_cases h1 : a = 1
    · rw [if_pos h1]
      exact Ev.pos h1 (Ev.bindk (strings_ev n s (by omega) (by omega)) (Ev.val rfl))
    · rw [if_neg h1]
      refine Ev.neg h1 ?_
      by_cases h2 : a = 2
      · rw [if_pos h2]
        exact Ev.pos h2 (Ev.bindk (strings_ev n s (by omega) (by omega)) (Ev.neg (gcdV_pos n s (by omega)) (Ev.val rfl)))
      · rw [if_neg h2]
        refine Ev.neg h2 ?_
        by_cases h3 : a = 3
        · rw [if_pos h3]
          exact Ev.pos h3 (Ev.bindk (chords_ev n s ⟨by omega, by omega⟩ ⟨by omega, by omega⟩) (Ev.bindk (crossings_evB _ (show (chS n s).length ≤ 1000 by omega)) (Ev.val rfl)))
        · rw [if_neg h3]
          exact Ev.neg h3 (Ev.bindk (chords_ev n s ⟨by omega, by omega⟩ ⟨by omega, by omega⟩) (Ev.val rfl))
theorem value_ev (a p n s : Int) (ha : a ≠ 4) (h : hidB n s = true) : Ev (fun k => spec_pzValue.f k a p n s) (tellV a n s) := by
  have hh := hid_in h
  have hl := chS_len n s
  have hv := chords_ok n s ⟨by omega, by omega⟩ ⟨by omega, by omega⟩
  unfold spec_pzValue.f tellV
  by_cases h0 : a = 0
  · rw [if_pos h0]
    exact Ev.pos h0 (Ev.val rfl)
  · rw [if_neg h0]
    refine Ev.neg h0 ?_
    by_cases h1 : a = 1
    · rw [if_pos h1]
      exact Ev.pos h1 (Ev.bindk (srCommon_ev n s (by omega) (by omega)) (Ev.val rfl))
    · rw [if_neg h1]
      refine Ev.neg h1 ?_
      by_cases h2 : a = 2
      · rw [if_pos h2]
        exact Ev.pos h2 (Ev.bindk (srCommon_ev n s (by omega) (by omega)) (Ev.neg (gcdV_pos n s (by omega)) (Ev.val rfl)))
      · rw [if_neg h2]
        refine Ev.neg h2 ?_
        by_cases h3 : a = 3
        · rw [if_pos h3]
          exact Ev.pos h3 (Ev.bindk (srChords_ev n s ⟨by omega, by omega⟩ ⟨by omega, by omega⟩) (Ev.bindk (srCount_ev _ (show (chS n s).length ≤ 1000 by omega) (fun c hc => (hv c hc).2.1)) (Ev.val rfl)))
        · rw [if_neg h3]
          exact Ev.neg h3 (Ev.neg ha (Ev.bindk (srChords_ev n s ⟨by omega, by omega⟩ ⟨by omega, by omega⟩) (Ev.val rfl)))
/-- Whether a star fits a clue. -/
def fitB (a b c n s : Int) : Bool := if a = 4 then (decide (b < n) && (Int.tmod (wrap64 (b + s)) n == c)) else tellV a n s == b
theorem fits_ev (a b c n s : Int) (h : hidB n s = true) : Ev (fun k => impl_fits.f k a b c n s) (fitB a b c n s) := by
  have hh := hid_in h
  unfold impl_fits.f fitB
  by_cases h4 : a = 4
  · rw [if_pos h4]
    refine Ev.pos h4 ?_
    by_cases hb : b < n
    · rw [decide_eq_true hb]
      exact Ev.pos hb (Ev.neg (by omega) (Ev.val rfl))
    · rw [decide_eq_false hb]
      exact Ev.neg hb (Ev.val rfl)
  · rw [if_neg h4]
    exact Ev.neg h4 (Ev.bindk (told_ev a n s h) (Ev.val rfl))
theorem pzFits_ev (a b c n s : Int) (h : hidB n s = true) : Ev (fun k => spec_pzFits.f k a b c n s) (fitB a b c n s) := by
  have hh := hid_in h
  unfold spec_pzFits.f fitB
  by_cases h4 : a = 4
  · rw [if_pos h4]
    refine Ev.pos h4 ?_
    by_cases hb : b < n
    · rw [decide_eq_true hb]
      refine Ev.pos hb (Ev.bindk (a := Int.tmod (wrap64 (b + s)) n) ?_ (Ev.val rfl))
      unfold spec_pzValue.f
      exact Ev.neg (by omega) (Ev.neg (by omega) (Ev.neg (by omega) (Ev.neg (by omega) (Ev.pos rfl (Ev.neg (by omega) (Ev.val rfl))))))
    · rw [decide_eq_false hb]
      exact Ev.neg hb (Ev.val rfl)
  · rw [if_neg h4]
    exact Ev.neg h4 (Ev.bindk (value_ev a 0 n s h4 h) (Ev.val rfl))
end Go.Proofs.Ytkgaljocaapobaa.M
/- What the program's solutions computes: the hidden stars that fit all clues, in order. -/
namespace Go.Proofs.Ytkgaljocaapobaa.Pr
open Go.RowKit Go.Proofs.YtkgaljocaapobaaW.PrintWords Go.Proofs.YtkgaljocaapobaaW.PrintLast Go.Proofs.YtkgaljocaapobaaW.PrintMore
/-- A clue that a star doesn't fit. -/
def misF (n s : Int) (c : S67) : Bool := !(M.fitB c.f0 c.f1 c.f2 n s)
def solsStep (l : List S67) (n : Int) : Nat → Int → List S37
  | 0, _ => []
  | d + 1, s => if l.any (misF n s) = true then solsStep l n d (s + 1) else ⟨n, s⟩ :: solsStep l n d (s + 1)
def solsFrom (l : List S67) : Nat → Int → List S37
  | 0, _ => []
  | d + 1, n => solsStep l n (n - 1).toNat 1 ++ solsFrom l d (n + 1)
def sols (l : List S67) : List S37 := solsFrom l 12 3
def impl_solutions.f (l0 : List (S67)) : Option ((List (S37))) := some (sols l0)
theorem hid_of {n s : Int} (h1 : 3 ≤ n) (h2 : n ≤ 14) (h3 : 1 ≤ s) (h4 : s < n) : M.hidB n s = true := by
  simp [M.hidB, M.okStar, M.inB]
  omega
set_option maxHeartbeats 4000000 in
set_option maxRecDepth 100000 in
theorem mis_pred (n s : Int) (hh : M.hidB n s = true) (B : Nat) (zs : List S67) (w : World) (hB : B < w.heap.size) (h0 : w.cell? ⟨B, 0, none⟩ = some (.int .i64 n)) (h1 : w.cell? ⟨B, 1, none⟩ = some (.int .i64 s)) :
    PredB 67 #[.pointer (some ⟨B, 0, none⟩)] encCl (misF n s) zs w := fun W c _ hb => by
  have c0 : W.cell? ⟨B, 0, none⟩ = some (.int .i64 n) := (hb.cell (p := ⟨B, 0, none⟩) hB).trans h0
  have c1 : W.cell? ⟨B, 1, none⟩ = some (.int .i64 s) := (hb.cell (p := ⟨B, 1, none⟩) hB).trans h1
  have hBW : B < W.heap.size := Nat.lt_of_lt_of_le hB hb.size
  have hne : B ≠ W.heap.size := by omega
  obtain ⟨k, hk⟩ := M.fits_ev c.f0 c.f1 c.f2 n s hh
  have hf := hk k (Nat.le_refl k)
  show Calls Try.prog 67 #[.agg #[.int .i64 c.f0, .int .i64 c.f1, .int .i64 c.f2], .pointer (some ⟨B, 0, none⟩)] W fun e w' => e = .returned (.bool (!(M.fitB c.f0 c.f1 c.f2 n s))) ∧ Below W.heap.size W w'
  generalize M.fitB c.f0 c.f1 c.f2 n s = r at hf ⊢
  have HC := Aside0.mk (fun (W1 : World) => impl_fits.calls k c.f0 c.f1 c.f2 n s r W1 hf)
  have hu := Try.underlying67
  have hu2 := Try.underlying37
  clear hf hk h0 h1 hb hh
  go_enter Try.func67, Try.ntmps67
  go_wp2_with (go_at_call 68; refine (HC.out _).mono ?_; rintro e w' ⟨rfl, hb1⟩)
  go_ret
  exact ⟨by simp, (below_alloc (Below.refl _ _) _).trans (hb1.mono (by simp))⟩
set_option maxHeartbeats 8000000 in
set_option maxRecDepth 100000 in
theorem impl_solutions.calls (A0 : Option Addr) (c0 : Nat) (l0 : List (S67)) (r : List (S37)) (w : World) (hr0 : Kd.C k67 w A0 l0.length l0) (hc0 : l0.length ≤ c0) (h : impl_solutions.f l0 = some r) :
    Calls Try.prog 50 #[.slice A0 l0.length c0] w fun e w' => ∃ v0_ : Value, e = .returned (v0_) ∧ Kd.R k37 37 w' w.heap.size (fun _ => True) v0_ r ∧ Below w.heap.size w w' := by
  obtain rfl := oI h
  have eg : ∀ args w, (callFunc 67 args).run Try.prog w = .ok (.enter 67 args) w := enters_of Try.func67 (by kernel_rfl) rfl
  have hu := Try.underlying67
  have hu2 := Try.underlying37
  have HB := Aside0.mk (Below.refl w.heap.size w)
  have HR := Aside0.mk hr0
  have HC := Aside0.mk (fun (n s : Int) (hh : M.hidB n s = true) (W : World) (hb : Below w.heap.size w W) (B : Nat) (hB : B < W.heap.size) (h0 : W.cell? ⟨B, 0, none⟩ = some (.int .i64 n)) (h1 : W.cell? ⟨B, 1, none⟩ = some (.int .i64 s)) =>
    containsFunc_clue A0 c0 l0 (misF n s) 67 #[.pointer (some ⟨B, 0, none⟩)] eg W (Kd.C_below hr0 hb) hc0 (mis_pred n s hh B l0 W hB h0 h1))
  clear h hr0 eg hc0
  go_enter Try.func50, Try.ntmps50
  go_wp2_with (first | ((with_reducible refine gate_dst (N := 7) rfl ?_); refine Kd.R_lit k37 _ 37 ?hg (N := 7) ?hd (xs := ([] : List S37)) (inner := []) (ok := fun _ => True) (okp := fun _ => True) ?hr ?hp (fun _ hk => hk) trivial (Below.refl _ _) (Nat.le_refl _) (by simp) ?_; (case hd => rfl); (case hg => rfl); (case hr => first | (go_simp; done) | (go_simp; rfl)); (case hp => exact (Reps.none _ _)); intro v244 w6 ho7 hb hg_ hnew_; clear hg_ hnew_; have n0_ := Aside0.mk (Kd.R_lower ho7 (below_size hb_)); have n1_ := Aside0.mk (below_step hb_ hb); clear HB; have HO0 := n0_; have HB := n1_; clear n0_ n1_; clear hb ho7))
  go_loopg [3, 4, 5, 6] 12 (fun g s3 s4 s5 s6 wr => ∃ (n : Int) (xs : List S37), s4 = .int .i64 n ∧ Aside0 (3 ≤ n) ∧ Aside0 (n + g = 15) ∧ Aside0 (sols l0 = xs ++ solsFrom l0 g n) ∧ Aside0 ((xs.length : Int) ≤ 14 * n) ∧ Aside0 (Kd.R k37 37 wr w.heap.size (fun _ => True) s3 xs) ∧ Aside0 (Below w.heap.size w wr))
  case atStart => exact ⟨3, [], by first | rfl | (simp; done) | (simp [*]; done), ⟨by omega⟩, ⟨by omega⟩, ⟨rfl⟩, ⟨by simp⟩, HO0, HB⟩
  case round =>
    obtain ⟨n, xs, rfl, HN3, HNG, HX, HLen, HO, HB2⟩ := hrel
    clear HB
    have HB := HB2
    clear HB2
    have hn3 := HN3.out
    have hng := HNG.out
    by_cases hle : n ≤ 14
    · have c4b0 : decide (n ≤ 14) = true := decide_eq_true hle
      obtain ⟨gm, rfl⟩ : ∃ gm, gk = gm + 1 := ⟨gk - 1, by omega⟩
      have HX2 := Aside0.mk (show sols l0 = xs ++ (solsStep l0 n (n - 1).toNat 1 ++ solsFrom l0 gm (n + 1)) from HX.out)
      clear HX
      go_wp2
      go_loopg [3, 5, 6] (n - 1).toNat (fun g s3 s5 s6 wr => ∃ (s : Int) (ys : List S37), s5 = .int .i64 s ∧ Aside0 (1 ≤ s) ∧ Aside0 (s + g = n) ∧ Aside0 (sols l0 = ys ++ (solsStep l0 n g s ++ solsFrom l0 gm (n + 1))) ∧ Aside0 ((ys.length : Int) ≤ 14 * n + s) ∧ Aside0 (Kd.R k37 37 wr w.heap.size (fun _ => True) s3 ys) ∧ Aside0 (Below w.heap.size w wr))
      case atStart => exact ⟨1, xs, by first | rfl | (simp; done) | (simp [*]; done), ⟨by omega⟩, ⟨by omega⟩, HX2, ⟨by have := HLen.out; omega⟩, HO, HB⟩
      case round =>
        obtain ⟨s, ys, rfl, HS1, HSG, HY, HLen2, HO2, HB2⟩ := hrel
        have hs1 := HS1.out
        have hsg := HSG.out
        by_cases hlt : s < n
        · have c5b0 : decide (s < n) = true := decide_eq_true hlt
          obtain ⟨gs, rfl⟩ : ∃ gs, gk = gs + 1 := ⟨gk - 1, by omega⟩
          have hh := hid_of hn3 hle hs1 hlt
          have HCall := Aside0.mk (HC.out n s hh (wr.alloc (.cells #[.int .i64 n, .int .i64 s] 37)) (below_alloc HB2.out _) wr.heap.size (by simp) (by simp) (by simp))
          have HBa := Aside0.mk (below_alloc HB2.out (.cells #[.int .i64 n, .int .i64 s] 37))
          have HOa := Aside0.mk (Kd.R_alloc HO2.out (.cells #[.int .i64 n, .int .i64 s] 37))
          have HST := Aside0.mk (show solsStep l0 n (gs + 1) s = if l0.any (misF n s) = true then solsStep l0 n gs (s + 1) else ⟨n, s⟩ :: solsStep l0 n gs (s + 1) from rfl)
          have HCe := Aside0.mk (show (wr.alloc (.cells #[.int .i64 n, .int .i64 s] 37)).cell? ⟨wr.heap.size, 0, none⟩ = some (.int .i64 n) ∧ (wr.alloc (.cells #[.int .i64 n, .int .i64 s] 37)).cell? ⟨wr.heap.size, 1, none⟩ = some (.int .i64 s) from ⟨by simp, by simp⟩)
          have HSz := Aside0.mk (show wr.heap.size < (wr.alloc (.cells #[.int .i64 n, .int .i64 s] 37)).heap.size from by simp)
          clear hh HO HO2 HB HB2
          cases hq : l0.any (misF n s) with
          | true =>
            rw [hq] at HCall
            have HQ := Aside0.mk hq
            clear hq HCe HSz
            go_wp2_with (go_at_call 62; refine HCall.out.mono ?_; rintro e w1 ⟨rfl, hb1⟩; have HO1 := Aside0.mk (Kd.R_below HOa.out hb1); have HB1 := Aside0.mk (HBa.out.trans (hb1.mono HBa.out.size)); clear HOa HBa hb1)
            go_roundg gs
            case measure => omega
            case rel => exact ⟨s + 1, ys, by first | rfl | (simp; done) | (simp [*]; done), ⟨by omega⟩, ⟨by omega⟩, ⟨by rw [HY.out, HST.out, if_pos HQ.out]⟩, ⟨by have := HLen2.out; omega⟩, HO1, HB1⟩
          | false =>
            rw [hq] at HCall
            have HQ := Aside0.mk hq
            clear hq
            go_wp2_with (first | (go_at_call 62; refine HCall.out.mono ?_; rintro e w1 ⟨rfl, hb1⟩; have HO1 := Aside0.mk (Kd.R_below HOa.out hb1); have HB := Aside0.mk (HBa.out.trans (hb1.mono HBa.out.size)); have d0 := (hb1.cell (p := ⟨wr.heap.size, 0, none⟩) HSz.out).trans HCe.out.1; have d1 := (hb1.cell (p := ⟨wr.heap.size, 1, none⟩) HSz.out).trans HCe.out.2; clear HOa HBa hb1 HCe HSz) | ((with_reducible refine gate_builtin (b := .append) (xs := #[.tmp 24, .tmp 26]) rfl ?_); at_builtin; refine Kd.R_append k37 (w0 := w) w.heap.size rfl (.tmp 24) (.tmp 26) 49 37 (.agg #[(.int .i64 0), (.int .i64 0)]) 16 rfl Try.underlying49 info37 rfl (by decide) (by omega) u3 ys (⟨n, s⟩ : S37) [.int .i64 n, .int .i64 s] (fun _ => True) (fun _ => False) rfl rfl ?aP (fun _ hk => hk.elim) ?aF ?aO ?aB ?aS ?aL ?_; (case aP => exact k37_mkM _ _ _ (⟨n, s⟩ : S37)); (case aB => exact hb_); (case aF => exact (fun _ _ => trivial)); (case aO => exact (by (with_reducible repeat (first | apply rA | apply rN | apply rD)); exact HO1.out)); (case aS => exact (below_size hb_)); (case aL => have := HLen2.out; omega); intro v557 w12 ho hb hg hat; have n1_ := Aside0.mk (hb); have n2_ := Aside0.mk (ho); clear HB; clear HO1; have HB := n1_; have HO1 := n2_; clear n1_ n2_; clear ho hb hg hat))
            go_roundg gs
            case measure => omega
            case rel => exact ⟨s + 1, ys ++ [⟨n, s⟩], by first | rfl | (simp; done) | (simp [*]; done), ⟨by omega⟩, ⟨by omega⟩, ⟨by rw [HY.out, HST.out, if_neg (by rw [HQ.out]; simp), List.append_assoc]; rfl⟩, ⟨by have := HLen2.out; simp; omega⟩, HO1, HB⟩
        · have c5b0 : decide (s < n) = false := decide_eq_false hlt
          have hs0 : gk = 0 := by omega
          have HE := Aside0.mk (show sols l0 = ys ++ solsFrom l0 gm (n + 1) from by rw [HY.out, hs0]; rfl)
          clear HY hs0
          go_wp2
          go_roundg gm
          case measure => omega
          case rel => exact ⟨n + 1, ys, by first | rfl | (simp; done) | (simp [*]; done), ⟨by omega⟩, ⟨by omega⟩, HE, ⟨by have := HLen2.out; omega⟩, HO2, HB2⟩
    · have c4b0 : decide (n ≤ 14) = false := decide_eq_false hle
      have hg0 : gk = 0 := by omega
      have HE := Aside0.mk (show sols l0 = xs from by rw [HX.out, hg0]; simp [solsFrom])
      clear HX hg0
      go_wp2
      go_ret
      exact ⟨u3, rfl, by rw [HE.out]; exact HO.out, HB.out⟩
end Go.Proofs.Ytkgaljocaapobaa.Pr
namespace Go.Proofs.Ytkgaljocaapobaa.Pr
open Go.RowKit Go.Proofs.YtkgaljocaapobaaW.PrintWords Go.Proofs.YtkgaljocaapobaaW.PrintLast Go.Proofs.YtkgaljocaapobaaW.PrintMore
attribute [local go_sem] max2_int min2_int max_two min_two max_three min_three max_four min_four
def impl_Solutions.f (l0_0 : List (S67)) : Option ((List (S37)) × Bool) := (impl_IsPuzzle.f l0_0).bind fun t353 => (if t353 = true then ((impl_solutions.f l0_0).bind fun t354 => (some (t354, true))) else (some (([] : List (S37)), false)))
set_option maxHeartbeats 8000000 in
set_option maxRecDepth 100000 in
theorem impl_Solutions.calls (A0_0 : Option Addr) (c0_0 : Nat) (l0_0 : List (S67)) (r1 : List (S37)) (r2 : Bool) (w : World) (hr0_0 : Kd.C k67 w A0_0 l0_0.length l0_0) (hc0_0 : l0_0.length ≤ c0_0) (h : impl_Solutions.f l0_0 = some (r1, r2)) :
  Calls Try.prog 33 #[.agg #[.slice A0_0 l0_0.length c0_0]] w fun e w' => ∃ v0_ : Value, e = .returned (.tuple #[v0_, .bool r2]) ∧ Kd.R k37 37 w' w.heap.size (fun _ => True) v0_ r1 ∧ Below w.heap.size w w' := by
 have hu30 := Try.underlying30
 have HR0_0 := Aside0.mk hr0_0
 have HC0_0 := Aside0.mk hc0_0
 clear hr0_0 hc0_0
 have HB := Aside0.mk (Below.refl w.heap.size w)
 have H : ((impl_IsPuzzle.f l0_0).bind fun t353 => (if t353 = true then ((impl_solutions.f l0_0).bind fun t354 => (some (t354, true))) else (some (([] : List (S37)), false)))) = some (r1, r2) := h
 clear h
 replace H := bI H
 obtain ⟨t353, A20, H⟩ := H
 replace H : (if t353 = true then ((impl_solutions.f l0_0).bind fun t354 => (some (t354, true))) else (some (([] : List (S37)), false))) = some (r1, r2) := H
 have A2 := Aside0.mk A20
 clear A20
 by_cases c3 : t353 = true
 ·subst c3
  have H1 : ((impl_solutions.f l0_0).bind fun t354 => (some (t354, true))) = some (r1, r2) := by rw [if_pos rfl] at H; exact H
  clear H
  have H := H1
  clear H1
  replace H := bI H
  obtain ⟨t354, A40, H⟩ := H
  replace H : (some (t354, true)) = some (r1, r2) := H
  have A4 := Aside0.mk A40
  clear A40
  simp only [Option.some.injEq, Prod.mk.injEq] at H
  obtain ⟨rfl, rfl⟩ := H
  go_enter Try.func33, Try.ntmps33
  go_wp2_with (first | ((with_reducible refine gate_dst (N := 1) rfl ?_); refine box_event ?hg (N := 1) ?hd (cs := #[.slice A0_0 l0_0.length c0_0]) (t := 30) ?hr ?_; (case hd => rfl); (case hg => rfl); (case hr => first | (go_simp; done) | (go_simp; rfl)); intro gb352 hg w5 hbox hb; have n0_ := Aside0.mk (below_step hb_ hb); have n1_ := Aside0.mk (hbox); have n2_ := Aside0.mk ((by rw [hg]; exact (below_size hb_) : w.heap.size ≤ gb352)); have n3_ := Aside0.mk ((by rw [hg]; exact (below_size hb_) : w.heap.size ≤ gb352)); clear HB; have HB := n0_; have BK352 := n1_; have GW352 := n2_; have GE352 := n3_; clear n0_ n1_ n2_ n3_; clear hb hbox hg; have hcz6_0 : w5.cell? ⟨gb352, 0, none⟩ = some (.slice A0_0 l0_0.length c0_0) := (blk_cell BK352.out 0).trans rfl; have hfz6_0 := blk_frozen BK352.out 0) | ((with_reducible refine gate_callee (f := 46) rfl ?_); refine goesL_ (some 5) rfl rfl Try.func46 (by kernel_rfl) rfl #[.agg #[.slice A0_0 l0_0.length c0_0]] rfl ar_ ?_; (with_reducible refine (impl_IsPuzzle.calls _ _ l0_0 true _ ?side1 ?side2 A2.out).mono ?_); (case side1 => repeat (first | exact (Kd.C_below HR0_0.out HB.out) | (with_reducible refine Kd.C_alloc ?_ _) | (with_reducible refine Kd.C_drewN ?_ _) | (with_reducible refine Kd.C_drew ?_))); (case side2 => exact HC0_0.out); rintro e w7 ⟨rfl, hb⟩; refine ⟨_, rfl, ?_⟩; have n0_ := Aside0.mk (blk_below (g := gb352) (o := .cells #[.slice A0_0 l0_0.length c0_0] 30 (0, 0)) (kx_ BK352.out) hb); have n1_ := Aside0.mk (below_step (hs_ GE352.out) hb); clear BK352; clear HB; have BK352 := n0_; have HB := n1_; clear n0_ n1_; (try clear hb); (try clear hb2); (try clear hk); (try clear hi); have hcz8_0 : w7.cell? ⟨gb352, 0, none⟩ = some (.slice A0_0 l0_0.length c0_0) := (blk_cell BK352.out 0).trans rfl; have hfz8_0 := blk_frozen BK352.out 0) | ((with_reducible refine gate_callee (f := 50) rfl ?_); refine goesL_ (some 9) rfl rfl Try.func50 (by kernel_rfl) rfl #[.slice A0_0 l0_0.length c0_0] rfl ar_ ?_; (with_reducible refine (impl_solutions.calls _ _ l0_0 t354 _ ?side1 ?side2 A4.out).mono ?_); (case side1 => repeat (first | exact (Kd.C_below HR0_0.out HB.out) | (with_reducible refine Kd.C_alloc ?_ _) | (with_reducible refine Kd.C_drewN ?_ _) | (with_reducible refine Kd.C_drew ?_))); (case side2 => exact HC0_0.out); rintro e w9 ⟨v355, rfl, ho0, hb⟩; refine ⟨_, rfl, ?_⟩; have n0_ := Aside0.mk (Kd.R_lower ho0 (below_size (hs_ GE352.out))); have n1_ := Aside0.mk (blk_below (g := gb352) (o := .cells #[.slice A0_0 l0_0.length c0_0] 30 (0, 0)) (kx_ BK352.out) hb); have n2_ := Aside0.mk (below_step (hs_ GE352.out) hb); clear BK352; clear HB; have HO356 := n0_; have BK352 := n1_; have HB := n2_; clear n0_ n1_ n2_; (try clear hb); (try clear hb2); (try clear hk); (try clear hi); (try clear ho0)))
  go_ret2
  exact ⟨_, by first | rfl | (simp [errW_none, errW_some] <;> rfl) | (simp [*, errW_none, errW_some] <;> rfl), by (with_reducible repeat (first | apply rA | apply rN | apply rD)); exact HO356.out, hs_ GE352.out⟩
 ·replace c3 := Bool.eq_false_iff.mpr c3
  subst c3
  have H1 : (some (([] : List (S37)), false)) = some (r1, r2) := by rw [if_neg (show ¬ (false = true) by decide)] at H; exact H
  clear H
  have H := H1
  clear H1
  simp only [Option.some.injEq, Prod.mk.injEq] at H
  obtain ⟨rfl, rfl⟩ := H
  go_enter Try.func33, Try.ntmps33
  go_wp2_with (first | ((with_reducible refine gate_dst (N := 1) rfl ?_); refine box_event ?hg (N := 1) ?hd (cs := #[.slice A0_0 l0_0.length c0_0]) (t := 30) ?hr ?_; (case hd => rfl); (case hg => rfl); (case hr => first | (go_simp; done) | (go_simp; rfl)); intro gb352 hg w10 hbox hb; have n0_ := Aside0.mk (below_step hb_ hb); have n1_ := Aside0.mk (hbox); have n2_ := Aside0.mk ((by rw [hg]; exact (below_size hb_) : w.heap.size ≤ gb352)); have n3_ := Aside0.mk ((by rw [hg]; exact (below_size hb_) : w.heap.size ≤ gb352)); clear HB; have HB := n0_; have BK352 := n1_; have GW352 := n2_; have GE352 := n3_; clear n0_ n1_ n2_ n3_; clear hb hbox hg; have hcz11_0 : w10.cell? ⟨gb352, 0, none⟩ = some (.slice A0_0 l0_0.length c0_0) := (blk_cell BK352.out 0).trans rfl; have hfz11_0 := blk_frozen BK352.out 0) | ((with_reducible refine gate_callee (f := 46) rfl ?_); refine goesL_ (some 5) rfl rfl Try.func46 (by kernel_rfl) rfl #[.agg #[.slice A0_0 l0_0.length c0_0]] rfl ar_ ?_; (with_reducible refine (impl_IsPuzzle.calls _ _ l0_0 false _ ?side1 ?side2 A2.out).mono ?_); (case side1 => repeat (first | exact (Kd.C_below HR0_0.out HB.out) | (with_reducible refine Kd.C_alloc ?_ _) | (with_reducible refine Kd.C_drewN ?_ _) | (with_reducible refine Kd.C_drew ?_))); (case side2 => exact HC0_0.out); rintro e w12 ⟨rfl, hb⟩; refine ⟨_, rfl, ?_⟩; have n0_ := Aside0.mk (blk_below (g := gb352) (o := .cells #[.slice A0_0 l0_0.length c0_0] 30 (0, 0)) (kx_ BK352.out) hb); have n1_ := Aside0.mk (below_step (hs_ GE352.out) hb); clear BK352; clear HB; have BK352 := n0_; have HB := n1_; clear n0_ n1_; (try clear hb); (try clear hb2); (try clear hk); (try clear hi)))
  go_ret2
  exact ⟨_, by first | rfl | (simp [errW_none, errW_some] <;> rfl) | (simp [*, errW_none, errW_some] <;> rfl), by first | exact Kd.R_nil _ _ _ _ _ | exact Kd.N_nil _ _ _ _ _ | exact Kd.V_nil _ _ _ _ _ | exact Kd.Q_nil _ _ _ _ _ | exact Kd.S_nil _ _ _ _ _, hs_ GE352.out⟩
def impl_CountSolutions.f (l0_0 : List (S67)) : Option (Int × Bool) := (impl_Solutions.f l0_0).bind fun bt358 => (some ((bt358.1.length : Int), bt358.2))
set_option maxHeartbeats 8000000 in
set_option maxRecDepth 100000 in
theorem impl_CountSolutions.calls (A0_0 : Option Addr) (c0_0 : Nat) (l0_0 : List (S67)) (r1 : Int) (r2 : Bool) (w : World) (hr0_0 : Kd.C k67 w A0_0 l0_0.length l0_0) (hc0_0 : l0_0.length ≤ c0_0) (h : impl_CountSolutions.f l0_0 = some (r1, r2)) :
  Calls Try.prog 18 #[.agg #[.slice A0_0 l0_0.length c0_0]] w fun e w' => e = .returned (.tuple #[.int .i64 r1, .bool r2]) ∧ Below w.heap.size w w' := by
 have hu30 := Try.underlying30
 have HR0_0 := Aside0.mk hr0_0
 have HC0_0 := Aside0.mk hc0_0
 clear hr0_0 hc0_0
 have HB := Aside0.mk (Below.refl w.heap.size w)
 have H : ((impl_Solutions.f l0_0).bind fun bt358 => (some ((bt358.1.length : Int), bt358.2))) = some (r1, r2) := h
 clear h
 replace H := bI H
 obtain ⟨⟨t358, t361⟩, A20, H⟩ := H
 replace H : (some ((t358.length : Int), t361)) = some (r1, r2) := H
 have A2 := Aside0.mk A20
 clear A20
 simp only [Option.some.injEq, Prod.mk.injEq] at H
 obtain ⟨rfl, rfl⟩ := H
 go_enter Try.func18, Try.ntmps18
 go_wp2_with (first | ((with_reducible refine gate_dst (N := 1) rfl ?_); refine box_event ?hg (N := 1) ?hd (cs := #[.slice A0_0 l0_0.length c0_0]) (t := 30) ?hr ?_; (case hd => rfl); (case hg => rfl); (case hr => first | (go_simp; done) | (go_simp; rfl)); intro gb357 hg w3 hbox hb; have n0_ := Aside0.mk (below_step hb_ hb); have n1_ := Aside0.mk (hbox); have n2_ := Aside0.mk ((by rw [hg]; exact (below_size hb_) : w.heap.size ≤ gb357)); have n3_ := Aside0.mk ((by rw [hg]; exact (below_size hb_) : w.heap.size ≤ gb357)); clear HB; have HB := n0_; have BK357 := n1_; have GW357 := n2_; have GE357 := n3_; clear n0_ n1_ n2_ n3_; clear hb hbox hg; have hcz4_0 : w3.cell? ⟨gb357, 0, none⟩ = some (.slice A0_0 l0_0.length c0_0) := (blk_cell BK357.out 0).trans rfl; have hfz4_0 := blk_frozen BK357.out 0) | ((with_reducible refine gate_callee (f := 33) rfl ?_); refine goesL_ (some 8) rfl rfl Try.func33 (by kernel_rfl) rfl #[.agg #[.slice A0_0 l0_0.length c0_0]] rfl ar_ ?_; (with_reducible refine (impl_Solutions.calls _ _ l0_0 t358 t361 _ ?side1 ?side2 A2.out).mono ?_); (case side1 => repeat (first | exact (Kd.C_below HR0_0.out HB.out) | (with_reducible refine Kd.C_alloc ?_ _) | (with_reducible refine Kd.C_drewN ?_ _) | (with_reducible refine Kd.C_drew ?_))); (case side2 => exact HC0_0.out); rintro e w5 ⟨v359, rfl, ho0, hb⟩; refine ⟨_, rfl, ?_⟩; have n0_ := Aside0.mk (Kd.R_lower ho0 (below_size (hs_ GE357.out))); have n1_ := Aside0.mk (blk_below (g := gb357) (o := .cells #[.slice A0_0 l0_0.length c0_0] 30 (0, 0)) (kx_ BK357.out) hb); have n2_ := Aside0.mk (below_step (hs_ GE357.out) hb); clear BK357; clear HB; have HO360 := n0_; have BK357 := n1_; have HB := n2_; clear n0_ n1_ n2_; (try clear hb); (try clear hb2); (try clear hk); (try clear hi); (try clear ho0); obtain ⟨Ao6, co6, eo6⟩ := Kd.R_slice HO360.out; subst eo6))
 go_ret2
 exact ⟨by first | rfl | (simp [errW_none, errW_some] <;> rfl) | (simp [*, errW_none, errW_some] <;> rfl), hs_ GE357.out⟩
end Go.Proofs.Ytkgaljocaapobaa.Pr
/- What slices.Clone makes of clues: the same clues, in memory of the call's own. -/
namespace Go.Proofs.Ytkgaljocaapobaa.Pr
open Go.RowKit Go.Proofs.YtkgaljocaapobaaW.PrintWords Go.Proofs.YtkgaljocaapobaaW.PrintLast Go.Proofs.YtkgaljocaapobaaW.PrintMore
def impl_Clue_55.f (l0 : List (S67)) : Option ((List (S67))) := if l0.length < 1000000000000 then some l0 else none
set_option maxHeartbeats 4000000 in
set_option maxRecDepth 100000 in
theorem impl_Clue_55.calls (A0 : Option Addr) (c0 : Nat) (l0 : List (S67)) (r : List (S67)) (w : World) (hr0 : Kd.C k67 w A0 l0.length l0) (hc0 : l0.length ≤ c0) (h : impl_Clue_55.f l0 = some r) :
    Calls Try.prog 55 #[.slice A0 l0.length c0] w fun e w' => ∃ v0_ : Value, e = .returned (v0_) ∧ Kd.R k67 67 w' w.heap.size (fun _ => True) v0_ r ∧ Below w.heap.size w w' := by
  unfold impl_Clue_55.f at h
  by_cases hl : l0.length < 1000000000000
  · rw [if_pos hl] at h
    obtain rfl := oI h
    have hu := Try.underlying67
    have q22 : ∀ (w : World) (a : Option Addr) (n c n' c' : Nat), (binOp .eql 28 (.slice a n c) (.slice none n' c')).run Try.prog w = .ok (.bool a.isNone) w := fun w a n c n' c' => Lib.run_eql_slice_nil w _ _ a n c n' c' Try.underlying28
    cases A0 with
    | none =>
      have h0 : l0 = [] := by
        cases hll : l0 with
        | nil => rfl
        | cons x t =>
          obtain ⟨ad, e, _⟩ := hr0.2.2 (by rw [hll]; simp)
          cases e
      subst h0
      have HR := Aside0.mk (show Kd.R k67 67 w w.heap.size (fun _ => True) (.slice none 0 0) [] from Kd.R_nil _ _ _ _ _)
      clear hr0 h hl
      go_enter Try.func55, Try.ntmps55
      go_wp2
      go_ret
      exact ⟨_, rfl, HR.out, Below.refl _ _⟩
    | some ad =>
      have HR0 := Aside0.mk hr0
      have HB := Aside0.mk (Below.refl w.heap.size w)
      clear hr0 h
      go_enter Try.func55, Try.ntmps55
      go_wp2_with (first | ((with_reducible refine gate_dst (N := 5) rfl ?_); refine Kd.R_lit k67 _ 67 ?hg (N := 5) ?hd (xs := ([] : List (S67))) (inner := []) (ok := fun _ => True) (okp := fun _ => True) ?hr ?hp (fun _ hk => hk) trivial (Below.refl _ _) (Nat.le_refl _) (by simp) ?_; (case hd => rfl); (case hg => rfl); (case hr => first | (go_simp; done) | (go_simp; rfl)); (case hp => exact (Reps.none _ _)); intro v244 w6 ho7 hb hg_ hnew_; clear hg_ hnew_; have n0_ := Aside0.mk (Kd.R_lower ho7 (below_size hb_)); have n1_ := Aside0.mk (below_step hb_ hb); clear HB; have HO0 := n0_; have HB := n1_; clear n0_ n1_; clear hb ho7) | ((with_reducible refine gate_builtin (b := .append) (xs := #[.tmp 5, .tmp 6]) rfl ?_); at_builtin; refine Kd.R_append_rows k67 (w0 := w) w.heap.size rfl (.tmp 5) (.tmp 6) 28 67 (.agg #[(.int .i64 0), (.int .i64 0), (.int .i64 0)]) 24 rfl Try.underlying28 info67 rfl (by decide) (by omega) v244 [] l0 _ _ _ (fun _ => True) (fun _ => False) rfl rfl ?aO ?aR (fun _ _ h => h) (fun _ h => h.elim) ?aF ?aB ?aS ?aL ?_; (case aR => repeat (first | exact (Kd.C_below HR0.out HB.out) | (with_reducible refine Kd.C_alloc ?_ _) | (with_reducible refine Kd.C_drewN ?_ _) | (with_reducible refine Kd.C_drew ?_))); (case aB => exact hb_); (case aF => exact (fun _ _ => trivial)); (case aO => exact (by (with_reducible repeat (first | apply rA | apply rN | apply rD)); exact HO0.out)); (case aS => exact (below_size hb_)); (case aL => simp; omega); intro v361 w25 ho hb hg hat; have n0_ := Aside0.mk hb; have n1_ := Aside0.mk ho; clear HB; clear HO0; have HB := n0_; have HO := n1_; clear n0_ n1_; clear ho hb hg hat))
      go_ret
      exact ⟨v361, rfl, HO.out, HB.out⟩
  · rw [if_neg hl] at h
    cases h
end Go.Proofs.Ytkgaljocaapobaa.Pr
/- A row of clues of the call's own, laid open cell by cell and put together again. -/
namespace Go.Proofs.Ytkgaljocaapobaa.Pr
open Go.RowKit Go.Sort Go.Proofs.YtkgaljocaapobaaW.PrintWords Go.Proofs.YtkgaljocaapobaaW.PrintLast Go.Proofs.YtkgaljocaapobaaW.PrintMore
instance : Inhabited S67 := ⟨z67⟩
instance : DecidableEq S67 := fun x y =>
  match x, y with
  | ⟨a, b, a3⟩, ⟨c, d, c3⟩ => if h : a = c ∧ b = d ∧ a3 = c3 then isTrue (by rw [h.1, h.2.1, h.2.2]) else isFalse (fun e => h (by injection e with e1 e2 e3; exact ⟨e1, e2, e3⟩))
def encT (x : S67) : List Value := [.int .i64 x.f0, .int .i64 x.f1, .int .i64 x.f2]
theorem encT_length (x : S67) : (encT x).length = 3 := rfl
/-- The cells of the elements. -/
def RowT (W : World) (g : Nat) (xs : List S67) : Prop := ∀ i (h : i < xs.length), W.cell? ⟨g, i * 3, none⟩ = some (.int .i64 xs[i].f0) ∧ W.cell? ⟨g, i * 3 + 1, none⟩ = some (.int .i64 xs[i].f1) ∧ W.cell? ⟨g, i * 3 + 2, none⟩ = some (.int .i64 xs[i].f2)
theorem holdsT_of {W : World} {g : Nat} {xs : List S67} (hc : RowT W g xs) (hf : ∀ j, W.frozen? ⟨g, j, none⟩ = false) : HoldsK encT 3 W g 0 xs.toArray := fun j hj => by
  have hj' : j < xs.length * 3 := by simpa using hj
  rw [Nat.zero_add]
  refine ⟨?_, hf j⟩
  rw [get_flatK _ _ _ _ (by simpa using hj')]
  have hd : j / 3 < xs.length := by omega
  have e : xs.toArray[j / 3]! = xs[j / 3] := by simp [hd]
  rw [e]
  obtain ⟨h1, h2, h3⟩ := hc (j / 3) hd
  obtain hm | hm | hm : j % 3 = 0 ∨ j % 3 = 1 ∨ j % 3 = 2 := by omega
  · rw [hm]
    have e2 : (⟨g, j, none⟩ : Addr) = ⟨g, j / 3 * 3, none⟩ := by congr 1; omega
    rw [e2]
    exact h1
  · rw [hm]
    have e2 : (⟨g, j, none⟩ : Addr) = ⟨g, j / 3 * 3 + 1, none⟩ := by congr 1; omega
    rw [e2]
    exact h2
  · rw [hm]
    have e2 : (⟨g, j, none⟩ : Addr) = ⟨g, j / 3 * 3 + 2, none⟩ := by congr 1; omega
    rw [e2]
    exact h3
theorem rowT_of_holds {W : World} {g : Nat} {d : Array S67} (h : HoldsK encT 3 W g 0 d) : RowT W g d.toList := fun i hi => by
  have hi' : i < d.size := by simpa using hi
  have h0 := (HoldsK.cell h hi' (show 0 < 3 by omega)).1
  have h1 := (HoldsK.cell h hi' (show 1 < 3 by omega)).1
  have h2 := (HoldsK.cell h hi' (show 2 < 3 by omega)).1
  rw [Nat.zero_add, getElem!_pos d i hi'] at h0 h1 h2
  have e : d.toList[i] = d[i] := by simp
  rw [e]
  exact ⟨h0, h1, h2⟩
/-- A row that is the call's own: empty, or a block whose first cells are the elements'. -/
theorem openT_own {W : World} {base : Nat} {ok : Nat → Prop} {v : Value} {xs : List S67} (h : Kd.R k67 67 W base ok v xs) :
    (v = .slice none 0 0 ∧ xs = []) ∨ ∃ g cap cur, v = .slice (some ⟨g, 0, none⟩) xs.length cap ∧ ok g ∧ base ≤ g ∧ W.heap[g]? = some (.cells cur 67 (0, 0)) ∧ xs.length ≤ cap ∧ cap ≤ maxLen ∧ cur.size = cap * 3 ∧ RowT W g xs := by
  obtain ⟨h0, inner, ho, hr⟩ := h
  obtain ⟨hl, hv⟩ := ho
  rcases hv with ⟨rfl, hn⟩ | ⟨g, cap, cur, rfl, hg, hb, hn, hm, hs, ht⟩
  · exact .inl ⟨rfl, List.eq_nil_of_length_eq_zero hn⟩
  · refine .inr ⟨g, cap, cur, rfl, h0 g rfl, hg, hb, hn, hm, hs, fun i hi => ?_⟩
    have hk2 := k67_openM (hr.2 i xs[i] (List.getElem?_eq_getElem hi))
    have hsz : k67.sz = 3 := rfl
    rw [hsz] at hk2 ht
    have e0 : ((inner.drop (i * 3)).take 3)[0]? = some (.int .i64 xs[i].f0) := by rw [hk2]; rfl
    have e1 : ((inner.drop (i * 3)).take 3)[1]? = some (.int .i64 xs[i].f1) := by rw [hk2]; rfl
    have e2 : ((inner.drop (i * 3)).take 3)[2]? = some (.int .i64 xs[i].f2) := by rw [hk2]; rfl
    rw [List.getElem?_take_of_lt (by omega), List.getElem?_drop] at e0 e1 e2
    have hq : ∀ q, q < xs.length * 3 → W.cell? ⟨g, q, none⟩ = inner[q]? := by
      intro q hq
      rw [blk_cell hb q, ← ht, List.getElem?_take_of_lt hq]
      simp
    exact ⟨by rw [hq _ (by omega)]; simpa using e0, by rw [hq _ (by omega)]; exact e1, by rw [hq _ (by omega)]; exact e2⟩
theorem shutT_own {W : World} {base g cap : Nat} {ok : Nat → Prop} {cur : Array Value} {zs : List S67} (hok : ok g) (hg : base ≤ g) (hb : W.heap[g]? = some (.cells cur 67 (0, 0))) (hn : zs.length ≤ cap) (hm : cap ≤ maxLen) (hs : cur.size = cap * 3)
    (hc : RowT W g zs) : Kd.R k67 67 W base ok (.slice (some ⟨g, 0, none⟩) zs.length cap) zs := by
  have hle : zs.length * 3 ≤ cur.size := by rw [hs]; exact Nat.mul_le_mul_right 3 hn
  refine ⟨fun k hk => by have : g = k := by simpa [Value.ownBlock] using hk
                         subst this; exact hok, cur.toList.take (zs.length * 3), ⟨?_, .inr ⟨g, cap, cur, rfl, hg, hb, hn, hm, hs, rfl⟩⟩, ?_, fun j p hj => ?_⟩
  · show (cur.toList.take (zs.length * 3)).length = zs.length * 3
    rw [List.length_take]
    exact Nat.min_eq_left (by rw [Array.length_toList]; exact hle)
  · show (cur.toList.take (zs.length * 3)).length = zs.length * 3
    rw [List.length_take]
    exact Nat.min_eq_left (by rw [Array.length_toList]; exact hle)
  · obtain ⟨hjl, rfl⟩ := List.getElem?_eq_some_iff.1 hj
    obtain ⟨h0, h1, h2⟩ := hc j hjl
    rw [blk_cell hb] at h0 h1 h2
    have hsz : k67.sz = 3 := rfl
    rw [hsz]
    have e : ((cur.toList.take (zs.length * 3)).drop (j * 3)).take 3 = [.int .i64 zs[j].f0, .int .i64 zs[j].f1, .int .i64 zs[j].f2] := by
      apply List.ext_getElem?
      intro q
      match q with
      | 0 =>
        rw [List.getElem?_take_of_lt (by omega), List.getElem?_drop, List.getElem?_take_of_lt (by omega)]
        simpa using h0
      | 1 =>
        rw [List.getElem?_take_of_lt (by omega), List.getElem?_drop, List.getElem?_take_of_lt (by omega)]
        simpa using h1
      | 2 =>
        rw [List.getElem?_take_of_lt (by omega), List.getElem?_drop, List.getElem?_take_of_lt (by omega)]
        simpa using h2
      | q + 3 =>
        rw [List.getElem?_eq_none (by rw [List.length_take]; omega), List.getElem?_eq_none (by simp)]
    rw [e]
    exact k67_mkM _ _ _ _
end Go.Proofs.Ytkgaljocaapobaa.Pr
/- What slices.Delete does to a row of clues of the call's own. -/
namespace Go.Proofs.Ytkgaljocaapobaa.Pr
open Go.RowKit Go.Sort Go.Lib Go.Proofs.YtkgaljocaapobaaW.PrintWords Go.Proofs.YtkgaljocaapobaaW.PrintLast Go.Proofs.YtkgaljocaapobaaW.PrintMore
/-- The end of it: the first cells are those of the elements xs. -/
def RowEnd (w : World) (blk : Nat) (d : Array S67) (xs : List S67) (w' : World) : Prop :=
  ∃ q F, w' = putRow id (Sort.ahead w q) blk 0 F ∧ F.size = d.size * 3 ∧ ∀ j, j < xs.length * 3 → F[j]! = (flatK encT 3 xs.toArray)[j]!
def zerosT (n : Nat) : List Value := (Builtin.zeroCells (Value.cells (.agg #[.int .i64 0, .int .i64 0, .int .i64 0])) n).toList
theorem zerosT_length (n : Nat) : (zerosT n).length = n * 3 := by simp [zerosT, Builtin.zeroCells, Value.cells]
theorem run_clear_clue (w : World) (ty : TypeId) (b o n c : Nat) (hn : 0 < n) (hc : ∀ j, j < n * 3 → (w.cell? ⟨b, o + j, none⟩).isSome = true) (hf : ∀ j, j < n * 3 → w.frozen? ⟨b, o + j, none⟩ = false) :
    (Builtin.clear_ #[28] ty #[.slice (some ⟨b, o, none⟩) n c]).run Try.prog w = .ok (.tuple #[]) (w.setCells b o (zerosT n)) := by
  have hv : ∀ w, (zeroValue 67).run Try.prog w = .ok (.agg #[.int .i64 0, .int .i64 0, .int .i64 0]) w := Try.zeroValue67
  have hone : ∀ v ∈ zerosT n, v.oneCell' = true := by
    intro v hv
    simp [zerosT, Builtin.zeroCells, Value.cells] at hv
    obtain ⟨i, hi, rfl⟩ := hv
    obtain h | h | h : i % 3 = 0 ∨ i % 3 = 1 ∨ i % 3 = 2 := by omega
    all_goals simp [h, Value.oneCell']
  have hst := run_storeCells_cells (P := Try.prog) b o (zerosT n) 0 w (fun j hj => by rw [Nat.add_zero]; exact hc j (by rw [zerosT_length] at hj; exact hj)) (fun j hj => by rw [Nat.add_zero]; exact hf j (by rw [zerosT_length] at hj; exact hj)) hone
  simp only [Nat.add_zero] at hst
  obtain ⟨m, rfl⟩ : ∃ m, n = m + 1 := ⟨n - 1, by omega⟩
  unfold zerosT at hst ⊢
  simp [Builtin.clear_, run_underlying Try.underlying28, hv, hst]
/-- The cells behind the move. -/
theorem del_cells (d : Array S67) (i j : Nat) (hij : i ≤ j) (hj : j ≤ d.size) (z : List Value) (t : Nat) (ht : t < (i + (d.size - j)) * 3) :
    (setMany (setMany (flatK encT 3 d) (i * 3) ((flatK encT 3 d).toList.drop (j * 3))) ((i + (d.size - j)) * 3) z)[t]! = (flatK encT 3 (d.toList.take i ++ d.toList.drop j).toArray)[t]! := by
  have hn : ((flatK encT 3 d).toList.drop (j * 3)).length = (d.size - j) * 3 := by simp; omega
  rw [get_setMany _ _ _ t (by simp; omega), if_neg (by omega), get_setMany _ _ _ t (by simp; omega), hn]
  have hsz : (d.toList.take i ++ d.toList.drop j).toArray.size = i + (d.size - j) := by simp; omega
  rw [get_flatK _ _ (d.toList.take i ++ d.toList.drop j).toArray t (by rw [hsz]; exact ht)]
  by_cases c : t < i * 3
  · rw [if_neg (by omega), get_flatK _ _ _ t (by omega)]
    have e : (d.toList.take i ++ d.toList.drop j).toArray[t / 3]! = d[t / 3]! := by
      have h1 : t / 3 < i := by omega
      rw [getElem!_pos (d.toList.take i ++ d.toList.drop j).toArray (t / 3) (by rw [hsz]; omega), getElem!_pos d (t / 3) (by omega)]
      simp only [List.getElem_toArray]
      rw [List.getElem_append_left (by simp; omega)]
      simp
    rw [e]
  · rw [if_pos (by omega)]
    have hsrc : ((flatK encT 3 d).toList.drop (j * 3))[t - i * 3]! = (flatK encT 3 d)[j * 3 + (t - i * 3)]! := by
      rw [List.getElem!_eq_getElem?_getD, List.getElem?_drop, Array.getElem?_toList, getElem!_pos (flatK encT 3 d) _ (by simp; omega), Array.getElem?_eq_getElem (by simp; omega)]
      rfl
    have e : (d.toList.take i ++ d.toList.drop j).toArray[t / 3]! = d[(j * 3 + (t - i * 3)) / 3]! := by
      have h1 : i ≤ t / 3 := by omega
      rw [getElem!_pos (d.toList.take i ++ d.toList.drop j).toArray (t / 3) (by rw [hsz]; omega), getElem!_pos d ((j * 3 + (t - i * 3)) / 3) (by omega)]
      simp only [List.getElem_toArray]
      have hl : (d.toList.take i).length = i := by simp; omega
      rw [List.getElem_append_right (by omega)]
      simp only [List.getElem_drop, Array.getElem_toList]
      congr 1
      omega
    have hq := get_flatK encT 3 d (j * 3 + (t - i * 3)) (by omega)
    rw [hsrc, hq, e, show (j * 3 + (t - i * 3)) % 3 = t % 3 by omega]
set_option maxHeartbeats 4000000 in
set_option maxRecDepth 1000000 in
theorem delete_clue (blk cap i j : Nat) (d : Array S67) (w : World) (hH : HoldsK encT 3 w blk 0 d) (hcap : d.size ≤ cap) (hm : cap ≤ 9223372036854775807) (hij : i ≤ j) (hj : j ≤ d.size) :
    Calls Try.prog 69 #[.slice (some ⟨blk, 0, none⟩) d.size cap, .int .i64 i, .int .i64 j] w fun e w' => e = .returned (.slice (some ⟨blk, 0, none⟩) (d.size - (j - i)) cap) ∧ RowEnd w blk d (d.toList.take i ++ d.toList.drop j) w' := by
  by_cases heq : i = j
  · subst heq
    have h0 : Calls Try.prog 69 #[.slice (some ⟨blk, 0, none⟩) d.size cap, .int .i64 i, .int .i64 i] w fun e w' => e = .returned (.slice (some ⟨blk, 0, none⟩) d.size cap) ∧ w' = w := by
      clear hH
      go_enter Try.func69, Try.ntmps69
      go_wp2
      all_goals (go_ret; exact ⟨rfl, rfl⟩)
    refine h0.mono ?_
    rintro e w' ⟨rfl, rfl⟩
    refine ⟨by rw [Nat.sub_self, Nat.sub_zero], 0, flatK encT 3 d, ?_, by simp, fun t ht => ?_⟩
    · exact (putRowK_self encT 3 (Sort.ahead w' 0) blk 0 d (holdsK_ahead encT 3 w' 0 blk 0 d hH)).symm
    · rw [List.take_append_drop]
  · have hlt : i < j := by omega
    obtain ⟨news, hnews⟩ : ∃ news, news = (flatK encT 3 d).toList.drop (j * 3) := ⟨_, rfl⟩
    have hlen : news.length = (d.size - j) * 3 := by rw [hnews]; simp; omega
    have hget : ∀ t, t < (d.size - j) * 3 → news[t]? = some (flatK encT 3 d)[j * 3 + t]! := by
      intro t ht
      rw [hnews, List.getElem?_drop, Array.getElem?_toList, getElem!_pos (flatK encT 3 d) (j * 3 + t) (by simp; omega), Array.getElem?_eq_getElem (by simp; omega)]
    obtain ⟨A, hA, hsrc⟩ : ∃ A : Addr, (if cap = j then (some (⟨blk, 0, none⟩ : Addr)) else some ⟨blk, j * 3, none⟩) = some A ∧ Hid (∀ t u, news[t]? = some u → w.drew.cell? (A.add t) = some u) := by
      by_cases h : cap = j
      · refine ⟨⟨blk, 0, none⟩, by simp [h], fun t u hu => ?_⟩
        have h0 : news.length = 0 := by rw [hlen]; omega
        rw [List.length_eq_zero_iff.1 h0] at hu
        simp at hu
      · refine ⟨⟨blk, j * 3, none⟩, by simp [h], fun t u hu => ?_⟩
        have ht : t < (d.size - j) * 3 := by
          have := (List.getElem?_eq_some_iff.1 hu).1
          rwa [hlen] at this
        rw [hget t ht] at hu
        rw [Addr.add_lit]
        have := (hH (j * 3 + t) (by simp; omega)).1
        rw [Nat.zero_add] at this
        exact this.trans hu
    have s1 : Hid (news.length = (d.size - j) * 3) := hlen
    have s2 : Hid (∀ u ∈ news, u.oneCell' = true) := by
      intro u hu
      obtain ⟨t, ht, e⟩ := List.getElem_of_mem hu
      have h1 := hget t (by rw [← hlen]; exact ht)
      rw [List.getElem?_eq_getElem ht, e, get_flatK _ _ _ _ (by rw [hlen] at ht; omega)] at h1
      rw [oI h1]
      have hm3 : (j * 3 + t) % 3 < 3 := Nat.mod_lt _ (by omega)
      generalize (j * 3 + t) % 3 = q at hm3
      obtain rfl | rfl | rfl : q = 0 ∨ q = 1 ∨ q = 2 := by omega
      all_goals rfl
    have s3 : Hid (∀ t, t < news.length → (w.drew.cell? ⟨blk, 0 + i * 3 + t, none⟩).isSome = true ∧ w.drew.frozen? ⟨blk, 0 + i * 3 + t, none⟩ = false) := by
      intro t ht
      rw [hlen] at ht
      have := hH (i * 3 + t) (by simp; omega)
      rw [Nat.zero_add] at this ⊢
      exact ⟨by show (w.cell? _).isSome = true; rw [this.1]; rfl, this.2⟩
    obtain ⟨W1, hW1⟩ : ∃ W1, W1 = w.drew.setCells blk (0 + i * 3) news := ⟨_, rfl⟩
    have hW1' : W1 = putRow id (Sort.ahead w 1) blk 0 (setMany (flatK encT 3 d) (i * 3) news) := by
      have h2 := setCells_putRow (Sort.ahead w 1) blk 0 news (i * 3) (flatK encT 3 d) (by rw [hlen]; simp; omega)
      rw [hW1, ← h2]
      exact congrArg (fun W : World => W.setCells blk (0 + i * 3) news) (putRowK_self encT 3 (Sort.ahead w 1) blk 0 d (holdsK_ahead encT 3 w 1 blk 0 d hH)).symm
    have hH1 : Holds id W1 blk 0 (setMany (flatK encT 3 d) (i * 3) news) := by
      rw [hW1']
      exact holds_putRow id (Sort.ahead w 1) blk 0 (flatK encT 3 d) _ hH (by simp)
    have hcl : ∀ ty, (Builtin.clear_ #[28] ty #[.slice (some ⟨blk, (i + (d.size - j)) * 3, none⟩) (d.size - (i + (d.size - j))) (cap - (i + (d.size - j)))]).run Try.prog W1 = .ok (.tuple #[]) (W1.setCells blk ((i + (d.size - j)) * 3) (zerosT (d.size - (i + (d.size - j))))) :=
      fun ty => run_clear_clue W1 ty blk ((i + (d.size - j)) * 3) _ _ (by omega) (fun t ht => by have := (hH1 ((i + (d.size - j)) * 3 + t) (by simp; omega)).1; rw [Nat.zero_add] at this; rw [this]; rfl) (fun t ht => by have := (hH1 ((i + (d.size - j)) * 3 + t) (by simp; omega)).2; rw [Nat.zero_add] at this; exact this)
    have X : Aside0 (RowEnd w blk d (d.toList.take i ++ d.toList.drop j) (W1.setCells blk ((i + (d.size - j)) * 3) (zerosT (d.size - (i + (d.size - j)))))) := ⟨by
      have h3 := setCells_putRow (Sort.ahead w 1) blk 0 (zerosT (d.size - (i + (d.size - j)))) ((i + (d.size - j)) * 3) (setMany (flatK encT 3 d) (i * 3) news) (by rw [zerosT_length]; simp; omega)
      rw [Nat.zero_add, ← hW1'] at h3
      refine ⟨1, _, h3, by simp, fun t ht => ?_⟩
      rw [hnews]
      exact del_cells d i j hij hj _ t (by have : (d.toList.take i ++ d.toList.drop j).length = i + (d.size - j) := by simp; omega
                                           rw [this] at ht
                                           exact ht)⟩
    have hW : Hid (W1 = w.drew.setCells blk (0 + i * 3) news) := hW1
    have hic : i ≤ cap := by omega
    have hjc : j ≤ cap := by omega
    clear hW1 hW1' hH1 hH hget hnews hlen
    obtain ⟨i0, hi0, hz0⟩ := Option.map_eq_some_iff.1 info67
    have hz1 : i0.size = 3 := congrArg (fun z => z.2.1) hz0
    clear hz0
    have hu0 := Try.underlying67
    go_enter Try.func69, Try.ntmps69
    go_wp2_with fail
    go_region_law (refine step_append_room rfl (.tmp 22) (.tmp 25) 28 rfl 67 i0 3 Try.underlying28 hi0 hz1 blk 0 i cap (by simp [Act.eval, Act.put]) A (d.size - j) (cap - j) news (by simp [Act.eval, Act.put, hA]) s1.out hsrc.out s2.out (by omega) s3.out ?_; rw [← hW.out])
    go_wp2
    go_ret
    exact ⟨by rw [show d.size - (j - i) = i + (d.size - j) by omega]; rfl, X.out⟩
theorem del_end {w w2 : World} {g cap base : Nat} {ok : Nat → Prop} {cur : Array Value} {xs ys : List S67} (hok : ok g) (hg : base ≤ g) (hB : base ≤ w.heap.size) (hb : w.heap[g]? = some (.cells cur 67 (0, 0))) (hn : xs.length ≤ cap) (hm : cap ≤ maxLen) (hs : cur.size = cap * 3)
    (hH : HoldsK encT 3 w g 0 xs.toArray) (hy : ys.length ≤ xs.length) (h2 : RowEnd w g xs.toArray ys w2) :
    Kd.R k67 67 w2 base ok (.slice (some ⟨g, 0, none⟩) ys.length cap) ys ∧ Below base w w2 ∧ Kept w w2 ok := by
  obtain ⟨q, F, e2, hF, hFj⟩ := h2
  have hb2 : w2.heap[g]? = some (.cells (putCells id 0 F cur) 67 (0, 0)) := by
    rw [e2]
    exact blk_putRow (w := Sort.ahead w q) F hb
  have hB2 : Below base w w2 := by
    rw [e2]
    exact (below_ahead q).trans (below_putRow F hg)
  have hK2 : Kept w w2 ok := by
    rw [e2]
    exact (kept_ahead q).then_ (kept_putRow F hok) (fun _ h => .inl h)
  have hholds : Holds id w2 g 0 F := by
    rw [e2]
    exact holds_putRow id (Sort.ahead w q) g 0 (flatK encT 3 xs.toArray) F hH (by rw [hF, size_flatK])
  have hle : ys.length * 3 ≤ F.size := by
    rw [hF]
    simp
    omega
  have hK : HoldsK encT 3 w2 g 0 ys.toArray := fun j hj => by
    rw [size_flatK] at hj
    have hj' : j < ys.length * 3 := by simpa using hj
    obtain ⟨c1, f1⟩ := hholds j (by omega)
    refine ⟨?_, f1⟩
    rw [c1]
    exact congrArg some (hFj j hj')
  have hrow := rowT_of_holds hK
  refine ⟨shutT_own hok hg hb2 (Nat.le_trans hy hn) hm (by rw [size_putCells_id, hs]) ?_, hB2, hK2⟩
  simpa using hrow
def impl_Clue_69.f (l0 : List (S67)) (a1 : Int) (a2 : Int) : Option ((List (S67))) :=
  if 0 < l0.length ∧ 0 ≤ a1 ∧ a1 ≤ a2 ∧ a2 ≤ (l0.length : Int) then some (l0.take a1.toNat ++ l0.drop a2.toNat) else none
theorem impl_Clue_69.calls (P0_ : Nat → Prop) (u9000_ : Value) (l0 : List (S67)) (a1 : Int) (a2 : Int) (r : List (S67)) (w0 w : World) (hB : Below w0.heap.size w0 w) (ho0 : Kd.R k67 67 w w0.heap.size P0_ u9000_ l0) (h : impl_Clue_69.f l0 a1 a2 = some r) :
    Calls Try.prog 69 #[u9000_, .int .i64 a1, .int .i64 a2] w fun e w' => ∃ v0_ : Value, e = .returned (v0_) ∧ Kd.R k67 67 w' w0.heap.size (fun k_ => (P0_ k_ ∨ w.heap.size ≤ k_)) v0_ r ∧ Below w0.heap.size w0 w' ∧ Kept w w' (fun k_ => P0_ k_) := by
  unfold impl_Clue_69.f at h
  by_cases hl : 0 < l0.length ∧ 0 ≤ a1 ∧ a1 ≤ a2 ∧ a2 ≤ (l0.length : Int)
  · rw [if_pos hl] at h
    obtain rfl := oI h
    obtain ⟨hpos, h0, h12, h2⟩ := hl
    rcases openT_own ho0 with ⟨rfl, rfl⟩ | ⟨g, cap, cur, rfl, hok, hg, hb, hn, hm, hs, hrow⟩
    · simp at hpos
    · have hH := holdsT_of hrow (unfrozen hb)
      have hd := delete_clue g cap a1.toNat a2.toNat l0.toArray w hH (by simpa using hn) (Nat.le_trans hm (by unfold maxLen; omega)) (by omega) (by simp; omega)
      rw [Int.toNat_of_nonneg h0, Int.toNat_of_nonneg (by omega)] at hd
      have hlen : (l0.take a1.toNat ++ l0.drop a2.toNat).length = l0.toArray.size - (a2.toNat - a1.toNat) := by simp; omega
      refine hd.mono fun e w' ⟨he, hend⟩ => ?_
      obtain ⟨r1, r2, r3⟩ := del_end hok hg hB.size hb hn hm hs hH (by rw [hlen]; simp) hend
      rw [← hlen] at he
      exact ⟨_, he, Kd.R_mono r1 (fun _ h => .inl h), hB.trans r2, r3⟩
  · rw [if_neg hl] at h
    cases h
end Go.Proofs.Ytkgaljocaapobaa.Pr
namespace Go.Proofs.Ytkgaljocaapobaa.Pr
open Go.RowKit Go.Proofs.YtkgaljocaapobaaW.PrintWords Go.Proofs.YtkgaljocaapobaaW.PrintLast Go.Proofs.YtkgaljocaapobaaW.PrintMore
attribute [local go_sem] max2_int min2_int max_two min_two max_three min_three max_four min_four
def impl_lessOne.f (l0 : List (S67)) (a1 : Int) : Option ((List (S67))) := (impl_Clue_55.f l0).bind fun t181 => ((impl_Clue_69.f t181 a1 (wrap64 (a1 + 1))).bind fun t184 => (some t184))
set_option maxHeartbeats 8000000 in
set_option maxRecDepth 100000 in
theorem impl_lessOne.calls (A0 : Option Addr) (c0 : Nat) (l0 : List (S67)) (a1 : Int) (r : List (S67)) (w : World) (hr0 : Kd.C k67 w A0 l0.length l0) (hc0 : l0.length ≤ c0) (h : impl_lessOne.f l0 a1 = some r) :
  Calls Try.prog 56 #[.slice A0 l0.length c0, .int .i64 a1] w fun e w' => ∃ v0_ : Value, e = .returned (v0_) ∧ Kd.R k67 67 w' w.heap.size (fun _ => True) v0_ r ∧ Below w.heap.size w w' := by
 have HR0 := Aside0.mk hr0
 have HC0 := Aside0.mk hc0
 clear hr0 hc0
 have HB := Aside0.mk (Below.refl w.heap.size w)
 have H : ((impl_Clue_55.f l0).bind fun t181 => ((impl_Clue_69.f t181 a1 (wrap64 (a1 + 1))).bind fun t184 => (some t184))) = some r := h
 clear h
 replace H := bI H
 obtain ⟨t181, A30, H⟩ := H
 replace H : ((impl_Clue_69.f t181 a1 (wrap64 (a1 + 1))).bind fun t184 => (some t184)) = some r := H
 have A3 := Aside0.mk A30
 clear A30
 replace H := bI H
 obtain ⟨t184, A40, H⟩ := H
 replace H : (some t184) = some r := H
 have A4 := Aside0.mk A40
 clear A40
 obtain rfl := oI H
 go_enter Try.func56, Try.ntmps56
 go_wp2_with (first | ((with_reducible refine gate_callee (f := 55) rfl ?_); refine goesL_ (some 6) rfl rfl Try.func55 (by kernel_rfl) rfl #[.slice A0 l0.length c0] rfl ar_ ?_; (with_reducible refine (impl_Clue_55.calls _ _ l0 t181 _ ?side1 ?side2 A3.out).mono ?_); (case side1 => repeat (first | exact HR0.out | (with_reducible refine Kd.C_alloc ?_ _) | (with_reducible refine Kd.C_drewN ?_ _) | (with_reducible refine Kd.C_drew ?_))); (case side2 => exact HC0.out); rintro e w5 ⟨v182, rfl, ho0, hb⟩; refine ⟨_, rfl, ?_⟩; have n0_ := Aside0.mk (Kd.R_lower ho0 (below_size hb_)); have n1_ := Aside0.mk (below_step hb_ hb); clear HB; have HO183 := n0_; have HB := n1_; clear n0_ n1_; (try clear hb); (try clear hb2); (try clear hk); (try clear hi); (try clear ho0); obtain ⟨Ao6, co6, eo6⟩ := Kd.R_slice HO183.out; subst eo6) | ((with_reducible refine gate_callee (f := 69) rfl ?_); refine goesL_ (some 10) rfl rfl Try.func69 (by kernel_rfl) rfl #[.slice Ao6 t181.length co6, .int .i64 a1, .int .i64 (wrap64 (a1 + 1))] rfl ar_ ?_; (with_reducible refine (impl_Clue_69.calls (fun k_ => some k_ = (.slice Ao6 t181.length co6 : Value).ownBlock) (.slice Ao6 t181.length co6) t181 a1 (wrap64 (a1 + 1)) t184 w _ ?side1 ?side2 A4.out).mono ?_); (case side1 => repeat (first | (with_reducible first | exact HB.out | apply bA | apply bN | apply bD) | exact HB.out)); (case side2 => exact Kd.R_tight rfl HO183.out); rintro e w7 ⟨v185, rfl, ho0, hb, hkp⟩; refine ⟨_, rfl, ?_⟩; have n0_ := Aside0.mk (Kd.R_mono (ok' := fun k_ => True) ho0 (fun k_ hk_ => trivial)); have n1_ := Aside0.mk (hb); clear HB; clear HO183; have HO186 := n0_; have HB := n1_; clear n0_ n1_; (try clear hb); (try clear hkp); (try clear ho0)))
 go_ret
 exact ⟨_, by first | rfl | (simp [errW_none, errW_some] <;> rfl) | (simp [*, errW_none, errW_some] <;> rfl), by (with_reducible repeat (first | apply rA | apply rN | apply rD)); exact HO186.out, hb_⟩
end Go.Proofs.Ytkgaljocaapobaa.Pr
/- What the program's NeedlessClues computes: the clues without which there are as many solutions. -/
namespace Go.Proofs.Ytkgaljocaapobaa.Pr
open Go.RowKit Go.Proofs.YtkgaljocaapobaaW.PrintWords Go.Proofs.YtkgaljocaapobaaW.PrintLast Go.Proofs.YtkgaljocaapobaaW.PrintMore
/-- Whether there are as many solutions without one clue. -/
def needB (l : List S67) (c : Int) (k : Int) : Bool := ((sols ((impl_lessOne.f l k).getD [])).length : Int) == c
def impl_NeedlessClues.f (l0_0 : List (S67)) : Option (List Int × Bool) :=
  (impl_CountSolutions.f l0_0).bind fun p => if p.2 = true then (if l0_0.length ≤ 1000 ∧ ((List.range l0_0.length).all fun i => (impl_lessOne.f l0_0 (i : Int)).isSome) = true then some (numsP (needB l0_0 p.1) 0 l0_0.length, true) else none) else some ([], false)
theorem need_keep {W W1 W2 : World} (h2 : Below W1.heap.size W1 W2) (h1 : Below W.heap.size W W1) : Below W.heap.size W W2 := h1.trans (h2.mono h1.size)
set_option maxHeartbeats 1000000 in
theorem need_pred (B1 B2 : Nat) (A : Option Addr) (c : Nat) (l : List S67) (n : Int) (w : World) (hr : Kd.C k67 w A l.length l) (hc : l.length ≤ c) (h1 : B1 < w.heap.size) (h2 : B2 < w.heap.size) (x1 : w.cell? ⟨B1, 0, none⟩ = some (.slice A l.length c)) (x2 : w.cell? ⟨B2, 0, none⟩ = some (.int .i64 n)) (W : World) (x : Int) (q : List S67) (hq : impl_lessOne.f l x = some q) (hb : Below w.heap.size w W) :
    Calls Try.prog 59 #[.int .i64 x, .pointer (some ⟨B1, 0, none⟩), .pointer (some ⟨B2, 0, none⟩)] W fun e w' => e = .returned (.bool (needB l n x)) ∧ Below W.heap.size W w' := by
  have y1 : W.cell? ⟨B1, 0, none⟩ = some (.slice A l.length c) := (hb.cell (p := ⟨B1, 0, none⟩) h1).trans x1
  have y2 : W.cell? ⟨B2, 0, none⟩ = some (.int .i64 n) := (hb.cell (p := ⟨B2, 0, none⟩) h2).trans x2
  have z1 : B1 < W.heap.size := Nat.lt_of_lt_of_le h1 hb.size
  have z2 : B2 < W.heap.size := Nat.lt_of_lt_of_le h2 hb.size
  have hN : needB l n x = (((sols q).length : Int) == n) := by unfold needB; rw [hq]; rfl
  rw [hN]
  have HC := Aside0.mk (fun (W1 : World) (hb1 : Below W.heap.size W W1) => impl_lessOne.calls A c l x q W1 (Kd.C_below (Kd.C_below hr hb) hb1) hc hq)
  have HS := Aside0.mk (fun (A' : Option Addr) (c' : Nat) (W' : World) (h1 : Kd.C k67 W' A' q.length q) (h2 : q.length ≤ c') => impl_solutions.calls A' c' q (sols q) W' h1 h2 rfl)
  have HS1 := Aside0.mk (fun (W1 : World) (hb1 : Below W.heap.size W W1) => (⟨(hb1.cell (p := ⟨B1, 0, none⟩) z1).trans y1, (hb1.cell (p := ⟨B2, 0, none⟩) z2).trans y2, hb1⟩ : W1.cell? ⟨B1, 0, none⟩ = some (.slice A l.length c) ∧ W1.cell? ⟨B2, 0, none⟩ = some (.int .i64 n) ∧ Below W.heap.size W W1))
  have hu := Try.underlying67
  have hu2 := Try.underlying30
  clear hq hN hr x1 x2 hb
  go_enter Try.func59, Try.ntmps59
  go_wp2_with fail
  go_region_held3 (fun w' => w'.cell? ⟨B1, 0, none⟩ = some (.slice A l.length c) ∧ w'.cell? ⟨B2, 0, none⟩ = some (.int .i64 n) ∧ Below W.heap.size W w')
    ((go_split_ands; exact HS1.out _ (by first | assumption | exact Below.refl _ _ | exact below_drew (Below.refl _ _) | exact below_drew (by assumption) | exact need_keep (by assumption) (by assumption))))
    (first | (go_at_call 56; refine (HC.out _ (by first | assumption | exact Below.refl _ _ | exact below_drew (Below.refl _ _) | exact below_drew (by assumption))).mono ?_; rintro e w1 ⟨v1, rfl, ho1, hb1⟩; obtain ⟨A1, q1, rfl, hm1, hr1⟩ := Kd.R_reads ho1; have HR1 := Aside0.mk hr1; have HM1 := Aside0.mk hm1; clear ho1 hr1 hm1) | (go_at_call 50; refine (HS.out _ _ _ HR1.out HM1.out).mono ?_; rintro e w2 ⟨v2, rfl, ho2, hb2⟩; obtain ⟨A2, q2, rfl, hm2, hr2⟩ := Kd.R_reads ho2; clear ho2 hm2 hr2))
  all_goals
    rename_i hH
    obtain ⟨_, _, h3⟩ := hH
    go_wp2_with fail
    go_ret
    exact ⟨rfl, h3⟩
set_option maxHeartbeats 1000000 in
theorem impl_NeedlessClues.calls (A0_0 : Option Addr) (c0_0 : Nat) (l0_0 : List (S67)) (r1 : List Int) (r2 : Bool) (w : World) (hr0_0 : Kd.C k67 w A0_0 l0_0.length l0_0) (hc0_0 : l0_0.length ≤ c0_0) (h : impl_NeedlessClues.f l0_0 = some (r1, r2)) :
    Calls Try.prog 41 #[.agg #[.slice A0_0 l0_0.length c0_0]] w fun e w' => ∃ v0_ : Value, e = .returned (.tuple #[v0_, .bool r2]) ∧ Kd.R (Kd.int .i64) 3 w' w.heap.size (fun _ => True) v0_ r1 ∧ Below w.heap.size w w' := by
  obtain ⟨⟨n, ok⟩, hp, h⟩ := bI h
  dsimp only at h
  have hu := Try.underlying30
  obtain ⟨W0, hW0⟩ : ∃ W0, W0 = w.alloc (.cells #[.slice A0_0 l0_0.length c0_0] 30) := ⟨_, rfl⟩
  have hb0 : Below w.heap.size w W0 := by rw [hW0]; exact below_alloc (Below.refl _ _) _
  have hs0 : w.heap.size < W0.heap.size := by rw [hW0]; simp
  have hx0 : W0.cell? ⟨w.heap.size, 0, none⟩ = some (.slice A0_0 l0_0.length c0_0) := by rw [hW0]; simp
  have HC := Aside0.mk (impl_CountSolutions.calls A0_0 c0_0 l0_0 n ok W0 (Kd.C_below hr0_0 hb0) hc0_0 hp)
  have HB0 := Aside0.mk hb0
  have HX0 := Aside0.mk hx0
  have HS0 := Aside0.mk hs0
  have HR0 := Aside0.mk (Kd.C_below hr0_0 hb0)
  clear hp hb0 hr0_0
  cases ok with
  | false =>
    rw [if_neg (by decide)] at h
    obtain ⟨rfl, rfl⟩ := Prod.mk.inj (oI h)
    clear h hx0 hs0
    subst hW0
    go_enter Try.func41, Try.ntmps41
    go_wp2_with (go_at_call 18; refine HC.out.mono ?_; rintro e w1 ⟨rfl, hb1⟩)
    go_ret2
    exact ⟨_, rfl, Kd.R_nil _ _ _ _ _, HB0.out.trans (by first | exact (below_alloc hb1 _).mono HB0.out.size | exact hb1.mono HB0.out.size)⟩
  | true =>
    rw [if_pos rfl] at h
    by_cases hq : l0_0.length ≤ 1000 ∧ ((List.range l0_0.length).all fun i => (impl_lessOne.f l0_0 (i : Int)).isSome) = true
    · rw [if_pos hq] at h
      obtain ⟨rfl, rfl⟩ := Prod.mk.inj (oI h)
      obtain ⟨hq0, hq1⟩ := hq
      have hless : ∀ x : Int, 0 ≤ x → x ≤ (l0_0.length : Int) - 1 → ∃ q, impl_lessOne.f l0_0 x = some q := fun x h1 h2 => by
        have := List.all_eq_true.1 hq1 x.toNat (List.mem_range.2 (by omega))
        rw [Int.toNat_of_nonneg h1] at this
        exact Option.isSome_iff_exists.1 this
      have eg : ∀ args w, (callFunc 59 args).run Try.prog w = .ok (.enter 59 args) w := enters_of Try.func59 (by kernel_rfl) rfl
      have hN := Aside0.mk (fun (w1 : World) (hb1 : Below W0.heap.size W0 w1) =>
        numbersWith_calls 0 ((l0_0.length : Int) - 1) l0_0.length (by omega) (by omega) (by omega) (needB l0_0 n) 59 #[.pointer (some ⟨w.heap.size, 0, none⟩), .pointer (some ⟨w1.heap.size, 0, none⟩)] eg (w1.alloc (.cells #[.int .i64 n] 3))
          (fun W2 x h1 h2 hb2 => by
            obtain ⟨q, hq⟩ := hless x h1 h2
            have hb3 : Below W0.heap.size W0 (w1.alloc (.cells #[.int .i64 n] 3)) := below_alloc hb1 _
            exact need_pred w.heap.size w1.heap.size A0_0 c0_0 l0_0 n (w1.alloc (.cells #[.int .i64 n] 3)) (Kd.C_below HR0.out hb3) hc0_0 (Nat.lt_of_lt_of_le hs0 hb3.size) (by simp) ((hb3.cell (p := ⟨w.heap.size, 0, none⟩) hs0).trans hx0) (by simp) W2 x q hq hb2))
      generalize numsP (needB l0_0 n) 0 l0_0.length = ys at hN ⊢
      have b1 : IntKind.i64.wrap ((l0_0.length : Int) - 1) = (l0_0.length : Int) - 1 := by rw [i64_w]; exact M.w64 (by omega) (by omega)
      clear h eg hx0 hs0 hq1 hless
      subst hW0
      go_enter Try.func41, Try.ntmps41
      go_wp2_with (first | (go_at_call 18; refine HC.out.mono ?_; rintro e w1 ⟨rfl, hb1⟩; have HB1 := Aside0.mk hb1; have hx1 := (hb1.cell (p := ⟨w.heap.size, 0, none⟩) HS0.out).trans HX0.out; have hs1 := Nat.lt_of_lt_of_le HS0.out hb1.size; clear hb1) | (go_at_call 58; refine (hN.out _ HB1.out).mono ?_; rintro e w2 ⟨v0_, rfl, ho, hb2⟩))
      have hb3 : Below w.heap.size w (w1.alloc (.cells #[.int .i64 n] 3)) := HB0.out.trans ((below_alloc HB1.out _).mono HB0.out.size)
      go_ret2
      exact ⟨_, rfl, Kd.R_lower ho hb3.size, hb3.trans (hb2.mono hb3.size)⟩
    · rw [if_neg hq] at h
      cases h
end Go.Proofs.Ytkgaljocaapobaa.Pr
