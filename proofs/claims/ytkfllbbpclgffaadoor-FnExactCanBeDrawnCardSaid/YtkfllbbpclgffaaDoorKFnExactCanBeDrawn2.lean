/- The program's CanBeDrawn returns what the reference's returns, for all arguments. Condition: none. -/
import Derived.Lib.OthersKept
import Derived.IntWalk
import Derived.Deep.RegionWith
import Derived.Deep.RegionHeld3
import Derived.Shelf.Strings.SlTrimAscii
import Derived.Laws.Strings
import Derived.Lib.Bytealg
import Derived.Lib.LastIndexByte
import Derived.Deep.Slices
import Derived.Deep.Fields
import Derived.ChangeSame
import Derived.ChangeShapes
import Derived.Below
import Derived.Carry
import Derived.Lib.SmallJoins
import Derived.RowKit
import Derived.OpenShut
import Derived.Test.YtkfllbbpclgffaaDoorCards
import Derived.Test.YtkfllbbpclgffaaDoorTie
import Derived.LaidMore
import Derived.Lay
import Derived.Stop.Joined
import Derived.Handed
import Derived.SevenTiedAt
import Derived.Test.YtkfllbbpclgffaaDoorRows
import Derived.WalkKit
import Derived.ProofKit
import Derived.ShutString
import Derived.ChangeOld
import Derived.SizedLaws
import Derived.ChangeSlices
import Derived.Test.YtkfllbbpclgffaaDoorKFnExactCanBeDrawn0
import Derived.Test.YtkfllbbpclgffaaDoorKFnExactCanBeDrawn1
/- What the program's haveHalves computes: a search for two halves. -/
namespace Go.Proofs.YtkfllbbpclgffaaDoor.Pr
open Go.RowKit Go.Proofs.YtkfllbbpclgffaaDoorW.PrintWords Go.Proofs.YtkfllbbpclgffaaDoorW.PrintLast Go.Proofs.YtkfllbbpclgffaaDoorW.PrintMore
set_option linter.unusedVariables false
set_option linter.unusedSimpArgs false

def hvE (w : ByteArray) (i k : Nat) : Bool := (impl_interlaced.f w (97 + (i : Int)) (97 + (k : Int))).getD false
def hvP (w : ByteArray) (i k : Nat) : Bool := Int.tmod ((impl_common.f w (97 + (i : Int)) (97 + (k : Int))).getD 0) 2 == 0
def okAll (w : ByteArray) : Bool := decide (w.size ≤ 16) && ((M.abcL (w.size / 2)).all fun c => okWith w c)
theorem okAll_at {w : ByteArray} (h : okAll w = true) : w.size ≤ 16 ∧ ∀ c ∈ M.abcL (w.size / 2), okWith w c = true := by
  unfold okAll at h
  simpa only [Bool.and_eq_true, decide_eq_true_eq, List.all_eq_true] using h
def impl_haveHalves.f (k : Nat) (a0 : ByteArray) : Option (Bool) :=
  if okAll a0 = true then M.outW (a0.size / 2) (hvE a0) (hvP a0) k (a0.size / 2) 0 (List.replicate (a0.size / 2) 0) else none

def intV (h : List Int) : List Value := h.map fun x => .int .i64 x
def natV (l : List Nat) : List Value := l.map fun (n : Nat) => .int .i64 (n : Int)
/-- Where the search's row of halves and its first iterator stand. -/
structure HavW (base gh ko : Nat) (s : ByteArray) (W0 W : World) (p : Nat) (h : List Int) : Prop where
  below : Below base W0 W
  lo : base ≤ gh
  ord : gh < ko
  sz : ko < W.heap.size
  half : W.heap[gh]? = some (.cells (intV h).toArray 3 (0, 0))
  out : W.heap[ko]? = some (.stringIter s p)
structure LineW (ko ki : Nat) (s : ByteArray) (W : World) (p : Nat) (v : Value) (l : List Nat) : Prop where
  own : OwnO W (ko + 1) 3 v (natV l)
  it : W.heap[ki]? = some (.stringIter s p)
  ne : v.ownBlock ≠ some ki
  hi : ko < ki
theorem HavW.same {base gh ko : Nat} {s : ByteArray} {W0 W W' : World} {p : Nat} {h : List Int} (H : HavW base gh ko s W0 W p h) (hb : Below base W0 W') (hs : W.heap.size ≤ W'.heap.size) (hg : W'.heap[gh]? = W.heap[gh]?) (ho : W'.heap[ko]? = W.heap[ko]?) : HavW base gh ko s W0 W' p h :=
  ⟨hb, H.lo, H.ord, Nat.lt_of_lt_of_le H.sz hs, hg.trans H.half, ho.trans H.out⟩
theorem HavW.base_le {base gh ko : Nat} {s : ByteArray} {W0 W : World} {p : Nat} {h : List Int} (H : HavW base gh ko s W0 W p h) : base ≤ W.heap.size := by
  have := H.lo; have := H.ord; have := H.sz; omega
theorem HavW.go {base gh ko : Nat} {s : ByteArray} {W0 W W' : World} {p : Nat} {h : List Int} (H : HavW base gh ko s W0 W p h) (hb : Below W.heap.size W W') : HavW base gh ko s W0 W' p h :=
  H.same (H.below.trans (hb.mono H.base_le)) hb.size (hb.block gh (by have := H.ord; have := H.sz; omega)) (hb.block ko H.sz)
theorem HavW.cell {base gh ko : Nat} {s : ByteArray} {W0 W : World} {p : Nat} {h : List Int} (H : HavW base gh ko s W0 W p h) (i : Nat) (hi : i < h.length) : W.cell? ⟨gh, i, none⟩ = some (.int .i64 (M.gtH h i)) ∧ W.frozen? ⟨gh, i, none⟩ = false := by
  refine ⟨?_, (by simp [World.frozen?, H.half])⟩
  unfold M.gtH
  simp [World.cell?, H.half, intV, hi, List.getD_eq_getElem?_getD]
theorem HavW.put {base gh ko : Nat} {s : ByteArray} {W0 W : World} {p : Nat} {h : List Int} (H : HavW base gh ko s W0 W p h) (i : Nat) (x : Int) : HavW base gh ko s W0 (W.setCell ⟨gh, i, none⟩ (.int .i64 x)) p (h.set i x) ∧ (W.setCell ⟨gh, i, none⟩ (.int .i64 x)).heap.size = W.heap.size ∧ ∀ g, g ≠ gh → (W.setCell ⟨gh, i, none⟩ (.int .i64 x)).heap[g]? = W.heap[g]? := by
  have e : W.setCell ⟨gh, i, none⟩ (.int .i64 x) = W.setRow gh ((intV h).toArray.setIfInBounds i (.int .i64 x)) := setCell_eq_setRow W gh i _ 3 (0, 0) _ H.half
  have hs : (W.setRow gh ((intV h).toArray.setIfInBounds i (.int .i64 x))).heap.size = W.heap.size := by simp [World.setRow]
  have ho : ∀ g, g ≠ gh → (W.setRow gh ((intV h).toArray.setIfInBounds i (.int .i64 x))).heap[g]? = W.heap[g]? := fun g hg => setRow_other W gh g _ hg
  rw [e]
  refine ⟨⟨H.below.trans ⟨rfl, rfl, rfl, Nat.le_of_eq hs.symm, fun k hk => ho k (by have := H.lo; omega)⟩, H.lo, H.ord, by rw [hs]; exact H.sz, ?_, ?_⟩, hs, ho⟩
  · rw [setRow_heap W gh _ _ 3 _ H.half]
    congr 2
    rw [List.setIfInBounds_toArray]
    unfold intV
    rw [List.map_set]
  · rw [ho ko (by have := H.ord; omega)]
    exact H.out
theorem LineW.same {ko ki : Nat} {s : ByteArray} {W W' : World} {p : Nat} {v : Value} {l : List Nat} (L : LineW ko ki s W p v l) (h : ∀ g, ko < g → g < W.heap.size → W'.heap[g]? = W.heap[g]?) : LineW ko ki s W' p v l := by
  refine ⟨L.own.same fun g hg => ?_, ?_, L.ne, L.hi⟩
  · obtain ⟨g', h1, h2, h3⟩ := L.own.lt
    rw [h1] at hg
    injection hg with hg
    exact h g (by omega) (by omega)
  · have := (Array.getElem?_eq_some_iff.1 L.it).1
    rw [h ki L.hi this]
    exact L.it
theorem LineW.go {ko ki : Nat} {s : ByteArray} {W W' : World} {p : Nat} {v : Value} {l : List Nat} (L : LineW ko ki s W p v l) (hb : Below W.heap.size W W') : LineW ko ki s W' p v l := L.same fun g _ hg => hb.block g hg
theorem LineW.next {ko ki : Nat} {s : ByteArray} {W : World} {p : Nat} {v : Value} {l : List Nat} (L : LineW ko ki s W p v l) (q : Nat) : LineW ko ki s (W.iterAt ki s q) q v l :=
  ⟨L.own.same fun g hg => Lib.iterAt_other W ki g s q (fun e => L.ne (by rw [hg, e])), Lib.iterAt_heap W ki s p q L.it, L.ne, L.hi⟩
theorem HavW.next {base gh ko ki : Nat} {s : ByteArray} {W0 W : World} {p : Nat} {h : List Int} (H : HavW base gh ko s W0 W p h) (hk : ko < ki) (q : Nat) : HavW base gh ko s W0 (W.iterAt ki s q) p h :=
  H.same (Lib.below_iterAt H.below (by have := H.lo; have := H.ord; omega) s q) (Nat.le_of_eq (Lib.iterAt_size W ki s q).symm) (Lib.iterAt_other W ki gh s q (by have := H.ord; omega)) (Lib.iterAt_other W ki ko s q (by omega))
theorem HavW.step {base gh ko : Nat} {s : ByteArray} {W0 W : World} {p : Nat} {h : List Int} (H : HavW base gh ko s W0 W p h) (q : Nat) : HavW base gh ko s W0 (W.iterAt ko s q) q h :=
  ⟨Lib.below_iterAt H.below (by have := H.lo; have := H.ord; omega) s q, H.lo, H.ord, by rw [Lib.iterAt_size]; exact H.sz, (Lib.iterAt_other W ko gh s q (by have := H.ord; omega)).trans H.half, Lib.iterAt_heap W ko s p q H.out⟩

theorem okE {w : ByteArray} {n : Nat} (hn : w.size / 2 = n) (hk : ∀ c ∈ M.abcL n, okWith w c = true) (i k : Nat) (hi : i < n) (hkk : k < n) : impl_interlaced.f w (97 + (i : Int)) (97 + (k : Int)) = some (hvE w i k) := by
  obtain ⟨h1, h2⟩ := okWith_at (hk (97 + (i : Int)) ((M.mem_abc n _).2 (by omega)))
  obtain ⟨b, hb⟩ := h2 (97 + (k : Int)) (by omega) (by omega)
  unfold hvE
  rw [hb]
  rfl
theorem okP {w : ByteArray} {n : Nat} (hn : w.size / 2 = n) (hk : ∀ c ∈ M.abcL n, okWith w c = true) (i k : Nat) (hi : i < n) (hkk : k < n) : ∃ c, impl_common.f w (97 + (i : Int)) (97 + (k : Int)) = some c ∧ hvP w i k = (Int.tmod c 2 == 0) := by
  have h1 := hk (97 + (i : Int)) ((M.mem_abc n _).2 (by omega))
  have h2 := hk (97 + (k : Int)) ((M.mem_abc n _).2 (by omega))
  unfold hvP impl_common.f
  rw [if_pos ⟨h1, h2⟩]
  exact ⟨_, rfl, rfl⟩
theorem lett_byte : ∀ n : Fin 9, (lettS n.val).size = n.val ∧ ∀ i : Fin 8, (h : i.val < (lettS n.val).size) → ((lettS n.val)[i.val]'h).toNat = 97 + i.val := by decide +kernel
theorem LineW.app {ko ki : Nat} {s : ByteArray} {W w1 : World} {p : Nat} {v v1 u : Value} {l : List Nat} {ty : TypeId} (L : LineW ko ki s W p v l) (n : Nat) (ho : OwnO w1 (ko + 1) 3 v1 (natV l ++ [.int .i64 (n : Int)])) (hg : (W.alloc (.cells #[u] ty)).grownBy w1 v.ownBlock) (hv : v1.ownBlock = v.ownBlock ∨ ∃ g, v1.ownBlock = some g ∧ W.heap.size ≤ g) : LineW ko ki s w1 p v1 (l ++ [n]) := by
  have hki := (Array.getElem?_eq_some_iff.1 L.it).1
  refine ⟨by unfold natV at ho ⊢; rw [List.map_append]; exact ho, ?_, ?_, L.hi⟩
  · rw [hg.block ki (Nat.lt_of_lt_of_le hki (below_alloc (Below.refl _ _) _).size) (fun e => L.ne e.symm), heap_alloc_old W _ hki]
    exact L.it
  · rcases hv with e | ⟨g, e, h⟩
    · rw [e]; exact L.ne
    · rw [e]
      simp only [ne_eq, Option.some.injEq]
      omega
theorem HavW.app {base gh ko : Nat} {s : ByteArray} {W0 W w1 : World} {p : Nat} {h : List Int} (H : HavW base gh ko s W0 W p h) (hb : Below (ko + 1) W w1) : HavW base gh ko s W0 w1 p h :=
  H.same (H.below.trans (hb.mono (by have := H.lo; have := H.ord; omega))) hb.size (hb.block gh (by have := H.ord; omega)) (hb.block ko (by omega))
theorem LineW.put {base gh ko ki : Nat} {s : ByteArray} {W0 W : World} {p r : Nat} {v : Value} {l : List Nat} {h : List Int} (L : LineW ko ki s W p v l) (H : HavW base gh ko s W0 W r h) (i : Nat) (x : Int) : LineW ko ki s (W.setCell ⟨gh, i, none⟩ (.int .i64 x)) p v l :=
  L.same fun g hg _ => (H.put i x).2.2 g (by have := H.ord; omega)
theorem alloc_own (W : World) (base : Nat) (hb : base ≤ W.heap.size) (e : TypeId) (u : Value) : OwnO (W.alloc (.cells #[u] e)) base e (.slice (some ⟨W.heap.size, 0, none⟩) 1 1) [u] :=
  ⟨W.heap.size, 0, 1, #[u], (0, 0), rfl, hb, heap_alloc_new W _, fun h => absurd h (by decide), by simp, by simp [maxLen], by simp, by simp⟩
theorem made_zeros (n : Nat) : madeCells (Value.cells (.int .i64 0)) n = (intV (List.replicate n 0)).toArray := by
  unfold madeCells intV
  refine Array.ext (by simp) fun i h1 h2 => ?_
  simp [Value.cells, Nat.mod_one]
theorem info_int' : (Tryd.prog.info? 3).map (fun i => (i.zero, i.size, i.bytes)) = some (some (.int .i64 0), 1, 8) := by kernel_rfl

set_option maxHeartbeats 1000000 in
set_option maxRecDepth 100000 in
theorem impl_haveHalves.calls (k : Nat) (a0 : ByteArray) (r : Bool) (w : World) (h : impl_haveHalves.f k a0 = some r) :
    Calls Tryd.prog 50 #[.string a0] w fun e w' => e = .returned (.bool r) ∧ Below w.heap.size w w' := by
  unfold impl_haveHalves.f at h
  by_cases hq : okAll a0 = true
  · rw [if_pos hq] at h
    obtain ⟨h16, hok⟩ := okAll_at hq
    obtain ⟨n, hn⟩ : ∃ n, a0.size / 2 = n := ⟨_, rfl⟩
    rw [hn] at h hok
    have hn8 : n ≤ 8 := by omega
    have hle : impl_lettersOf.f a0 = some (lettS n) := by
      unfold impl_lettersOf.f
      rw [M.w64 (x := (a0.size : Int) / 2) (by omega) (by omega), if_pos (by omega), if_pos (by omega), show ((a0.size : Int) / 2).toNat = n by omega]
      rfl
    obtain ⟨hls, hlb⟩ := lett_byte ⟨n, by omega⟩
    obtain ⟨s, hs⟩ : ∃ s, s = lettS n := ⟨_, rfl⟩
    rw [← hs] at hle
    have hsz : s.size = n := by rw [hs]; exact hls
    have hby : ∀ (i : Nat) (hi : i < s.size), (s[i]'hi).toNat = 97 + i := by
      intro i hi
      subst hs
      exact hlb ⟨i, by omega⟩ hi
    clear hlb hls hs
    have HL := Aside0.mk (fun (W : World) => impl_lettersOf.calls a0 s W hle)
    have HE := Aside0.mk (fun (i k : Nat) (hi : i < n) (hk : k < n) (W : World) => (impl_interlaced.calls a0 _ _ _ W (okE hn hok i k hi hk)).mono (fun e w' h => (⟨h.1, by obtain ⟨m, hm⟩ := h.2; exact ⟨m, hm⟩⟩ : e = .returned (.bool (hvE a0 i k)) ∧ ∃ m, w' = W.drewN m)))
    have HP := Aside0.mk (fun (i k : Nat) (hi : i < n) (hk : k < n) => okP hn hok i k hi hk)
    have HBY := Aside0.mk hby
    have HH := Aside0.mk (show M.outW n (hvE a0) (hvP a0) k (n - 0) 0 (List.replicate n 0) = some r from h)
    have HB := Aside0.mk (Below.refl w.heap.size w)
    clear h hok hle hby hq
    go_enter Tryd.func50, Tryd.ntmps50
    go_wp2_with (go_at_call 48; refine (HL.out _).mono ?_; rintro e w1 ⟨rfl, ⟨nd, rfl⟩⟩)
    obtain ⟨i0, hi0, hzz⟩ := Option.map_eq_some_iff.1 info_int'
    simp only [Prod.mk.injEq] at hzz
    obtain ⟨hz0, hz1, hz2⟩ := hzz
    rw [run_makeSlice (P := Tryd.prog) (w.drewN nd) 36 3 i0 (.int .i64 0) Tryd.underlying36 hi0 hz0 .i64 .i64 (n : Int) (n : Int) (by omega) (Int.le_refl _) (by rw [hz1]; omega) (by rw [hz2]; omega) (by omega), hz1, Nat.mul_one, Int.toNat_natCast]
    simp only [Result.andThen]
    rw [Oper.upon_value]
    clear hi0 hz0 hz1 hz2
    have hmc : madeCells (Value.cells (.int .i64 0)) n = (intV (List.replicate n 0)).toArray := made_zeros n
    rw [hmc]
    obtain ⟨W1, hW1⟩ : ∃ W1, W1 = (w.drewN nd).alloc (.cells (intV (List.replicate n 0)).toArray 3) := ⟨_, rfl⟩
    obtain ⟨gh, hgh⟩ : ∃ gh, gh = w.heap.size := ⟨_, rfl⟩
    have HG1 := Aside0.mk (show W1.heap[gh]? = some (.cells (intV (List.replicate n 0)).toArray 3 (0, 0)) ∧ W1.heap.size = gh + 1 ∧ Below w.heap.size w W1 by
      subst hW1 hgh
      exact ⟨heap_alloc_new (w.drewN nd) _, by simp [World.alloc], below_alloc (pw_below_drewN (Below.refl _ _) nd) _⟩)
    rw [← hW1]
    clear hW1 hmc HB HL
    go_wp2_with fail
    obtain ⟨ko, hko⟩ : ∃ ko, ko = W1.heap.size := ⟨_, rfl⟩
    have HW := Aside0.mk (show HavW w.heap.size gh ko s w (W1.iter s 0) 0 (List.replicate n 0) by
      obtain ⟨g1, g2, g3⟩ := HG1.out
      have e : (W1.iter s 0).heap = W1.heap.push (.stringIter s 0) := rfl
      refine ⟨g3.alloc (by omega) _, by omega, by omega, by rw [e, Array.size_push]; omega, ?_, ?_⟩
      · rw [e, Array.getElem?_push, if_neg (by omega)]
        exact g1
      · rw [hko]
        exact World.iter_heap W1 s 0)
    rw [← hko, ← hgh]
    clear hko HG1 hgh
    generalize W1.iter s 0 = W2 at HW ⊢
    have hLen : (List.replicate n (0 : Int)).length = n := List.length_replicate
    generalize List.replicate n (0 : Int) = h0 at HW HH hLen
    have HLen := Aside0.mk hLen
    clear hLen
    go_loopg [5, 6, 7, 8, 9] n (fun gg v5 v6 v7 v8 v9 w' => ∃ (p : Nat) (h : List Int), Aside0 (p + gg = n) ∧ Aside0 (HavW w.heap.size gh ko s w w' p h) ∧ Aside0 (h.length = n) ∧ Aside0 (M.outW n (hvE a0) (hvP a0) k (n - p) p h = some r))
    case atStart => exact ⟨0, h0, ⟨by omega⟩, HW, HLen, HH⟩
    case round =>
      obtain ⟨p, h, HG, HW2, HLen2, HH2⟩ := hrel
      clear HW HLen HH
      have HW := HW2
      have HLen := HLen2
      have HH := HH2
      clear HW2 HLen2 HH2
      by_cases hp : p < n
      · obtain ⟨gm, rfl⟩ : ∃ gm, gk = gm + 1 := ⟨gk - 1, by have := HG.out; omega⟩
        have hnext : ∀ ty, (Instr.next (.pointer (some ⟨ko, 0, none⟩)) true ty).run Tryd.prog wr = _ := fun ty => Lib.run_next_ascii_at wr ko s p ty HW.out.out (by omega) (by have := HBY.out p (by omega); omega)
        have HW3 := Aside0.mk (HW.out.step (p + 1))
        clear HW
        generalize wr.iterAt ko s (p + 1) = W3 at hnext HW3
        have hc := HW3.out.cell p (by have := HLen.out; omega)
        have hH := HH.out
        rw [show n - p = (n - (p + 1)) + 1 by omega, M.outW] at hH
        obtain ⟨hc1, hc2⟩ := hc
        have b1 : ((n : Int) ≤ (p : Int)) = False := eq_false (by omega)
        have b2 : (p : Int) < (n : Int) := by omega
        by_cases hz : M.gtH h p = 0
        · rw [if_neg (by simpa using hz)] at hH
          have HH2 := Aside0.mk hH
          rw [hz] at hc1
          have hput := HW3.out.put p 1
          clear hH HH
          go_wp2_with fail
          have hW4 : HavW w.heap.size gh ko s w ((W3.setCell ⟨gh, p, none⟩ (.int .i64 1)).alloc (.cells #[.int .i64 (p : Int)] 3)) (p + 1) (h.set p 1) := hput.1.go (below_alloc (Below.refl _ _) _)
          have hO4 : OwnO ((W3.setCell ⟨gh, p, none⟩ (.int .i64 1)).alloc (.cells #[.int .i64 (p : Int)] 3)) (ko + 1) 3 (.slice (some ⟨W3.heap.size, 0, none⟩) 1 1) (natV [p]) := by
            have := alloc_own (W3.setCell ⟨gh, p, none⟩ (.int .i64 1)) (ko + 1) (by rw [hput.2.1]; have := HW3.out.sz; omega) 3 (.int .i64 (p : Int))
            rwa [hput.2.1] at this
          have HW4 := Aside0.mk hW4
          have HO4 := Aside0.mk hO4
          have HL4 := Aside0.mk (show (h.set p 1).length = n by rw [List.length_set]; exact HLen.out)
          have HR4 := Aside0.mk (show M.aftW n (hvE a0) (hvP a0) k p (M.bfsW n (hvE a0) (hvP a0) k (h.set p 1) [p]) = some r from by
            have e := HH2.out
            revert e
            cases M.bfsW n (hvE a0) (hvP a0) k (h.set p 1) [p] with
            | none => exact id
            | some o => cases o with
              | none => exact id
              | some h' => exact id)
          have HS4 := Aside0.mk (show ∀ j ∈ [p], j < n from fun j hj => by simp at hj; omega)
          clear hput hW4 hO4 HW3 hc1 hc2 HH2 hnext HLen hz
          generalize (W3.setCell ⟨gh, p, none⟩ (.int .i64 1)).alloc (.cells #[.int .i64 (p : Int)] 3) = W4 at HW4 HO4 ⊢
          generalize (Value.slice (some ⟨W3.heap.size, 0, none⟩) 1 1) = v40 at HO4 ⊢
          generalize h.set p 1 = h4 at HW4 HL4 HR4
          generalize [p] = l4 at HO4 HR4 HS4
          go_loopg [6, 7, 8, 9] k (fun gg v6 v7 v8 v9 w' => ∃ (h : List Int) (ln : List Nat), Aside0 (HavW w.heap.size gh ko s w w' (p + 1) h) ∧ Aside0 (h.length = n) ∧ Aside0 (OwnO w' (ko + 1) 3 v6 (natV ln)) ∧ Aside0 (∀ j ∈ ln, j < n) ∧ Aside0 (M.aftW n (hvE a0) (hvP a0) k p (M.bfsW n (hvE a0) (hvP a0) gg h ln) = some r))
          case atStart => exact ⟨h4, l4, HW4, HL4, HO4, HS4, HR4⟩
          case round =>
            obtain ⟨h, ln, HW, HLen, HO, HS, HR⟩ := hrel
            clear HW4 HO4 HL4 HR4 HS4
            obtain ⟨g, off, cap, cur, fz, rfl, hO⟩ := HO.out
            clear hO
            cases ln with
            | nil =>
              have HH2 := Aside0.mk (show M.outW n (hvE a0) (hvP a0) k (n - (p + 1)) (p + 1) h = some r by
                have e := HR.out
                rw [M.bfsW_nil] at e
                exact e)
              clear HR HO HS
              go_wp2_with fail
              go_roundg gm
              case measure => omega
              case rel => exact ⟨p + 1, h, ⟨by have := HG.out; omega⟩, HW, HLen, HH2⟩
            | cons i rest =>
              have hR := HR.out
              obtain ⟨z, rfl⟩ : ∃ z, gk = z + 1 := by
                cases gk with
                | zero => exact absurd hR (by simp [M.bfsW, M.aftW])
                | succ z => exact ⟨z, rfl⟩
              have hrl : rest.length ≤ 100 := by
                by_cases hc : 100 < rest.length
                · exfalso
                  rw [M.bfsW, if_pos hc] at hR
                  exact absurd hR (by simp [M.aftW])
                · omega
              rw [M.bfsW_cons _ _ _ _ _ _ _ hrl] at hR
              have HR2 := Aside0.mk (show M.aftW n (hvE a0) (hvP a0) k p (M.scB n (hvE a0) (hvP a0) z (M.scanW (hvE a0) (hvP a0) i (n - 0) 0 h (i :: rest))) = some r from hR)
              have hin : i < n := HS.out i (List.mem_cons_self ..)
              have hcl : wr.cell? ⟨g, off, none⟩ = some (.int .i64 (i : Int)) := by
                have := OwnO.cell HO.out 0 (.int .i64 (i : Int)) rfl
                rwa [Nat.add_zero] at this
              have hln : (natV (i :: rest)).length = rest.length + 1 := by simp [natV]
              rw [hln] at HO ⊢
              have b3 : ((0 : Int) < ((rest.length + 1 : Nat) : Int)) := by omega
              have b4 : (((rest.length + 1 : Nat) : Int) ≤ 0) = False := eq_false (by omega)
              clear hR HR
              go_wp2_with fail
              have hki : wr.heap.size = wr.heap.size := rfl
              obtain ⟨hg1, hg2, hg3⟩ : ko + 1 ≤ g ∧ g < wr.heap.size ∧ True := by
                obtain ⟨g', e1, e2, e3⟩ := HO.out.lt
                simp only [Value.ownBlock, Option.some.injEq] at e1
                subst e1
                exact ⟨e2, e3, trivial⟩
              have hph : (wr.iter s 0).heap = wr.heap.push (.stringIter s 0) := rfl
              have hold : ∀ q, q < wr.heap.size → (wr.iter s 0).heap[q]? = wr.heap[q]? := fun q hq => by rw [hph, Array.getElem?_push, if_neg (by omega)]
              have HW5 := Aside0.mk (show HavW w.heap.size gh ko s w (wr.iter s 0) (p + 1) h from HW.out.same (HW.out.below.alloc HW.out.base_le (.stringIter s 0)) (show wr.heap.size ≤ (wr.iter s 0).heap.size by rw [hph, Array.size_push]; omega) (hold gh (by have := HW.out.ord; have := HW.out.sz; omega)) (hold ko HW.out.sz))
              have HLi5 := Aside0.mk (show LineW ko wr.heap.size s (wr.iter s 0) 0 (.slice (some ⟨g, off, none⟩) (rest.length + 1) cap) (i :: rest) from
                ⟨HO.out.same fun q hq => by (simp only [Value.ownBlock, Option.some.injEq] at hq; subst hq; exact hold g hg2), World.iter_heap wr s 0, by simp only [Value.ownBlock, ne_eq, Option.some.injEq]; omega, HW.out.sz⟩)
              have HT5 := Aside0.mk (show ∃ t, i :: rest = i :: t from ⟨rest, rfl⟩)
              have HN5 := Aside0.mk (show (i :: rest).length ≤ 101 + 0 by simp; omega)
              clear hki hg1 hg2 hg3 hph hold HW HO hcl b3 b4 hln
              generalize wr.heap.size = ki at HLi5 ⊢
              generalize wr.iter s 0 = W5 at HW5 HLi5 ⊢
              generalize (Value.slice (some ⟨g, off, none⟩) (rest.length + 1) cap) = v60 at HLi5 ⊢
              generalize i :: rest = l6 at HLi5 HT5 HN5 HR2 HS
              go_loopg [6, 8, 9] n (fun gg v6 v8 v9 w' => ∃ (q : Nat) (h : List Int) (ln : List Nat), Aside0 (q + gg = n) ∧ Aside0 (HavW w.heap.size gh ko s w w' (p + 1) h) ∧ Aside0 (h.length = n) ∧ Aside0 (LineW ko ki s w' q v6 ln) ∧ Aside0 (∃ t, ln = i :: t) ∧ Aside0 (∀ j ∈ ln, j < n) ∧ Aside0 (ln.length ≤ 101 + q) ∧ Aside0 (M.aftW n (hvE a0) (hvP a0) k p (M.scB n (hvE a0) (hvP a0) z (M.scanW (hvE a0) (hvP a0) i (n - q) q h ln)) = some r))
              case atStart => exact ⟨0, h, l6, ⟨by omega⟩, HW5, HLen, HLi5, HT5, HS, HN5, HR2⟩
              case round =>
                clear HW5 HLen HLi5 HT5 HS HN5 HR2
                obtain ⟨q, h, ln, HGq, HW, HLen, HLi, HT, HS, HN, HR⟩ := hrel
                by_cases hqn : q < n
                · obtain ⟨gn, rfl⟩ : ∃ gn, gk = gn + 1 := ⟨gk - 1, by have := HGq.out; omega⟩
                  have hnext : ∀ ty, (Instr.next (.pointer (some ⟨ki, 0, none⟩)) true ty).run Tryd.prog wr = _ := fun ty => Lib.run_next_ascii_at wr ki s q ty HLi.out.it (by omega) (by have := HBY.out q (by omega); omega)
                  have HW2 := Aside0.mk (HW.out.next HLi.out.hi (q + 1))
                  have HLi2 := Aside0.mk (HLi.out.next (q + 1))
                  clear HW HLi
                  generalize wr.iterAt ki s (q + 1) = W6 at hnext HW2 HLi2
                  have hR := HR.out
                  rw [show n - q = (n - (q + 1)) + 1 by omega, M.scanW] at hR
                  have c1 : (((s[i]'(by omega)).toNat : Nat) : Int) = 97 + (i : Int) := by have := HBY.out i (by omega); omega
                  have c2 : (((s[q]'(by omega)).toNat : Nat) : Int) = 97 + (q : Int) := by have := HBY.out q (by omega); omega
                  have HE1 := Aside0.mk (fun (W : World) => HE.out i q hin hqn W)
                  have d1 : (i : Int) < (s.size : Int) := by omega
                  have d2 : (q : Int) < (s.size : Int) := by omega
                  by_cases hqi : q = i
                  · have e1 : ((q : Int) == (i : Int)) = true := beq_iff_eq.2 (by omega)
                    rw [if_pos (.inl hqi)] at hR
                    have HR2 := Aside0.mk hR
                    clear hR HR hqi
                    go_wp2_with fail
                    go_quiet (fail)
                    go_wp2_with fail
                    go_roundg gn
                    case measure => omega
                    case rel => exact ⟨q + 1, h, ln, ⟨by have := HGq.out; omega⟩, ⟨HW2.out.go (pw_below_drewN (Below.refl _ _) nq)⟩, HLen, ⟨HLi2.out.go (pw_below_drewN (Below.refl _ _) nq)⟩, HT, HS, ⟨by have := HN.out; omega⟩, HR2⟩
                  · have e1 : ((q : Int) == (i : Int)) = false := beq_eq_false_iff_ne.2 (by omega)
                    cases hE : hvE a0 i q with
                    | false =>
                      rw [if_pos (.inr hE)] at hR
                      rw [hE] at HE1
                      have HR2 := Aside0.mk hR
                      clear hR HR hqi hE
                      go_wp2_with fail
                      go_quiet ((go_at_call 22; exact Calls.quiet_of (HE1.out _)))
                      go_wp2_with fail
                      go_roundg gn
                      case measure => omega
                      case rel => exact ⟨q + 1, h, ln, ⟨by have := HGq.out; omega⟩, ⟨HW2.out.go (pw_below_drewN (Below.refl _ _) nq)⟩, HLen, ⟨HLi2.out.go (pw_below_drewN (Below.refl _ _) nq)⟩, HT, HS, ⟨by have := HN.out; omega⟩, HR2⟩
                    | true =>
                      rw [hE] at HE1
                      rw [if_neg (by rintro (e | e); (· exact hqi e); rw [hE] at e; cases e)] at hR
                      have HR2 := Aside0.mk hR
                      obtain ⟨c, hc1, hc2⟩ := HP.out i q hin hqn
                      have HC := Aside0.mk (fun (W : World) => impl_common.calls a0 _ _ c W hc1)
                      have HCP := Aside0.mk hc2
                      clear hR HR hE hc1 hc2
                      go_wp2_with fail
                      go_quiet ((go_at_call 22; exact Calls.quiet_of (HE1.out _)))
                      have HW3 := Aside0.mk (HW2.out.go (pw_below_drewN (Below.refl _ _) nq))
                      have HLi3 := Aside0.mk (HLi2.out.go (pw_below_drewN (Below.refl _ _) nq))
                      clear HW2 HLi2
                      generalize W6.drewN nq = W7 at HW3 HLi3 ⊢
                      have hci := (HW3.out.cell i (by have := HLen.out; omega)).1
                      have b5 : ((n : Int) ≤ (i : Int)) = False := eq_false (by omega)
                      have b6 : (i : Int) < (n : Int) := by omega
                      go_wp2_with fail
                      go_region_held3 (fun w' => Below W7.heap.size W7 w')
                        ((first | assumption | exact Below.refl _ _ | exact below_drew (Below.refl _ _) | exact below_drew (by assumption) | exact below_keep (by assumption) (by assumption) | (simp [*]; done)))
                        (first | (go_at_call 49; refine (HC.out _).mono ?_; rintro e w8 ⟨rfl, hb8⟩))
                      all_goals
                        rename_i hx8
                        have HW4 := Aside0.mk (HW3.out.go hx8)
                        have HLi4 := Aside0.mk (HLi3.out.go hx8)
                        clear HW3 HLi3 hb8 hx8 hci hnext
                        obtain ⟨hq1, hq2⟩ := HW4.out.cell q (by have := HLen.out; omega)
                        have hput := Aside0.mk (fun (x : Int) => HW4.out.put q x)
                        have b7 : ((n : Int) ≤ (q : Int)) = False := eq_false (by omega)
                        have b8 : (q : Int) < (n : Int) := by omega
                      all_goals
                        cases hcp : (Int.tmod c 2 == 0) with
                        | true =>
                          have HD := HCP.out
                          rw [hcp] at HD
                          have HD2 : M.dueW (hvP a0) h i q = wrap64 (-(M.gtH h i)) := by unfold M.dueW; rw [HD]; rfl
                          have hR := HR2.out
                          rw [HD2] at hR
                          clear HD HD2 HCP HR2
                          by_cases hz0 : M.gtH h q = 0
                          · rw [if_pos hz0] at hR
                            have HR3 := Aside0.mk hR
                            clear hR
                            have e2 : (M.gtH h q == 0) = true := beq_iff_eq.2 hz0
                            obtain ⟨due, hdue⟩ : ∃ d, d = wrap64 (-(M.gtH h i)) := ⟨_, rfl⟩
                            rw [← hdue] at HR3
                            have hp1 := HW4.out.put q due
                            have HW9 := Aside0.mk hp1.1
                            have HL9 := Aside0.mk (HLi4.out.put HW4.out q due)
                            have HS9 := Aside0.mk hp1.2.1
                            rw [hdue] at HW9 HL9 HS9
                            have hll : (natV ln).length ≤ 1000000 := by have := HN.out; simp [natV]; omega
                            have HLL := Aside0.mk hll
                            have HKO := Aside0.mk (show ko + 1 ≤ w8.heap.size from HW4.out.sz)
                            clear hp1 HW4 HLi4 hput hz0 hll
                            go_wp2_with (first | ((with_reducible refine gate_builtin (b := .append) (xs := #[.tmp 83, .tmp 85]) rfl ?_); at_builtin; refine wp_append_off (w0 := _) (ko + 1) rfl (.tmp 83) (.tmp 85) 36 3 (.int .i64 0) 8 (by omega) rfl Tryd.underlying36 info_int' rfl u6 (natV ln) _ rfl (by rw [HS9.out]; rfl) rfl HL9.out.own (Below.refl _ _) (by rw [HS9.out]; exact HKO.out) HLL.out ?_; intro v11 w11 ho hb hgb hov; have HO11 := Aside0.mk (HL9.out.app q ho hgb hov); have HW11 := Aside0.mk (HW9.out.app hb); clear ho hb hgb hov))
                            subst hdue
                            go_roundg gn
                            case measure => omega
                            case rel => exact ⟨q + 1, _, ln ++ [q], ⟨by have := HGq.out; omega⟩, HW11, ⟨by rw [List.length_set]; exact HLen.out⟩, HO11, ⟨by obtain ⟨t, ht⟩ := HT.out; exact ⟨t ++ [q], by rw [ht]; rfl⟩⟩, ⟨fun j hj => by rcases List.mem_append.1 hj with hj | hj; (· exact HS.out j hj); simp at hj; omega⟩, ⟨by have := HN.out; simp; omega⟩, HR3⟩
                          · rw [if_neg hz0] at hR
                            have e2 : (M.gtH h q == 0) = false := beq_eq_false_iff_ne.2 hz0
                            by_cases hbd : M.gtH h q = wrap64 (-wrap64 (-(M.gtH h i)))
                            · rw [if_pos hbd] at hR
                              obtain rfl : r = false := by
                                have e := hR
                                simp only [M.scB, M.aftW, Option.some.injEq] at e
                                exact e.symm
                              have e3 : (M.gtH h q == wrap64 (-wrap64 (-(M.gtH h i)))) = true := beq_iff_eq.2 hbd
                              clear hR hz0 hbd
                              go_wp2_with fail
                              go_ret
                              exact ⟨rfl, HW4.out.below⟩
                            · rw [if_neg hbd] at hR
                              have HR3 := Aside0.mk hR
                              have e3 : (M.gtH h q == wrap64 (-wrap64 (-(M.gtH h i)))) = false := beq_eq_false_iff_ne.2 hbd
                              clear hR hz0 hbd
                              go_wp2_with fail
                              go_roundg gn
                              case measure => omega
                              case rel => exact ⟨q + 1, h, ln, ⟨by have := HGq.out; omega⟩, HW4, HLen, HLi4, HT, HS, ⟨by have := HN.out; omega⟩, HR3⟩
                        | false =>
                          have HD := HCP.out
                          rw [hcp] at HD
                          have HD2 : M.dueW (hvP a0) h i q = M.gtH h i := by unfold M.dueW; rw [HD]; rfl
                          have hR := HR2.out
                          rw [HD2] at hR
                          clear HD HD2 HCP HR2
                          by_cases hz0 : M.gtH h q = 0
                          · rw [if_pos hz0] at hR
                            have HR3 := Aside0.mk hR
                            clear hR
                            have e2 : (M.gtH h q == 0) = true := beq_iff_eq.2 hz0
                            obtain ⟨due, hdue⟩ : ∃ d, d = M.gtH h i := ⟨_, rfl⟩
                            rw [← hdue] at HR3
                            have hp1 := HW4.out.put q due
                            have HW9 := Aside0.mk hp1.1
                            have HL9 := Aside0.mk (HLi4.out.put HW4.out q due)
                            have HS9 := Aside0.mk hp1.2.1
                            rw [hdue] at HW9 HL9 HS9
                            have hll : (natV ln).length ≤ 1000000 := by have := HN.out; simp [natV]; omega
                            have HLL := Aside0.mk hll
                            have HKO := Aside0.mk (show ko + 1 ≤ w8.heap.size from HW4.out.sz)
                            clear hp1 HW4 HLi4 hput hz0 hll
                            go_wp2_with (first | ((with_reducible refine gate_builtin (b := .append) (xs := #[.tmp 83, .tmp 85]) rfl ?_); at_builtin; refine wp_append_off (w0 := _) (ko + 1) rfl (.tmp 83) (.tmp 85) 36 3 (.int .i64 0) 8 (by omega) rfl Tryd.underlying36 info_int' rfl u6 (natV ln) _ rfl (by rw [HS9.out]; rfl) rfl HL9.out.own (Below.refl _ _) (by rw [HS9.out]; exact HKO.out) HLL.out ?_; intro v11 w11 ho hb hgb hov; have HO11 := Aside0.mk (HL9.out.app q ho hgb hov); have HW11 := Aside0.mk (HW9.out.app hb); clear ho hb hgb hov))
                            subst hdue
                            go_roundg gn
                            case measure => omega
                            case rel => exact ⟨q + 1, _, ln ++ [q], ⟨by have := HGq.out; omega⟩, HW11, ⟨by rw [List.length_set]; exact HLen.out⟩, HO11, ⟨by obtain ⟨t, ht⟩ := HT.out; exact ⟨t ++ [q], by rw [ht]; rfl⟩⟩, ⟨fun j hj => by rcases List.mem_append.1 hj with hj | hj; (· exact HS.out j hj); simp at hj; omega⟩, ⟨by have := HN.out; simp; omega⟩, HR3⟩
                          · rw [if_neg hz0] at hR
                            have e2 : (M.gtH h q == 0) = false := beq_eq_false_iff_ne.2 hz0
                            by_cases hbd : M.gtH h q = wrap64 (-(M.gtH h i))
                            · rw [if_pos hbd] at hR
                              obtain rfl : r = false := by
                                have e := hR
                                simp only [M.scB, M.aftW, Option.some.injEq] at e
                                exact e.symm
                              have e3 : (M.gtH h q == wrap64 (-(M.gtH h i))) = true := beq_iff_eq.2 hbd
                              clear hR hz0 hbd
                              go_wp2_with fail
                              go_ret
                              exact ⟨rfl, HW4.out.below⟩
                            · rw [if_neg hbd] at hR
                              have HR3 := Aside0.mk hR
                              have e3 : (M.gtH h q == wrap64 (-(M.gtH h i))) = false := beq_eq_false_iff_ne.2 hbd
                              clear hR hz0 hbd
                              go_wp2_with fail
                              go_roundg gn
                              case measure => omega
                              case rel => exact ⟨q + 1, h, ln, ⟨by have := HGq.out; omega⟩, HW4, HLen, HLi4, HT, HS, ⟨by have := HN.out; omega⟩, HR3⟩
                · have hnext : ∀ ty, (Instr.next (.pointer (some ⟨ki, 0, none⟩)) true ty).run Tryd.prog wr = _ := fun ty => Lib.run_next_end_at wr ki s q ty HLi.out.it (by omega)
                  have hR := HR.out
                  rw [show n - q = 0 by omega, M.scanW] at hR
                  obtain ⟨t, ht⟩ := HT.out
                  subst ht
                  have HR2 := Aside0.mk (show M.aftW n (hvE a0) (hvP a0) k p (M.bfsW n (hvE a0) (hvP a0) z h t) = some r from hR)
                  obtain ⟨g', off', cap', cur', fz', hv, hO'⟩ := HLi.out.own
                  have hO := HLi.out.own
                  have hnl : (natV (i :: t)).length = t.length + 1 := by simp [natV]
                  rw [hnl] at hv
                  subst hv
                  have hrest := OwnO.rest (x := .int .i64 (i : Int)) (xs := natV t) hO
                  have HS2 := Aside0.mk (show ∀ j ∈ t, j < n from fun j hj => HS.out j (List.mem_cons_of_mem _ hj))
                  have hcap : t.length + 1 ≤ cap' := by have := hO'.2.2.2.1; rwa [hnl] at this
                  clear hR HR hO hO' HS HN hnl
                  by_cases hc1 : cap' = 1
                  · subst hc1
                    have ht0 : t = [] := List.eq_nil_of_length_eq_zero (by omega)
                    subst ht0
                    rw [if_pos rfl] at hrest
                    have HO2 := Aside0.mk (show OwnO wr (ko + 1) 3 (.slice (some ⟨g', off', none⟩) 0 0) (natV []) from hrest)
                    clear hrest
                    go_wp2_with fail
                    go_roundg z
                    case measure => omega
                    case rel => exact ⟨h, _, HW, HLen, HO2, HS2, HR2⟩
                  · rw [if_neg hc1, Nat.add_sub_cancel] at hrest
                    have HO2 := Aside0.mk hrest
                    clear hrest
                    go_wp2_with fail
                    go_roundg z
                    case measure => omega
                    case rel => exact ⟨h, _, HW, HLen, HO2, HS2, HR2⟩
        · rw [if_pos hz] at hH
          have HH2 := Aside0.mk hH
          have e1 : (M.gtH h p != 0) = true := by simpa using hz
          generalize M.gtH h p = y at hc1 e1
          clear hH HH hz
          go_wp2_with fail
          go_roundg gm
          case measure => omega
          case rel => exact ⟨p + 1, h, ⟨by have := HG.out; omega⟩, HW3, HLen, HH2⟩
      · have hnext : ∀ ty, (Instr.next (.pointer (some ⟨ko, 0, none⟩)) true ty).run Tryd.prog wr = _ := fun ty => Lib.run_next_end_at wr ko s p ty HW.out.out (by omega)
        have hH := HH.out
        rw [show n - p = 0 by omega, M.outW] at hH
        obtain rfl := Option.some.inj hH
        clear hH HH
        go_wp2_with fail
        go_ret
        exact ⟨rfl, HW.out.below⟩
  · rw [if_neg hq] at h
    cases h
end Go.Proofs.YtkfllbbpclgffaaDoor.Pr

/- What the program's isEvenLoop computes. -/
namespace Go.Proofs.YtkfllbbpclgffaaDoor.Pr
open Go.RowKit Go.Proofs.YtkfllbbpclgffaaDoorW.PrintWords Go.Proofs.YtkfllbbpclgffaaDoorW.PrintLast Go.Proofs.YtkfllbbpclgffaaDoorW.PrintMore
set_option linter.unusedVariables false
set_option linter.unusedSimpArgs false

/-- Whether a letter is interlaced with an odd number of others. -/
def oddB (w : ByteArray) (c : Int) : Bool := (((strOfNums (M.lettP (withB w c) 97 (w.size / 2))).size : Int) % 2 == 1)
def impl_isEvenLoop.f (a0 : ByteArray) : Option (Bool) := if decide (a0.size ≤ 16) && ((M.abcL (a0.size / 2)).all fun c => okWith a0 c) then some ((strOfNums (M.lettP (oddB a0) 97 (a0.size / 2))).toList.isEmpty) else none

set_option maxHeartbeats 4000000 in
theorem even_pred (w0 : ByteArray) (c : Int) (hk : okWith w0 c = true) (B : Nat) (W : World) (h1 : W.cell? ⟨B, 0, none⟩ = some (.string w0)) :
    Calls Tryd.prog 45 #[.int .u8 c, .pointer (some ⟨B, 0, none⟩)] W fun e w' => e = .returned (.bool (oddB w0 c)) ∧ Below W.heap.size W w' := by
  unfold oddB
  have HI := Aside0.mk (fun (W1 : World) => impl_interlacedWith.calls w0 c _ W1 (if_pos hk))
  generalize strOfNums (M.lettP (withB w0 c) 97 (w0.size / 2)) = s at HI ⊢
  clear hk
  go_enter Tryd.func45, Tryd.ntmps45
  go_wp2_with (go_at_call 24; refine (HI.out _).mono ?_; rintro e w' ⟨rfl, hb⟩)
  go_ret
  exact ⟨rfl, hb⟩

set_option maxHeartbeats 4000000 in
theorem impl_isEvenLoop.calls (a0 : ByteArray) (r : Bool) (w : World) (h : impl_isEvenLoop.f a0 = some r) :
    Calls Tryd.prog 27 #[.string a0] w fun e w' => e = .returned (.bool r) ∧ Below w.heap.size w w' := by
  unfold impl_isEvenLoop.f at h
  by_cases hk : (decide (a0.size ≤ 16) && ((M.abcL (a0.size / 2)).all fun c => okWith a0 c)) = true
  · rw [if_pos hk] at h
    simp only [Bool.and_eq_true, decide_eq_true_eq, List.all_eq_true] at hk
    obtain ⟨h16, hall⟩ := hk
    obtain rfl := Option.some.inj h
    have eg : ∀ args w, (callFunc 45 args).run Tryd.prog w = .ok (.enter 45 args) w := enters_of Tryd.func45 (by kernel_rfl) rfl
    have hb0 : Below w.heap.size w (w.alloc (.cells #[.string a0] 9)) := below_alloc (Below.refl _ _) _
    have hs0 : w.heap.size < (w.alloc (.cells #[.string a0] 9)).heap.size := by simp
    have hx0 : (w.alloc (.cells #[.string a0] 9)).cell? ⟨w.heap.size, 0, none⟩ = some (.string a0) := by simp
    have hL := Aside0.mk (lettersWith_calls a0 (a0.size / 2) rfl (by omega) (oddB a0) 45 #[.pointer (some ⟨w.heap.size, 0, none⟩)] eg (w.alloc (.cells #[.string a0] 9))
      (fun W2 x h1 h2 hb => even_pred a0 x (hall x ((M.mem_abc _ x).2 ⟨h1, h2⟩)) w.heap.size W2 ((hb.cell (p := ⟨w.heap.size, 0, none⟩) hs0).trans hx0)))
    generalize strOfNums (M.lettP (oddB a0) 97 (a0.size / 2)) = s at hL h
    have HB0 := Aside0.mk hb0
    clear h eg hx0 hs0 hall hb0
    go_enter Tryd.func27, Tryd.ntmps27
    go_wp2_with (go_at_call 39; refine hL.out.mono ?_; rintro e w' ⟨rfl, hb⟩)
    go_ret
    exact ⟨rfl, HB0.out.trans (hb.mono (by simp))⟩
  · rw [if_neg hk] at h; cases h
end Go.Proofs.YtkfllbbpclgffaaDoor.Pr

/- What the program's canBeDrawn computes. -/
namespace Go.Proofs.YtkfllbbpclgffaaDoor.Pr
open Go.RowKit Go.Proofs.YtkfllbbpclgffaaDoorW.PrintWords Go.Proofs.YtkfllbbpclgffaaDoorW.PrintLast Go.Proofs.YtkfllbbpclgffaaDoorW.PrintMore
set_option linter.unusedVariables false
set_option linter.unusedSimpArgs false

/-- Two letters that keep a loop from being drawn. -/
def pairBad (w : ByteArray) (i j : Nat) : Bool := decide (i < j) && !(hvE w i j) && (Int.tmod ((impl_common.f w (97 + (i : Int)) (97 + (j : Int))).getD 0) 2 == 1)
def anyBad (w : ByteArray) (n : Nat) : Bool := (List.range n).any fun i => (List.range n).any fun j => pairBad w i j
def impl_canBeDrawn.f (k : Nat) (a0 : ByteArray) : Option (Bool) :=
  (impl_isEvenLoop.f a0).bind fun e => if e = true then (if okAll a0 = true then (if anyBad a0 (a0.size / 2) = true then some false else impl_haveHalves.f k a0) else none) else some false
theorem outW_mono (n : Nat) (E P : Nat → Nat → Bool) : ∀ (z : Nat) (h : List Int) (l : List Nat), LeO (M.bfsW n E P z h l) (M.bfsW n E P (z + 1) h l)
  | z, h, [] => by rw [M.bfsW_nil, M.bfsW_nil]; exact LeO.refl _
  | 0, h, i :: rest => LeO.none _
  | z + 1, h, i :: rest => by
    rw [M.bfsW, M.bfsW]
    refine LeO.ite (LeO.refl _) ?_
    cases M.scanW E P i n 0 h (i :: rest) with
    | none => exact LeO.refl _
    | some p => exact outW_mono n E P z _ _
theorem outW_mono2 (n : Nat) (E P : Nat → Nat → Bool) (y : Nat) : ∀ (d f : Nat) (h : List Int), LeO (M.outW n E P y d f h) (M.outW n E P (y + 1) d f h)
  | 0, f, h => LeO.refl _
  | d + 1, f, h => by
    rw [M.outW, M.outW]
    refine LeO.ite (outW_mono2 n E P y d (f + 1) h) ?_
    have hb := outW_mono n E P y (h.set f 1) [f]
    cases e : M.bfsW n E P y (h.set f 1) [f] with
    | none => exact LeO.none _
    | some o =>
      rw [hb _ e]
      cases o with
      | none => exact LeO.refl _
      | some h' => exact outW_mono2 n E P y d (f + 1) h'
theorem impl_haveHalves.mono : ∀ a0 k, LeO (impl_haveHalves.f k a0) (impl_haveHalves.f (k + 1) a0) := by
  intro a0 k
  unfold impl_haveHalves.f
  exact LeO.ite (outW_mono2 _ _ _ _ _ _ _) (LeO.refl _)
theorem impl_canBeDrawn.mono : ∀ a0 k, LeO (impl_canBeDrawn.f k a0) (impl_canBeDrawn.f (k + 1) a0) := by
  intro a0 k
  unfold impl_canBeDrawn.f
  exact LeO.bind (LeO.refl _) (fun _ => LeO.ite (LeO.ite (LeO.ite (LeO.refl _) (impl_haveHalves.mono _ _)) (LeO.refl _)) (LeO.refl _))

theorem bytes_cells (W : World) (s : ByteArray) (hs : s.size ≤ 1000) (j : Nat) (hj : j < s.size) : (Lib.bytesWorld W 5 s).cell? ⟨W.heap.size, j, none⟩ = some (.int .u8 ((s[j]'hj).toNat : Int)) := by
  have hc0 := bytes_C W 5 s (by omega)
  have hl := bytesOf_length s
  obtain ⟨ad, e1, hc⟩ := hc0.2.2 (by omega)
  injection e1 with e1
  subst e1
  have hg : (bytesOf s)[j]? = some ((s[j]'hj).toNat : Int) := by
    unfold bytesOf
    rw [List.getElem?_map, Array.getElem?_toList]
    show Option.map _ s.data[j]? = _
    rw [Array.getElem?_eq_getElem hj]
    rfl
  obtain ⟨cs_, h1, h2, h3⟩ := hc j _ hg
  have h4 := h3 0 (.int .u8 ((s[j]'hj).toNat : Int)) (by rw [show cs_ = [Value.int .u8 ((s[j]'hj).toNat : Int)] from h2]; rfl)
  have ha : (⟨W.heap.size, 0, none⟩ : Addr).add (j * (Kd.int .u8).sz + 0) = ⟨W.heap.size, j, none⟩ := by
    rw [add_plain]
    show (⟨W.heap.size, j * 1 + 0, none⟩ : Addr) = _
    rw [show j * 1 + 0 = j by omega]
  rwa [ha] at h4
/-- A text's letters, in a block of their own. -/
structure LetW (B n : Nat) (W : World) : Prop where
  lt : B < W.heap.size
  at_ : ∀ q : Nat, q < n → W.cell? ⟨B, q, none⟩ = some (.int .u8 (97 + (q : Int)))
theorem LetW.go {B n : Nat} {W W' : World} (L : LetW B n W) (hb : Below W.heap.size W W') : LetW B n W' :=
  ⟨Nat.lt_of_lt_of_le L.lt hb.size, fun q hq => (hb.cell (p := ⟨B, q, none⟩) L.lt).trans (L.at_ q hq)⟩
theorem let_bytes (W : World) (s : ByteArray) (n : Nat) (hs : s.size = n) (hn : n ≤ 8) (hby : ∀ (i : Nat) (hi : i < s.size), (s[i]'hi).toNat = 97 + i) : LetW W.heap.size n (Lib.bytesWorld W 5 s) := by
  refine ⟨by rw [Lib.bytesWorld_size]; omega, fun q hq => ?_⟩
  rw [bytes_cells W s (by omega) q (by omega)]
  have := hby q (by omega)
  congr 2
  omega
theorem anyBad_none {w : ByteArray} {n : Nat} (h : ∀ i j, i < n → j < n → pairBad w i j = false) : anyBad w n = false := by
  unfold anyBad
  rw [List.any_eq_false]
  intro i hi
  rw [Bool.not_eq_true, List.any_eq_false]
  intro j hj
  rw [Bool.not_eq_true]
  exact h i j (List.mem_range.1 hi) (List.mem_range.1 hj)
theorem anyBad_some {w : ByteArray} {n : Nat} {i j : Nat} (hi : i < n) (hj : j < n) (h : pairBad w i j = true) : anyBad w n = true := by
  unfold anyBad
  exact List.any_eq_true.2 ⟨i, List.mem_range.2 hi, List.any_eq_true.2 ⟨j, List.mem_range.2 hj, h⟩⟩

set_option maxHeartbeats 2000000 in
set_option maxRecDepth 100000 in
theorem impl_canBeDrawn.calls (k : Nat) (a0 : ByteArray) (r : Bool) (w : World) (h : impl_canBeDrawn.f k a0 = some r) :
    Calls Tryd.prog 31 #[.string a0] w fun e w' => e = .returned (.bool r) ∧ Below w.heap.size w w' := by
  obtain ⟨ev, hev, h⟩ := Option.bind_eq_some_iff.mp h
  have HEv := Aside0.mk (fun (W : World) => impl_isEvenLoop.calls a0 ev W hev)
  have HB := Aside0.mk (Below.refl w.heap.size w)
  cases ev with
  | false =>
    rw [if_neg (by decide)] at h
    obtain rfl := Option.some.inj h
    clear h hev
    go_enter Tryd.func31, Tryd.ntmps31
    go_wp2_with (go_at_call 27; refine (HEv.out _).mono ?_; rintro e w1 ⟨rfl, hb⟩)
    go_ret
    exact ⟨rfl, hb⟩
  | true =>
    rw [if_pos rfl] at h
    by_cases hq : okAll a0 = true
    · rw [if_pos hq] at h
      obtain ⟨h16, hok⟩ := okAll_at hq
      obtain ⟨n, hn⟩ : ∃ n, a0.size / 2 = n := ⟨_, rfl⟩
      rw [hn] at h hok
      have hn8 : n ≤ 8 := by omega
      have hle : impl_lettersOf.f a0 = some (lettS n) := by
        unfold impl_lettersOf.f
        rw [M.w64 (x := (a0.size : Int) / 2) (by omega) (by omega), if_pos (by omega), if_pos (by omega), show ((a0.size : Int) / 2).toNat = n by omega]
        rfl
      obtain ⟨hls, hlb⟩ := lett_byte ⟨n, by omega⟩
      obtain ⟨s, hs⟩ : ∃ s, s = lettS n := ⟨_, rfl⟩
      rw [← hs] at hle
      have hsz : s.size = n := by rw [hs]; exact hls
      have hby : ∀ (i : Nat) (hi : i < s.size), (s[i]'hi).toNat = 97 + i := by
        intro i hi
        subst hs
        exact hlb ⟨i, by omega⟩ hi
      have HLB := Aside0.mk (fun (W : World) => let_bytes W s n hsz hn8 hby)
      clear hlb hls hs hby
      have HL := Aside0.mk (fun (W : World) => impl_lettersOf.calls a0 s W hle)
      have HE := Aside0.mk (fun (i k : Nat) (hi : i < n) (hk : k < n) (W : World) => impl_interlaced.calls a0 _ _ _ W (okE hn hok i k hi hk))
      have HP := Aside0.mk (fun (i j : Nat) (hi : i < n) (hj : j < n) => (show ∃ c, (∀ W : World, Calls Tryd.prog 49 #[.string a0, .int .u8 (97 + (i : Int)), .int .u8 (97 + (j : Int))] W fun e w' => e = .returned (.int .i64 c) ∧ Below W.heap.size W w') ∧ pairBad a0 i j = (decide (i < j) && !(hvE a0 i j) && (Int.tmod c 2 == 1)) by
        obtain ⟨c, hc, _⟩ := okP hn hok i j hi hj
        refine ⟨c, fun W => impl_common.calls a0 _ _ c W hc, ?_⟩
        unfold pairBad
        rw [hc]
        rfl))
      have HH := Aside0.mk h
      clear h hok hle hev hq
      go_enter Tryd.func31, Tryd.ntmps31
      go_wp2_with (first | (go_at_call 27; refine (HEv.out _).mono ?_; rintro e w1 ⟨rfl, hb1⟩; have n0_ := Aside0.mk (below_keep hb1 HB.out); clear HB; have HB := n0_; clear n0_ hb1) | (go_at_call 48; refine (HL.out _).mono ?_; rintro e w2 ⟨rfl, ⟨nd, rfl⟩⟩; have n0_ := Aside0.mk (pw_below_drewN HB.out nd); clear HB; have HB := n0_; clear n0_))
      rw [print_bytes 9 35 5 Tryd.underlying9 Tryd.underlying35 Tryd.underlying5]
      simp only [Result.andThen]
      rw [Oper.upon_value, hsz]
      have HLe := Aside0.mk (HLB.out (w1.drewN nd))
      have HB2 := Aside0.mk (bytes_below HB.out (HB.out.size) 5 s)
      clear HB
      generalize Lib.bytesWorld (w1.drewN nd) 5 s = W1 at HLe HB2 ⊢
      generalize (w1.drewN nd).heap.size = B1 at HLe ⊢
      generalize grownCap (w1.drewN nd) n 0 5 = cp
      have HA := Aside0.mk (fun (i j : Nat) (hi : i < 0) (hj : j < n) => show pairBad a0 i j = false from absurd hi (Nat.not_lt_zero _))
      go_wp2_with fail
      go_loopg [4, 6, 14] n (fun gg v4 v6 v14 w' => ∃ (i : Nat), v14 = .int .i64 i ∧ Aside0 (i + gg = n) ∧ Aside0 (LetW B1 n w') ∧ Aside0 (Below w.heap.size w w') ∧ Aside0 (∀ i' j : Nat, i' < i → j < n → pairBad a0 i' j = false))
      case atStart => exact ⟨0, by first | rfl | (simp; done), ⟨by omega⟩, HLe, HB2, HA⟩
      case round =>
        obtain ⟨i, rfl, HG, HLe2, HB, HA2⟩ := hrel
        clear HLe HB2 HA
        by_cases hi : i < n
        · have e4 : decide ((i : Int) < (n : Int)) = true := decide_eq_true (by omega)
          have e5 : decide (i < n) = true := decide_eq_true hi
          obtain ⟨gm, rfl⟩ : ∃ gm, gk = gm + 1 := ⟨gk - 1, by have := HG.out; omega⟩
          have h0 := HLe2.out.at_ i hi
          have b1 : ((n : Int) ≤ (i : Int)) = False := eq_false (by omega)
          have b2 : (i : Int) < (n : Int) := by omega
          go_wp2_with (go_at_call 48; refine (HL.out _).mono ?_; rintro e w2 ⟨rfl, ⟨nd2, rfl⟩⟩)
          rw [print_bytes 9 35 5 Tryd.underlying9 Tryd.underlying35 Tryd.underlying5]
          simp only [Result.andThen]
          rw [Oper.upon_value, hsz]
          have HLi := Aside0.mk (HLB.out (wr.drewN nd2))
          have hb3 : Below wr.heap.size wr (Lib.bytesWorld (wr.drewN nd2) 5 s) := bytes_below (pw_below_drewN (Below.refl _ _) nd2) (Nat.le_refl _) 5 s
          have HB3 := Aside0.mk (below_keep hb3 HB.out)
          have HLo := Aside0.mk (HLe2.out.go hb3)
          clear HB HLe2 hb3 h0
          generalize Lib.bytesWorld (wr.drewN nd2) 5 s = W2 at HLi HB3 HLo ⊢
          generalize (wr.drewN nd2).heap.size = B2 at HLi ⊢
          generalize grownCap (wr.drewN nd2) n 0 5 = cp2
          have HA3 := Aside0.mk (fun (j : Nat) (hj : j < 0) => show pairBad a0 i j = false from absurd hj (Nat.not_lt_zero _))
          go_wp2_with fail
          go_loopg [6, 22] n (fun gg v6 v22 w' => ∃ (j : Nat), v22 = .int .i64 j ∧ Aside0 (j + gg = n) ∧ Aside0 (LetW B1 n w') ∧ Aside0 (LetW B2 n w') ∧ Aside0 (Below w.heap.size w w') ∧ Aside0 (∀ j' : Nat, j' < j → pairBad a0 i j' = false))
          case atStart => exact ⟨0, by first | rfl | (simp; done), ⟨by omega⟩, HLo, HLi, HB3, HA3⟩
          case round =>
            obtain ⟨j, rfl, HGj, HLo2, HLi2, HB, HA4⟩ := hrel
            clear HLo HLi HB3 HA3
            by_cases hj : j < n
            · have f4 : decide ((j : Int) < (n : Int)) = true := decide_eq_true (by omega)
              have f5 : decide (j < n) = true := decide_eq_true hj
              obtain ⟨gn, rfl⟩ : ∃ gn, gk = gn + 1 := ⟨gk - 1, by have := HGj.out; omega⟩
              have h1 := HLi2.out.at_ j hj
              have b3 : ((n : Int) ≤ (j : Int)) = False := eq_false (by omega)
              have b4 : (j : Int) < (n : Int) := by omega
              have HE1 := Aside0.mk (fun (W : World) => HE.out i j hi hj W)
              obtain ⟨c, hc1, hc2⟩ := HP.out i j hi hj
              have HC := Aside0.mk hc1
              have HPB := Aside0.mk hc2
              clear hc1 hc2
              by_cases hij : i < j
              · have e6 : decide (97 + (i : Int) < 97 + (j : Int)) = true := decide_eq_true (by omega)
                cases hE : hvE a0 i j with
                | true =>
                  rw [hE] at HE1
                  have HA5 := Aside0.mk (fun (j' : Nat) (hj' : j' < j + 1) => show pairBad a0 i j' = false from by
                    by_cases e : j' = j
                    · subst e
                      rw [HPB.out, hE]
                      simp
                    · exact HA4.out j' (by omega))
                  clear hE HPB
                  go_wp2_with (go_at_call 22; refine (HE1.out _).mono ?_; rintro e w3 ⟨rfl, ⟨nd3, rfl⟩⟩)
                  go_roundg gn
                  case measure => omega
                  case rel => exact ⟨j + 1, by first | rfl | (simp; done), ⟨by have := HGj.out; omega⟩, ⟨HLo2.out.go (pw_below_drewN (Below.refl _ _) nd3)⟩, ⟨HLi2.out.go (pw_below_drewN (Below.refl _ _) nd3)⟩, ⟨pw_below_drewN HB.out nd3⟩, HA5⟩
                | false =>
                  rw [hE] at HE1
                  cases hcp : (Int.tmod c 2 == 1) with
                  | true =>
                    have hbad : anyBad a0 n = true := anyBad_some hi hj (by rw [HPB.out, hE, hcp, decide_eq_true hij]; rfl)
                    obtain rfl : r = false := by
                      have e := HH.out
                      rw [if_pos hbad] at e
                      exact (Option.some.inj e).symm
                    clear hE HPB hbad
                    go_wp2_with (first | (go_at_call 22; refine (HE1.out _).mono ?_; rintro e w3 ⟨rfl, ⟨nd3, rfl⟩⟩; have n0_ := Aside0.mk (pw_below_drewN HB.out nd3); clear HB; have HB := n0_; clear n0_) | (go_at_call 49; refine (HC.out _).mono ?_; rintro e w4 ⟨rfl, hb4⟩; have n0_ := Aside0.mk (below_keep hb4 HB.out); clear HB; have HB := n0_; clear n0_))
                    go_ret
                    exact ⟨rfl, HB.out⟩
                  | false =>
                    have HA5 := Aside0.mk (fun (j' : Nat) (hj' : j' < j + 1) => show pairBad a0 i j' = false from by
                      by_cases e : j' = j
                      · subst e
                        rw [HPB.out, hcp]
                        simp
                      · exact HA4.out j' (by omega))
                    clear hE HPB
                    go_wp2_with (first | (go_at_call 22; refine (HE1.out _).mono ?_; rintro e w3 ⟨rfl, ⟨nd3, rfl⟩⟩) | (go_at_call 49; refine (HC.out _).mono ?_; rintro e w4 ⟨rfl, hb4⟩))
                    have hb5 : Below wr.heap.size wr w4 := (pw_below_drewN (Below.refl _ _) nd3).trans hb4
                    go_roundg gn
                    case measure => omega
                    case rel => exact ⟨j + 1, by first | rfl | (simp; done), ⟨by have := HGj.out; omega⟩, ⟨HLo2.out.go hb5⟩, ⟨HLi2.out.go hb5⟩, ⟨below_keep hb5 HB.out⟩, HA5⟩
              · have e6 : decide (97 + (i : Int) < 97 + (j : Int)) = false := decide_eq_false (by omega)
                have HA5 := Aside0.mk (fun (j' : Nat) (hj' : j' < j + 1) => show pairBad a0 i j' = false from by
                  by_cases e : j' = j
                  · subst e
                    rw [HPB.out, decide_eq_false hij]
                    simp
                  · exact HA4.out j' (by omega))
                clear HPB
                go_wp2_with fail
                go_roundg gn
                case measure => omega
                case rel => exact ⟨j + 1, by first | rfl | (simp; done), ⟨by have := HGj.out; omega⟩, HLo2, HLi2, HB, HA5⟩
            · have f4 : decide ((j : Int) < (n : Int)) = false := decide_eq_false (by omega)
              have f5 : decide (j < n) = false := decide_eq_false hj
              have HA5 := Aside0.mk (fun (i' j' : Nat) (hi' : i' < i + 1) (hj' : j' < n) => show pairBad a0 i' j' = false from by
                by_cases e : i' = i
                · subst e
                  exact HA4.out j' (by have := HGj.out; omega)
                · exact HA2.out i' j' (by omega) hj')
              go_wp2_with fail
              go_roundg gm
              case measure => omega
              case rel => exact ⟨i + 1, by first | rfl | (simp; done), ⟨by have := HG.out; omega⟩, HLo2, HB, HA5⟩
        · have e4 : decide ((i : Int) < (n : Int)) = false := decide_eq_false (by omega)
          have e5 : decide (i < n) = false := decide_eq_false hi
          have hgood : anyBad a0 n = false := anyBad_none (fun i' j h1 h2 => HA2.out i' j (by have := HG.out; omega) h2)
          have hH := HH.out
          rw [hgood, if_neg (by decide)] at hH
          have HC := Aside0.mk (fun (W : World) => impl_haveHalves.calls k a0 r W hH)
          clear hH hgood
          go_wp2_with (go_at_call 50; refine (HC.out _).mono ?_; rintro e w3 ⟨rfl, hb3⟩)
          go_ret
          exact ⟨rfl, below_keep hb3 HB.out⟩
    · rw [if_neg hq] at h
      cases h
end Go.Proofs.YtkfllbbpclgffaaDoor.Pr

/- What the library's Trim computes at the first eight letters. -/
namespace Go.Proofs.YtkfllbbpclgffaaDoor.Pr
open Go.RowKit Go.Proofs.YtkfllbbpclgffaaDoorW.PrintWords Go.Proofs.YtkfllbbpclgffaaDoorW.PrintLast Go.Proofs.YtkfllbbpclgffaaDoorW.PrintMore
set_option linter.unusedVariables false
set_option linter.unusedSimpArgs false

def strings_Trim.f (a0 : ByteArray) (a1 : ByteArray) : Option (ByteArray) := if a0.size ≤ 1048576 ∧ a1 = ⟨#[97, 98, 99, 100, 101, 102, 103, 104]⟩ then some ⟨(Lib.trimS a0.data.toList [97, 98, 99, 100, 101, 102, 103, 104]).toArray⟩ else none
theorem strings_Trim.calls (a0 : ByteArray) (a1 : ByteArray) (r : ByteArray) (w : World) (h : strings_Trim.f a0 a1 = some r) :
    Calls Tryd.prog 41 #[.string a0, .string a1] w fun e w' => e = .returned (.string r) ∧ Below w.heap.size w w' := by
  unfold strings_Trim.f at h
  by_cases hs : a0.size ≤ 1048576 ∧ a1 = ⟨#[97, 98, 99, 100, 101, 102, 103, 104]⟩
  · rw [if_pos hs] at h
    obtain rfl := Option.some.inj h
    obtain ⟨h1, rfl⟩ := hs
    exact Any.strings_Trim_laid Tryd.l160 (by kernel_rfl) a0 _ w (by omega) (by decide) (ascii_of_all (by decide))
  · rw [if_neg hs] at h; cases h
end Go.Proofs.YtkfllbbpclgffaaDoor.Pr

-- Written by a program for this claim.
namespace Go.Proofs.YtkfllbbpclgffaaDoor.Pr
open Go.RowKit Go.Proofs.YtkfllbbpclgffaaDoorW.PrintWords Go.Proofs.YtkfllbbpclgffaaDoorW.PrintLast Go.Proofs.YtkfllbbpclgffaaDoorW.PrintMore
attribute [local go_sem] max2_int min2_int max_two min_two max_three min_three max_four min_four   -- for this text's walks alone
set_option linter.unusedVariables false
set_option linter.unusedSimpArgs false

/-! ### impl_named: function 42 -/
def impl_named.l0 : Nat → ByteArray → ByteArray → List Int → Int → Int → Option (ByteArray)
  | 0, _, _, _, _, _ => none
  | k + 1, x0, x3, x4, x9, x10 => if x10 < x9 then (if 0 ≤ x10 then (if x10 < (x0.size : Int) then ((strings_IndexByte.f x3 (bt x0 x10)).bind fun t104 => (if t104 < 0 then (if x10 ≤ (wrap64 (x10 + 1)) then (if (wrap64 (x10 + 1)) ≤ (x0.size : Int) then (if x3.size + (x0.extract (x10 : Int).toNat ((wrap64 (x10 + 1)) : Int).toNat).size ≤ 9223372036854775807 then (if x4.length < 140737488355328 then (impl_named.l0 k x0 (x3 ++ (x0.extract (x10 : Int).toNat ((wrap64 (x10 + 1)) : Int).toNat)) (x4 ++ [(97 + ((x3.size : Int))) % 256]) x9 (wrap64 (x10 + 1))) else (none)) else (none)) else (none)) else (none)) else (if x4.length < 140737488355328 then (impl_named.l0 k x0 x3 (x4 ++ [(97 + (t104)) % 256]) x9 (wrap64 (x10 + 1))) else (none)))) else (none)) else (none)) else (some (strOfNums x4))
def impl_named.f (k : Nat) (a0 : ByteArray) : Option (ByteArray) := impl_named.l0 k a0 (⟨#[]⟩ : ByteArray) (([] : List Int)) (a0.size : Int) 0
theorem impl_named.mono_l : ∀ k, (∀ y0 y1 y2 y3 y4, LeO (impl_named.l0 k y0 y1 y2 y3 y4) (impl_named.l0 (k + 1) y0 y1 y2 y3 y4))
  | 0 => fun _ _ _ _ _ r h => by simp [impl_named.l0] at h
  | k + 1 => by
    have ih0 := impl_named.mono_l k
    · intro y0 y1 y2 y3 y4
      unfold impl_named.l0
      repeat' first
      | (with_reducible exact ih0 _ _ _ _ _)
      | (with_reducible exact LeO.refl _)
      | (with_reducible exact LeO.none _)
      | (with_reducible refine LeO.ite ?_ ?_)
      | (with_reducible refine LeO.bind ?_ (fun _ => ?_))
      | exact ih0 _ _ _ _ _
      | exact LeO.none _
      | refine LeO.ite ?_ ?_
      | refine LeO.bind ?_ (fun _ => ?_)
theorem impl_named.mono : ∀ a0 k, LeO (impl_named.f k a0) (impl_named.f (k + 1) a0) := by
  intro a0 k
  have ih0 := impl_named.mono_l k
  unfold impl_named.f
  repeat' first
      | (with_reducible exact ih0 _ _ _ _ _)
      | (with_reducible exact LeO.refl _)
      | (with_reducible exact LeO.none _)
      | (with_reducible refine LeO.ite ?_ ?_)
      | (with_reducible refine LeO.bind ?_ (fun _ => ?_))
      | exact ih0 _ _ _ _ _
      | exact LeO.none _
      | refine LeO.ite ?_ ?_
      | refine LeO.bind ?_ (fun _ => ?_)
set_option maxHeartbeats 8000000 in
set_option maxRecDepth 100000 in
theorem impl_named.calls (k : Nat) (a0 : ByteArray) (r : ByteArray) (w : World) (h : impl_named.f k a0 = some r) :
    Calls Tryd.prog 42 #[.string a0] w fun e w' => e = .returned (.string r) ∧ Below w.heap.size w w' := by
  have HB := Aside0.mk (Below.refl w.heap.size w)
  have H : (impl_named.l0 k a0 (⟨#[]⟩ : ByteArray) (([] : List Int)) (a0.size : Int) 0) = some r := h
  clear h
  obtain ⟨y101, hy101⟩ : ∃ y_ : List Int, y_ = (([] : List Int)) := ⟨_, rfl⟩
  replace H : (impl_named.l0 k a0 (⟨#[]⟩ : ByteArray) y101 (a0.size : Int) 0) = some r := by first | (rw [hy101]; with_reducible exact H) | (have H2_ := (Option.bind_some _ _).symm.trans H; rw [hy101]; with_reducible exact H2_) | (have H2_ := (Option.bind_some _ _).symm.trans H; with_reducible exact H2_) | with_reducible exact H | (rw [hy101]; exact H) | exact H
  have Ny101 := Aside0.mk hy101
  clear hy101
  have H' := Aside0.mk H
  clear H
  go_enter Tryd.func42, Tryd.ntmps42
  go_wp2_with (first | ((with_reducible refine gate_dst (N := 7) rfl ?_); refine Kd.R_lit (Kd.int .u8) _ 5 ?hg (N := 7) ?hd (xs := ([] : List Int)) (inner := []) (ok := fun _ => True) (okp := fun _ => True) ?hr ?hp (fun _ hk => hk) trivial (Below.refl _ _) (Nat.le_refl _) (by simp) ?_; (case hd => rfl); (case hg => rfl); (case hr => first | (go_simp; done) | (go_simp; rfl)); (case hp => exact (Reps.none _ _)); intro v102 w2 ho3 hb hg_ hnew_; clear hg_ hnew_; (first | rw [← Ny101.out] at ho3 | (simp only [Int.reduceToNat] at ho3; rw [← Ny101.out] at ho3)); have n0_ := Aside0.mk (Kd.R_lower ho3 (below_size (by repeat (first | (with_reducible first | exact HB.out | apply below_alloc | apply pw_below_drewN | apply below_drew1) | exact HB.out)))); have n1_ := Aside0.mk (below_step (by repeat (first | (with_reducible first | exact HB.out | apply below_alloc | apply pw_below_drewN | apply below_drew1) | exact HB.out)) hb); clear HB; have HO103 := n0_; have HB := n1_; clear n0_ n1_; clear hb ho3))
  go_loopg [3, 4, 10] k (fun kq v3 v4 v10 w' => ∃ (x3_1 : ByteArray) (x4_1 : List Int) (x10_1 : Int), v3 = .string x3_1 ∧ v10 = .int .i64 x10_1 ∧ Aside0 (impl_named.l0 kq a0 x3_1 x4_1 (a0.size : Int) x10_1 = some r) ∧ Aside0 (kq ≤ k) ∧ Aside0 (Kd.R (Kd.int .u8) 5 w' w.heap.size (fun _ => True) v4 x4_1) ∧ Aside0 (Below w.heap.size w w'))
  case atStart => exact ⟨((⟨#[]⟩ : ByteArray)), (y101), (0), (by first | rfl | (simp; done) | (simp [*]; done)), (by first | rfl | (simp; done) | (simp [*]; done)), H', ⟨Nat.le_refl _⟩, ⟨by (with_reducible repeat (first | apply Kd.R_alloc | apply Kd.R_drewN | apply Kd.R_drew)); exact HO103.out⟩, ⟨by repeat (first | (with_reducible first | exact HB.out | apply below_alloc | apply pw_below_drewN | apply below_drew1) | exact HB.out)⟩⟩
  case round =>
    clear H'
    try clear p2
    obtain ⟨x3_1, x4_1, x10_1, rfl, rfl, HA, HK1, HO_4, HB⟩ := hrel
    cases gk with
    | zero => exact absurd HA.out (by simp [impl_named.l0])
    | succ k1 =>
      have H := HA.out
      clear HA
      simp only [impl_named.l0] at H
      by_cases c4 : x10_1 < (a0.size : Int)
      · rw [if_pos c4] at H
        have c4b0 : decide (x10_1 < (a0.size : Int)) = true := decide_eq_true c4
        clear c4
        by_cases c5 : 0 ≤ x10_1
        · rw [if_pos c5] at H
          have c5b0 : decide (0 ≤ x10_1) = true := decide_eq_true c5
          clear c5
          by_cases c6 : x10_1 < (a0.size : Int)
          · rw [if_pos c6] at H
            have c6b0 : decide (x10_1 < (a0.size : Int)) = true := decide_eq_true c6
            clear c6
            replace H := Option.bind_eq_some_iff.mp H
            obtain ⟨t104, A80, H⟩ := H
            replace H : (if t104 < 0 then (if x10_1 ≤ (wrap64 (x10_1 + 1)) then (if (wrap64 (x10_1 + 1)) ≤ (a0.size : Int) then (if x3_1.size + (a0.extract (x10_1 : Int).toNat ((wrap64 (x10_1 + 1)) : Int).toNat).size ≤ 9223372036854775807 then (if x4_1.length < 140737488355328 then (impl_named.l0 k1 a0 (x3_1 ++ (a0.extract (x10_1 : Int).toNat ((wrap64 (x10_1 + 1)) : Int).toNat)) (x4_1 ++ [(97 + ((x3_1.size : Int))) % 256]) (a0.size : Int) (wrap64 (x10_1 + 1))) else (none)) else (none)) else (none)) else (none)) else (if x4_1.length < 140737488355328 then (impl_named.l0 k1 a0 x3_1 (x4_1 ++ [(97 + (t104)) % 256]) (a0.size : Int) (wrap64 (x10_1 + 1))) else (none))) = some r := H
            have A8 := Aside0.mk A80
            clear A80
            by_cases c9 : t104 < 0
            · rw [if_pos c9] at H
              have c9b0 : decide (t104 < 0) = true := decide_eq_true c9
              clear c9
              have c10b0 := eq_true (of_decide_eq_true (by first | (with_reducible assumption) | assumption) : 0 ≤ x10_1)
              by_cases c11 : x10_1 ≤ (wrap64 (x10_1 + 1))
              · rw [if_pos c11] at H
                have c11b0 := eq_true c11
                have c11b1 : decide (x10_1 ≤ (wrap64 (x10_1 + 1))) = true := decide_eq_true c11
                by_cases c12 : (wrap64 (x10_1 + 1)) ≤ (a0.size : Int)
                · rw [if_pos c12] at H
                  have c12b0 := eq_true c12
                  have c12b1 : decide ((wrap64 (x10_1 + 1)) ≤ (a0.size : Int)) = true := decide_eq_true c12
                  by_cases c13 : x3_1.size + (a0.extract (x10_1 : Int).toNat ((wrap64 (x10_1 + 1)) : Int).toNat).size ≤ 9223372036854775807
                  · rw [if_pos c13] at H
                    have c13b0 := eq_true c13
                    have c13b1 : decide (x3_1.size + (a0.extract (x10_1 : Int).toNat ((wrap64 (x10_1 + 1)) : Int).toNat).size ≤ 9223372036854775807) = true := decide_eq_true c13
                    try have c13b2 : (9223372036854775807 < x3_1.size + (a0.extract (x10_1 : Int).toNat ((wrap64 (x10_1 + 1)) : Int).toNat).size) = False := eq_false (Nat.not_lt.2 c13)
                    by_cases c14 : x4_1.length < 140737488355328
                    · rw [if_pos c14] at H
                      have LMc14 := Aside0.mk c14
                      clear c14
                      obtain ⟨y105, hy105⟩ : ∃ y_ : List Int, y_ = (x4_1 ++ [(97 + ((x3_1.size : Int))) % 256]) := ⟨_, rfl⟩
                      replace H : (impl_named.l0 k1 a0 (x3_1 ++ (a0.extract (x10_1 : Int).toNat ((wrap64 (x10_1 + 1)) : Int).toNat)) y105 (a0.size : Int) (wrap64 (x10_1 + 1))) = some r := by first | (rw [hy105]; with_reducible exact H) | (have H2_ := (Option.bind_some _ _).symm.trans H; rw [hy105]; with_reducible exact H2_) | (have H2_ := (Option.bind_some _ _).symm.trans H; with_reducible exact H2_) | with_reducible exact H | (rw [hy105]; exact H) | exact H
                      have Ny105 := Aside0.mk hy105
                      clear hy105
                      have H' := Aside0.mk H
                      clear H
                      have p7 : 0 ≤ (x10_1 : Int) := of_decide_eq_true (by first | (with_reducible assumption) | assumption)
                      have q7 : x10_1 < (a0.size : Int) := of_decide_eq_true (by first | (with_reducible assumption) | assumption)
                      have hx7 := bt_at a0 x10_1
                      replace p7 := eq_true p7
                      replace q7 := eq_true q7
                      go_wp2_with (first | ((with_reducible refine gate_callee (f := 36) rfl ?_); refine goesL_ (some 17) rfl rfl Tryd.func36 (by kernel_rfl) rfl #[.string x3_1, .int .u8 (bt a0 x10_1)] rfl (by (try simp only [List.map_toArray, List.map_cons, List.map_nil]); first | done | rfl | (simp only [List.length_drop, List.length_take]; rfl)) ?_; (with_reducible refine (strings_IndexByte.calls x3_1 (bt a0 x10_1) t104 _ A8.out).mono ?_); rintro e w' ⟨rfl, ⟨nd, rfl⟩⟩; refine ⟨_, rfl, ?_⟩) | ((with_reducible refine gate_builtin (b := .append) (xs := #[.tmp 29, .tmp 33]) rfl ?_); at_builtin; refine Kd.R_append (Kd.int .u8) (w0 := w) w.heap.size rfl (.tmp 29) (.tmp 33) 35 5 (.int .u8 0) 1 rfl Tryd.underlying35 info5 rfl (by decide) (by omega) u4 x4_1 ((97 + ((x3_1.size : Int))) % 256) [.int .u8 ((97 + ((x3_1.size : Int))) % 256)] (fun _ => True) (fun _ => False) rfl rfl ?aP (fun _ hk => hk.elim) ?aF ?aO ?aB ?aS ?aL ?_; (case aP => exact rfl); (case aB => exact (by repeat (first | (with_reducible first | exact HB.out | apply below_alloc | apply pw_below_drewN | apply below_drew1) | exact HB.out))); (case aF => exact (fun _ _ => trivial)); (case aO => exact (by (with_reducible repeat (first | apply Kd.R_alloc | apply Kd.R_drewN | apply Kd.R_drew)); exact HO_4.out)); (case aS => exact (below_size (by repeat (first | (with_reducible first | exact HB.out | apply below_alloc | apply pw_below_drewN | apply below_drew1) | exact HB.out)))); (case aL => have := LMc14.out; omega); intro v106 w15 ho hb hg hat; rw [← Ny105.out] at ho; have n0_ := Aside0.mk (hb); have n1_ := Aside0.mk (ho); clear HB; clear HO_4; have HB := n0_; have HO107 := n1_; clear n0_ n1_; clear ho hb hg hat))
                      go_roundg k1
                      case measure => have := HK1.out; omega
                      case rel => exact ⟨(x3_1 ++ (a0.extract (x10_1 : Int).toNat ((wrap64 (x10_1 + 1)) : Int).toNat)), (y105), (wrap64 (x10_1 + 1)), (by first | rfl | (simp; done) | (simp [*]; done)), (by first | rfl | (simp; done) | (simp [*]; done)), H', ⟨by have := HK1.out; omega⟩, ⟨by (with_reducible repeat (first | apply Kd.R_alloc | apply Kd.R_drewN | apply Kd.R_drew)); exact HO107.out⟩, ⟨by repeat (first | (with_reducible first | exact HB.out | apply below_alloc | apply pw_below_drewN | apply below_drew1) | exact HB.out)⟩⟩
                    · rw [if_neg c14] at H
                      exact absurd H (by simp)
                  · rw [if_neg c13] at H
                    exact absurd H (by simp)
                · rw [if_neg c12] at H
                  exact absurd H (by simp)
              · rw [if_neg c11] at H
                exact absurd H (by simp)
            · rw [if_neg c9] at H
              have c9b0 : decide (t104 < 0) = false := decide_eq_false c9
              clear c9
              by_cases c16 : x4_1.length < 140737488355328
              · rw [if_pos c16] at H
                have LMc16 := Aside0.mk c16
                clear c16
                obtain ⟨y108, hy108⟩ : ∃ y_ : List Int, y_ = (x4_1 ++ [(97 + (t104)) % 256]) := ⟨_, rfl⟩
                replace H : (impl_named.l0 k1 a0 x3_1 y108 (a0.size : Int) (wrap64 (x10_1 + 1))) = some r := by first | (rw [hy108]; with_reducible exact H) | (have H2_ := (Option.bind_some _ _).symm.trans H; rw [hy108]; with_reducible exact H2_) | (have H2_ := (Option.bind_some _ _).symm.trans H; with_reducible exact H2_) | with_reducible exact H | (rw [hy108]; exact H) | exact H
                have Ny108 := Aside0.mk hy108
                clear hy108
                have H' := Aside0.mk H
                clear H
                have p7 : 0 ≤ (x10_1 : Int) := of_decide_eq_true (by first | (with_reducible assumption) | assumption)
                have q7 : x10_1 < (a0.size : Int) := of_decide_eq_true (by first | (with_reducible assumption) | assumption)
                have hx7 := bt_at a0 x10_1
                replace p7 := eq_true p7
                replace q7 := eq_true q7
                go_wp2_with (first | ((with_reducible refine gate_callee (f := 36) rfl ?_); refine goesL_ (some 17) rfl rfl Tryd.func36 (by kernel_rfl) rfl #[.string x3_1, .int .u8 (bt a0 x10_1)] rfl (by (try simp only [List.map_toArray, List.map_cons, List.map_nil]); first | done | rfl | (simp only [List.length_drop, List.length_take]; rfl)) ?_; (with_reducible refine (strings_IndexByte.calls x3_1 (bt a0 x10_1) t104 _ A8.out).mono ?_); rintro e w' ⟨rfl, ⟨nd, rfl⟩⟩; refine ⟨_, rfl, ?_⟩) | ((with_reducible refine gate_builtin (b := .append) (xs := #[.tmp 29, .tmp 33]) rfl ?_); at_builtin; refine Kd.R_append (Kd.int .u8) (w0 := w) w.heap.size rfl (.tmp 29) (.tmp 33) 35 5 (.int .u8 0) 1 rfl Tryd.underlying35 info5 rfl (by decide) (by omega) u4 x4_1 ((97 + (t104)) % 256) [.int .u8 ((97 + (t104)) % 256)] (fun _ => True) (fun _ => False) rfl rfl ?aP (fun _ hk => hk.elim) ?aF ?aO ?aB ?aS ?aL ?_; (case aP => exact rfl); (case aB => exact (by repeat (first | (with_reducible first | exact HB.out | apply below_alloc | apply pw_below_drewN | apply below_drew1) | exact HB.out))); (case aF => exact (fun _ _ => trivial)); (case aO => exact (by (with_reducible repeat (first | apply Kd.R_alloc | apply Kd.R_drewN | apply Kd.R_drew)); exact HO_4.out)); (case aS => exact (below_size (by repeat (first | (with_reducible first | exact HB.out | apply below_alloc | apply pw_below_drewN | apply below_drew1) | exact HB.out)))); (case aL => have := LMc16.out; omega); intro v109 w17 ho hb hg hat; rw [← Ny108.out] at ho; have n0_ := Aside0.mk (hb); have n1_ := Aside0.mk (ho); clear HB; clear HO_4; have HB := n0_; have HO110 := n1_; clear n0_ n1_; clear ho hb hg hat))
                go_roundg k1
                case measure => have := HK1.out; omega
                case rel => exact ⟨(x3_1), (y108), (wrap64 (x10_1 + 1)), (by first | rfl | (simp; done) | (simp [*]; done)), (by first | rfl | (simp; done) | (simp [*]; done)), H', ⟨by have := HK1.out; omega⟩, ⟨by (with_reducible repeat (first | apply Kd.R_alloc | apply Kd.R_drewN | apply Kd.R_drew)); exact HO110.out⟩, ⟨by repeat (first | (with_reducible first | exact HB.out | apply below_alloc | apply pw_below_drewN | apply below_drew1) | exact HB.out)⟩⟩
              · rw [if_neg c16] at H
                exact absurd H (by simp)
          · rw [if_neg c6] at H
            exact absurd H (by simp)
        · rw [if_neg c5] at H
          exact absurd H (by simp)
      · rw [if_neg c4] at H
        have c4b0 : decide (x10_1 < (a0.size : Int)) = false := decide_eq_false c4
        clear c4
        obtain rfl := Option.some.inj H
        have hcv18 := own_string (P := Tryd.prog) Tryd.underlying35 Tryd.underlying5 Tryd.underlying9 (Kd.own_of_R HO_4.out)
        go_wp2
        go_ret
        exact ⟨by first | rfl | (simp [errW_none, errW_some] <;> rfl) | (simp [*, errW_none, errW_some] <;> rfl), by repeat (first | (with_reducible first | exact HB.out | apply below_alloc | apply pw_below_drewN | apply below_drew1) | exact HB.out)⟩

end Go.Proofs.YtkfllbbpclgffaaDoor.Pr

/- What the program's IsLoop computes. -/
namespace Go.Proofs.YtkfllbbpclgffaaDoor.Pr
open Go.RowKit Go.Proofs.YtkfllbbpclgffaaDoorW.PrintWords Go.Proofs.YtkfllbbpclgffaaDoorW.PrintLast Go.Proofs.YtkfllbbpclgffaaDoorW.PrintMore
set_option linter.unusedVariables false
set_option linter.unusedSimpArgs false

/-- A byte that a text has not just twice. -/
def missB (w : ByteArray) (c : Int) : Bool := (((w.data.toList.count c.toNat.toUInt8 : Nat) : Int) != 2)
theorem encode_small {c : Int} (h0 : 0 ≤ c) (h1 : c < 128) : Utf8.encode c = ⟨#[c.toNat.toUInt8]⟩ := by
  have h : ∀ n : Fin 128, Utf8.encode (n.val : Int) = ⟨#[n.val.toUInt8]⟩ := by decide +kernel
  obtain ⟨n, rfl⟩ := Int.eq_ofNat_of_zero_le h0
  exact h ⟨n, by omega⟩
theorem count_small (w : ByteArray) (c : Int) (h0 : 0 ≤ c) (h1 : c < 128) (W : World) :
    Calls Tryd.prog 38 #[.string w, .string (Utf8.encode c)] W fun e w' => e = .returned (.int .i64 ((w.data.toList.count c.toNat.toUInt8 : Nat) : Int)) ∧ Drawn0 W w' := by
  rw [encode_small h0 h1]
  exact strings_Count.calls w _ _ W rfl

set_option maxHeartbeats 2000000 in
theorem loop_pred (w0 : ByteArray) (B : Nat) (zs : List Int) (hz : ∀ x ∈ zs, 0 ≤ x ∧ x < 128) (w : World) (hB : B < w.heap.size) (hcell : w.cell? ⟨B, 0, none⟩ = some (.string w0)) :
    PredB 44 #[.pointer (some ⟨B, 0, none⟩)] encB (missB w0) zs w := fun W x hx hb => by
  have hc : W.cell? ⟨B, 0, none⟩ = some (.string w0) := (hb.cell (p := ⟨B, 0, none⟩) hB).trans hcell
  obtain ⟨h0, h1⟩ := hz x hx
  show Calls Tryd.prog 44 #[.int .u8 x, .pointer (some ⟨B, 0, none⟩)] W fun e w' => e = .returned (.bool (missB w0 x)) ∧ Below W.heap.size W w'
  unfold missB
  have HC := Aside0.mk (fun (W1 : World) => count_small w0 x h0 h1 W1)
  generalize ((w0.data.toList.count x.toNat.toUInt8 : Nat) : Int) = r at HC ⊢
  clear hcell hb hx hz
  go_enter Tryd.func44, Tryd.ntmps44
  go_wp2_with (go_at_call 38; refine (HC.out _).mono ?_; rintro e w' ⟨rfl, ⟨nd, rfl⟩⟩)
  go_ret
  exact ⟨by simp, pw_below_drewN (Below.refl _ _) _⟩

/-- What the program's IsLoop tells. -/
def impl_IsLoop.f (k : Nat) (a0 : ByteArray) : Option (Bool) :=
  if a0.size ≤ 16 then
    (if (Lib.trimS a0.data.toList [97, 98, 99, 100, 101, 102, 103, 104] = [] ∧ ∀ x ∈ bytesOf a0, 0 ≤ x ∧ x < 128) then ((impl_named.f k a0).bind fun t => if t = a0 then some (!((bytesOf a0).any (missB a0))) else some false)
    else if Lib.trimS a0.data.toList [97, 98, 99, 100, 101, 102, 103, 104] = [] then none else some false)
  else some false
theorem impl_IsLoop.mono : ∀ a0 k, LeO (impl_IsLoop.f k a0) (impl_IsLoop.f (k + 1) a0) := by
  intro a0 k
  unfold impl_IsLoop.f
  exact LeO.ite (LeO.ite (LeO.bind (impl_named.mono _ _) (fun _ => LeO.refl _)) (LeO.refl _)) (LeO.refl _)

set_option maxHeartbeats 4000000 in
theorem impl_IsLoop.calls (k : Nat) (a0 : ByteArray) (r : Bool) (w : World) (h : impl_IsLoop.f k a0 = some r) :
    Calls Tryd.prog 26 #[.string a0] w fun e w' => e = .returned (.bool r) ∧ Below w.heap.size w w' := by
  have hb0 : Below w.heap.size w (w.alloc (.cells #[.string a0] 9)) := below_alloc (Below.refl _ _) _
  have hs0 : w.heap.size < (w.alloc (.cells #[.string a0] 9)).heap.size := by simp
  have hx0 : (w.alloc (.cells #[.string a0] 9)).cell? ⟨w.heap.size, 0, none⟩ = some (.string a0) := by simp
  have eg : ∀ args w, (callFunc 44 args).run Tryd.prog w = .ok (.enter 44 args) w := enters_of Tryd.func44 (by kernel_rfl) rfl
  unfold impl_IsLoop.f at h
  by_cases hl : a0.size ≤ 16
  · rw [if_pos hl] at h
    have d1 : decide ((a0.size : Int) > 16) = false := decide_eq_false (by omega)
    have hT := Aside0.mk (fun (W : World) => strings_Trim.calls a0 _ _ W (if_pos ⟨by omega, rfl⟩))
    by_cases ht : Lib.trimS a0.data.toList [97, 98, 99, 100, 101, 102, 103, 104] = []
    · by_cases hz : ∀ x ∈ bytesOf a0, 0 ≤ x ∧ x < 128
      · rw [if_pos ⟨ht, hz⟩] at h
        rw [ht] at hT
        obtain ⟨t, hn, h⟩ := Option.bind_eq_some_iff.mp h
        have hN := Aside0.mk (fun (W : World) => impl_named.calls k a0 t W hn)
        go_enter Tryd.func26, Tryd.ntmps26
        have d2 : ((([] : List UInt8) != []) = true) = False := by simp
        have HB0 := Aside0.mk hb0
        clear hb0 ht hn
        by_cases e : t = a0
        · subst e
          rw [if_pos rfl] at h
          have hC := Aside0.mk (fun (W : World) (hB : w.heap.size < W.heap.size) (hc : W.cell? ⟨w.heap.size, 0, none⟩ = some (.string t)) (A : Option Addr) (c : Nat) (hr : Kd.C (Kd.int .u8) W A (bytesOf t).length (bytesOf t)) (hcap : (bytesOf t).length ≤ c) =>
            containsFunc_byte A c (bytesOf t) (missB t) 44 #[.pointer (some ⟨w.heap.size, 0, none⟩)] eg W hr hcap (loop_pred t w.heap.size (bytesOf t) hz W hB hc))
          have hlen := bytesOf_length t
          generalize (bytesOf t).any (missB t) = b at hC h
          obtain rfl := Option.some.inj h
          clear h eg hz
          go_wp2_with fail
          go_region_held3 (fun w' => w'.cell? ⟨w.heap.size, 0, none⟩ = some (.string t) ∧ w.heap.size < w'.heap.size ∧ Below w.heap.size w w')
            ((go_split_ands; refine ⟨?_, ?_, ?_⟩ <;> (first | assumption | exact HB0.out | exact below_drew HB0.out | exact below_drew (by assumption) | exact cell_keep (by assumption) (by assumption) (by assumption) | exact lt_keep (by assumption) (by assumption) | exact below_keep (by assumption) (by assumption) | (simp [*]; done))))
            (first | (go_at_call 41; refine (hT.out _).mono ?_; rintro e w' ⟨rfl, hb⟩) | (go_at_call 42; refine (hN.out _).mono ?_; rintro e w' ⟨rfl, hb2⟩))
          go_split_ands
          rename_i wr hx1 hx2 hx3
          go_wp2_with fail
          rw [print_bytes 9 35 5 Tryd.underlying9 Tryd.underlying35 Tryd.underlying5]
          simp only [Result.andThen]
          rw [Oper.upon_value]
          have hbb : Below w'.heap.size w' (Lib.bytesWorld w' 5 t) := bytes_below (Below.refl _ _) (Nat.le_refl _) 5 t
          have hCC := hC.out _ (lt_keep hbb hx2) (cell_keep hbb hx2 hx1) _ _ (bytes_C w' 5 t (by omega)) (by rw [hlen]; exact grownCap_ge w' t.size 0 5)
          rw [hlen] at hCC
          go_wp2_with (go_at_call 43; refine hCC.mono ?_; rintro e w2 ⟨rfl, hb3⟩)
          go_ret
          exact ⟨by simp, below_keep hb3 (below_keep hbb hx3)⟩
        · rw [if_neg e] at h
          obtain rfl := Option.some.inj h
          have e1 := toList_ne e
          have e2 : (t.toList == a0.toList) = false := beq_eq_false_iff_ne.mpr e1
          clear h eg hz e e1
          go_wp2_with fail
          go_region_held3 (fun w' => w'.cell? ⟨w.heap.size, 0, none⟩ = some (.string a0) ∧ w.heap.size < w'.heap.size ∧ Below w.heap.size w w')
            ((go_split_ands; refine ⟨?_, ?_, ?_⟩ <;> (first | assumption | exact HB0.out | exact below_drew HB0.out | exact below_drew (by assumption) | exact cell_keep (by assumption) (by assumption) (by assumption) | exact lt_keep (by assumption) (by assumption) | exact below_keep (by assumption) (by assumption) | (simp [*]; done))))
            (first | (go_at_call 41; refine (hT.out _).mono ?_; rintro e w' ⟨rfl, hb⟩) | (go_at_call 42; refine (hN.out _).mono ?_; rintro e w' ⟨rfl, hb2⟩))
          go_split_ands
          rename_i wr hx1 hx2 hx3
          go_wp2_with fail
          go_ret
          exact ⟨rfl, hx3⟩
      · rw [if_neg (fun e => hz e.2), if_pos ht] at h; cases h
    · rw [if_neg (fun e => ht e.1), if_neg ht] at h
      obtain rfl := Option.some.inj h
      have HB0 := Aside0.mk hb0
      generalize Lib.trimS a0.data.toList [97, 98, 99, 100, 101, 102, 103, 104] = l at ht hT
      obtain ⟨s, hs⟩ : ∃ s : ByteArray, s = ⟨l.toArray⟩ := ⟨_, rfl⟩
      rw [← hs] at hT
      have hsl : s.toList = l := by rw [hs, ByteArray.toList_eq]
      have e1 : s.toList.isEmpty = false := by rw [hsl]; cases l with
        | nil => exact absurd rfl ht
        | cons y ys => rfl
      have e2 : (s.toList == []) = false := by rw [hsl]; cases l with
        | nil => exact absurd rfl ht
        | cons y ys => rfl
      clear h eg hb0 ht hs hsl
      go_enter Tryd.func26, Tryd.ntmps26
      go_wp2_with fail
      go_region_with ((go_at_call 41; refine (hT.out _).mono ?_; rintro e w' ⟨rfl, hb⟩))
      all_goals (go_wp2_with fail; go_ret; exact ⟨rfl, below_keep hb (below_drew HB0.out)⟩)
  · rw [if_neg hl] at h
    obtain rfl := Option.some.inj h
    have d1 : decide ((a0.size : Int) > 16) = true := decide_eq_true (by omega)
    have HB0 := Aside0.mk hb0
    clear h eg hb0
    go_enter Tryd.func26, Tryd.ntmps26
    go_wp2_with fail
    go_region_with ((fail))
    all_goals (go_wp2_with fail; go_ret; exact ⟨rfl, below_drew HB0.out⟩)
end Go.Proofs.YtkfllbbpclgffaaDoor.Pr

-- Written by a program for this claim.
namespace Go.Proofs.YtkfllbbpclgffaaDoor.Pr
open Go.RowKit Go.Proofs.YtkfllbbpclgffaaDoorW.PrintWords Go.Proofs.YtkfllbbpclgffaaDoorW.PrintLast Go.Proofs.YtkfllbbpclgffaaDoorW.PrintMore
attribute [local go_sem] max2_int min2_int max_two min_two max_three min_three max_four min_four   -- for this text's walks alone
set_option linter.unusedVariables false
set_option linter.unusedSimpArgs false

/-! ### impl_CanBeDrawn: function 17 -/
def impl_CanBeDrawn.f (k : Nat) (a0 : ByteArray) : Option (Bool × Bool) := (impl_IsLoop.f k a0).bind fun t150 => (if t150 = true then ((impl_canBeDrawn.f k a0).bind fun t151 => (some (t151, true))) else (some (false, false)))
theorem impl_CanBeDrawn.mono : ∀ a0 k, LeO (impl_CanBeDrawn.f k a0) (impl_CanBeDrawn.f (k + 1) a0) := by
  intro a0 k
  unfold impl_CanBeDrawn.f
  repeat' first
      | (with_reducible exact impl_IsLoop.mono _ _)
      | (with_reducible exact impl_canBeDrawn.mono _ _)
      | (with_reducible exact LeO.refl _)
      | (with_reducible exact LeO.none _)
      | (with_reducible refine LeO.ite ?_ ?_)
      | (with_reducible refine LeO.bind ?_ (fun _ => ?_))
      | exact impl_IsLoop.mono _ _
      | exact impl_canBeDrawn.mono _ _
      | exact LeO.none _
      | refine LeO.ite ?_ ?_
      | refine LeO.bind ?_ (fun _ => ?_)
set_option maxHeartbeats 8000000 in
set_option maxRecDepth 100000 in
theorem impl_CanBeDrawn.calls (k : Nat) (a0 : ByteArray) (r1 : Bool) (r2 : Bool) (w : World) (h : impl_CanBeDrawn.f k a0 = some (r1, r2)) :
    Calls Tryd.prog 17 #[.string a0] w fun e w' => e = .returned (.tuple #[.bool r1, .bool r2]) ∧ Below w.heap.size w w' := by
  have HB := Aside0.mk (Below.refl w.heap.size w)
  have H : ((impl_IsLoop.f k a0).bind fun t150 => (if t150 = true then ((impl_canBeDrawn.f k a0).bind fun t151 => (some (t151, true))) else (some (false, false)))) = some (r1, r2) := h
  clear h
  replace H := Option.bind_eq_some_iff.mp H
  obtain ⟨t150, A20, H⟩ := H
  replace H : (if t150 = true then ((impl_canBeDrawn.f k a0).bind fun t151 => (some (t151, true))) else (some (false, false))) = some (r1, r2) := H
  have A2 := Aside0.mk A20
  clear A20
  by_cases c3 : t150 = true
  · subst c3
    have H1 : ((impl_canBeDrawn.f k a0).bind fun t151 => (some (t151, true))) = some (r1, r2) := by rw [if_pos rfl] at H; exact H
    clear H
    have H := H1
    clear H1
    replace H := Option.bind_eq_some_iff.mp H
    obtain ⟨t151, A40, H⟩ := H
    replace H : (some (t151, true)) = some (r1, r2) := H
    have A4 := Aside0.mk A40
    clear A40
    simp only [Option.some.injEq, Prod.mk.injEq] at H
    obtain ⟨rfl, rfl⟩ := H
    go_enter Tryd.func17, Tryd.ntmps17
    go_wp2_with (first | ((with_reducible refine gate_callee (f := 26) rfl ?_); refine goesL_ (some 5) rfl rfl Tryd.func26 (by kernel_rfl) rfl #[.string a0] rfl (by (try simp only [List.map_toArray, List.map_cons, List.map_nil]); first | done | rfl | (simp only [List.length_drop, List.length_take]; rfl)) ?_; (with_reducible refine (impl_IsLoop.calls k a0 true _ A2.out).mono ?_); rintro e w5 ⟨rfl, hb⟩; refine ⟨_, rfl, ?_⟩; have n0_ := Aside0.mk (below_step (by repeat (first | (with_reducible first | exact HB.out | apply below_alloc | apply pw_below_drewN | apply below_drew1) | exact HB.out)) hb); clear HB; have HB := n0_; clear n0_; (try clear hb); (try clear hb2); (try clear hk); (try clear hi)) | ((with_reducible refine gate_callee (f := 31) rfl ?_); refine goesL_ (some 8) rfl rfl Tryd.func31 (by kernel_rfl) rfl #[.string a0] rfl (by (try simp only [List.map_toArray, List.map_cons, List.map_nil]); first | done | rfl | (simp only [List.length_drop, List.length_take]; rfl)) ?_; (with_reducible refine (impl_canBeDrawn.calls k a0 t151 _ A4.out).mono ?_); rintro e w6 ⟨rfl, hb⟩; refine ⟨_, rfl, ?_⟩; have n0_ := Aside0.mk (below_step (by repeat (first | (with_reducible first | exact HB.out | apply below_alloc | apply pw_below_drewN | apply below_drew1) | exact HB.out)) hb); clear HB; have HB := n0_; clear n0_; (try clear hb); (try clear hb2); (try clear hk); (try clear hi)))
    go_ret2
    exact ⟨by first | rfl | (simp [errW_none, errW_some] <;> rfl) | (simp [*, errW_none, errW_some] <;> rfl), by repeat (first | (with_reducible first | exact HB.out | apply below_alloc | apply pw_below_drewN | apply below_drew1) | exact HB.out)⟩
  · replace c3 := Bool.eq_false_iff.mpr c3
    subst c3
    have H1 : (some (false, false)) = some (r1, r2) := by rw [if_neg (show ¬ (false = true) by decide)] at H; exact H
    clear H
    have H := H1
    clear H1
    simp only [Option.some.injEq, Prod.mk.injEq] at H
    obtain ⟨rfl, rfl⟩ := H
    go_enter Tryd.func17, Tryd.ntmps17
    go_wp2_with (first | ((with_reducible refine gate_callee (f := 26) rfl ?_); refine goesL_ (some 5) rfl rfl Tryd.func26 (by kernel_rfl) rfl #[.string a0] rfl (by (try simp only [List.map_toArray, List.map_cons, List.map_nil]); first | done | rfl | (simp only [List.length_drop, List.length_take]; rfl)) ?_; (with_reducible refine (impl_IsLoop.calls k a0 false _ A2.out).mono ?_); rintro e w7 ⟨rfl, hb⟩; refine ⟨_, rfl, ?_⟩; have n0_ := Aside0.mk (below_step (by repeat (first | (with_reducible first | exact HB.out | apply below_alloc | apply pw_below_drewN | apply below_drew1) | exact HB.out)) hb); clear HB; have HB := n0_; clear n0_; (try clear hb); (try clear hb2); (try clear hk); (try clear hi)))
    go_ret2
    exact ⟨by first | rfl | (simp [errW_none, errW_some] <;> rfl) | (simp [*, errW_none, errW_some] <;> rfl), by repeat (first | (with_reducible first | exact HB.out | apply below_alloc | apply pw_below_drewN | apply below_drew1) | exact HB.out)⟩

end Go.Proofs.YtkfllbbpclgffaaDoor.Pr

-- Written by a program for this claim.
namespace Go.Proofs.YtkfllbbpclgffaaDoor.Pr
open Go.RowKit Go.Proofs.YtkfllbbpclgffaaDoorW.PrintWords Go.Proofs.YtkfllbbpclgffaaDoorW.PrintLast Go.Proofs.YtkfllbbpclgffaaDoorW.PrintMore
attribute [local go_sem] max2_int min2_int max_two min_two max_three min_three max_four min_four   -- for this text's walks alone
set_option linter.unusedVariables false
set_option linter.unusedSimpArgs false

/-! ### laws_FnExactCanBeDrawn: function 7 -/
def laws_FnExactCanBeDrawn.f (k : Nat) (a0 : ByteArray) : Option (Bool) := if (a0.size : Int) > 1048576 then (some true) else ((spec_CanBeDrawn.f k a0).bind fun bt152 => ((impl_CanBeDrawn.f k a0).bind fun bt154 => (if (bt154.1 != bt152.1) = true then (some false) else (if (bt154.2 != bt152.2) = true then (some false) else (some true)))))
theorem laws_FnExactCanBeDrawn.mono : ∀ a0 k, LeO (laws_FnExactCanBeDrawn.f k a0) (laws_FnExactCanBeDrawn.f (k + 1) a0) := by
  intro a0 k
  unfold laws_FnExactCanBeDrawn.f
  repeat' first
      | (with_reducible exact impl_CanBeDrawn.mono _ _)
      | (with_reducible exact spec_CanBeDrawn.mono _ _)
      | (with_reducible exact LeO.refl _)
      | (with_reducible exact LeO.none _)
      | (with_reducible refine LeO.ite ?_ ?_)
      | (with_reducible refine LeO.bind ?_ (fun _ => ?_))
      | exact impl_CanBeDrawn.mono _ _
      | exact spec_CanBeDrawn.mono _ _
      | exact LeO.none _
      | refine LeO.ite ?_ ?_
      | refine LeO.bind ?_ (fun _ => ?_)
set_option maxHeartbeats 8000000 in
set_option maxRecDepth 100000 in
theorem laws_FnExactCanBeDrawn.calls (k : Nat) (a0 : ByteArray) (r : Bool) (w : World) (h : laws_FnExactCanBeDrawn.f k a0 = some r) :
    Calls Tryd.prog 7 #[.string a0] w fun e w' => e = .returned (.bool r) ∧ Below w.heap.size w w' := by
  have HB := Aside0.mk (Below.refl w.heap.size w)
  have H : (if (a0.size : Int) > 1048576 then (some true) else ((spec_CanBeDrawn.f k a0).bind fun bt152 => ((impl_CanBeDrawn.f k a0).bind fun bt154 => (if (bt154.1 != bt152.1) = true then (some false) else (if (bt154.2 != bt152.2) = true then (some false) else (some true)))))) = some r := h
  clear h
  by_cases c2 : (a0.size : Int) > 1048576
  · rw [if_pos c2] at H
    have c2b0 : decide (1048576 < (a0.size : Int)) = true := decide_eq_true c2
    have c2b1 : decide (1048576 < a0.size) = true := decide_eq_true (by omega)
    clear c2
    obtain rfl := Option.some.inj H
    go_enter Tryd.func7, Tryd.ntmps7
    go_wp2
    go_ret
    exact ⟨by first | rfl | (simp [errW_none, errW_some] <;> rfl) | (simp [*, errW_none, errW_some] <;> rfl), by repeat (first | (with_reducible first | exact HB.out | apply below_alloc | apply pw_below_drewN | apply below_drew1) | exact HB.out)⟩
  · rw [if_neg c2] at H
    have c2b0 : decide (1048576 < (a0.size : Int)) = false := decide_eq_false c2
    have c2b1 : decide (1048576 < a0.size) = false := decide_eq_false (by omega)
    clear c2
    replace H := Option.bind_eq_some_iff.mp H
    obtain ⟨⟨t152, t153⟩, A30, H⟩ := H
    replace H : ((impl_CanBeDrawn.f k a0).bind fun bt154 => (if (bt154.1 != t152) = true then (some false) else (if (bt154.2 != t153) = true then (some false) else (some true)))) = some r := H
    have A3 := Aside0.mk A30
    clear A30
    replace H := Option.bind_eq_some_iff.mp H
    obtain ⟨⟨t154, t155⟩, A40, H⟩ := H
    replace H : (if (t154 != t152) = true then (some false) else (if (t155 != t153) = true then (some false) else (some true))) = some r := H
    have A4 := Aside0.mk A40
    clear A40
    by_cases c5 : (t154 != t152) = true
    · rw [if_pos c5] at H
      have c5b0 : (t154 != t152) = true := c5
      (try (have c5b1 : decide (t154 = t152) = false := by simpa using c5))
      (try (have c5b2 : (t154 == t152) = false := by simpa using c5))
      (try (have c5b3 : ¬ (t154 = t152) := by simpa using c5))
      clear c5
      obtain rfl := Option.some.inj H
      go_enter Tryd.func7, Tryd.ntmps7
      go_wp2_with (first | ((with_reducible refine gate_callee (f := 16) rfl ?_); refine goesL_ (some 12) rfl rfl Tryd.func16 (by kernel_rfl) rfl #[.string a0] rfl (by (try simp only [List.map_toArray, List.map_cons, List.map_nil]); first | done | rfl | (simp only [List.length_drop, List.length_take]; rfl)) ?_; (with_reducible refine (spec_CanBeDrawn.calls k a0 t152 t153 _ A3.out).mono ?_); rintro e w' ⟨rfl, ⟨nd, rfl⟩⟩; refine ⟨_, rfl, ?_⟩) | ((with_reducible refine gate_callee (f := 17) rfl ?_); refine goesL_ (some 17) rfl rfl Tryd.func17 (by kernel_rfl) rfl #[.string a0] rfl (by (try simp only [List.map_toArray, List.map_cons, List.map_nil]); first | done | rfl | (simp only [List.length_drop, List.length_take]; rfl)) ?_; (with_reducible refine (impl_CanBeDrawn.calls k a0 t154 t155 _ A4.out).mono ?_); rintro e w6 ⟨rfl, hb⟩; refine ⟨_, rfl, ?_⟩; have n0_ := Aside0.mk (below_step (by repeat (first | (with_reducible first | exact HB.out | apply below_alloc | apply pw_below_drewN | apply below_drew1) | exact HB.out)) hb); clear HB; have HB := n0_; clear n0_; (try clear hb); (try clear hb2); (try clear hk); (try clear hi)))
      go_ret
      exact ⟨by first | rfl | (simp [errW_none, errW_some] <;> rfl) | (simp [*, errW_none, errW_some] <;> rfl), by repeat (first | (with_reducible first | exact HB.out | apply below_alloc | apply pw_below_drewN | apply below_drew1) | exact HB.out)⟩
    · rw [if_neg c5] at H
      have c5b0 : (t154 != t152) = false := by simpa using c5
      (try (have c5b1 : decide (t154 = t152) = true := by simpa using c5))
      (try (have c5b2 : (t154 == t152) = true := by simpa using c5))
      clear c5
      by_cases c7 : (t155 != t153) = true
      · rw [if_pos c7] at H
        have c7b0 : (t155 != t153) = true := c7
        (try (have c7b1 : decide (t155 = t153) = false := by simpa using c7))
        (try (have c7b2 : (t155 == t153) = false := by simpa using c7))
        (try (have c7b3 : ¬ (t155 = t153) := by simpa using c7))
        clear c7
        obtain rfl := Option.some.inj H
        go_enter Tryd.func7, Tryd.ntmps7
        go_wp2_with (first | ((with_reducible refine gate_callee (f := 16) rfl ?_); refine goesL_ (some 12) rfl rfl Tryd.func16 (by kernel_rfl) rfl #[.string a0] rfl (by (try simp only [List.map_toArray, List.map_cons, List.map_nil]); first | done | rfl | (simp only [List.length_drop, List.length_take]; rfl)) ?_; (with_reducible refine (spec_CanBeDrawn.calls k a0 t152 t153 _ A3.out).mono ?_); rintro e w' ⟨rfl, ⟨nd, rfl⟩⟩; refine ⟨_, rfl, ?_⟩) | ((with_reducible refine gate_callee (f := 17) rfl ?_); refine goesL_ (some 17) rfl rfl Tryd.func17 (by kernel_rfl) rfl #[.string a0] rfl (by (try simp only [List.map_toArray, List.map_cons, List.map_nil]); first | done | rfl | (simp only [List.length_drop, List.length_take]; rfl)) ?_; (with_reducible refine (impl_CanBeDrawn.calls k a0 t154 t155 _ A4.out).mono ?_); rintro e w8 ⟨rfl, hb⟩; refine ⟨_, rfl, ?_⟩; have n0_ := Aside0.mk (below_step (by repeat (first | (with_reducible first | exact HB.out | apply below_alloc | apply pw_below_drewN | apply below_drew1) | exact HB.out)) hb); clear HB; have HB := n0_; clear n0_; (try clear hb); (try clear hb2); (try clear hk); (try clear hi)))
        go_ret
        exact ⟨by first | rfl | (simp [errW_none, errW_some] <;> rfl) | (simp [*, errW_none, errW_some] <;> rfl), by repeat (first | (with_reducible first | exact HB.out | apply below_alloc | apply pw_below_drewN | apply below_drew1) | exact HB.out)⟩
      · rw [if_neg c7] at H
        have c7b0 : (t155 != t153) = false := by simpa using c7
        (try (have c7b1 : decide (t155 = t153) = true := by simpa using c7))
        (try (have c7b2 : (t155 == t153) = true := by simpa using c7))
        clear c7
        obtain rfl := Option.some.inj H
        go_enter Tryd.func7, Tryd.ntmps7
        go_wp2_with (first | ((with_reducible refine gate_callee (f := 16) rfl ?_); refine goesL_ (some 12) rfl rfl Tryd.func16 (by kernel_rfl) rfl #[.string a0] rfl (by (try simp only [List.map_toArray, List.map_cons, List.map_nil]); first | done | rfl | (simp only [List.length_drop, List.length_take]; rfl)) ?_; (with_reducible refine (spec_CanBeDrawn.calls k a0 t152 t153 _ A3.out).mono ?_); rintro e w' ⟨rfl, ⟨nd, rfl⟩⟩; refine ⟨_, rfl, ?_⟩) | ((with_reducible refine gate_callee (f := 17) rfl ?_); refine goesL_ (some 17) rfl rfl Tryd.func17 (by kernel_rfl) rfl #[.string a0] rfl (by (try simp only [List.map_toArray, List.map_cons, List.map_nil]); first | done | rfl | (simp only [List.length_drop, List.length_take]; rfl)) ?_; (with_reducible refine (impl_CanBeDrawn.calls k a0 t154 t155 _ A4.out).mono ?_); rintro e w9 ⟨rfl, hb⟩; refine ⟨_, rfl, ?_⟩; have n0_ := Aside0.mk (below_step (by repeat (first | (with_reducible first | exact HB.out | apply below_alloc | apply pw_below_drewN | apply below_drew1) | exact HB.out)) hb); clear HB; have HB := n0_; clear n0_; (try clear hb); (try clear hb2); (try clear hk); (try clear hi)))
        go_ret
        exact ⟨by first | rfl | (simp [errW_none, errW_some] <;> rfl) | (simp [*, errW_none, errW_some] <;> rfl), by repeat (first | (with_reducible first | exact HB.out | apply below_alloc | apply pw_below_drewN | apply below_drew1) | exact HB.out)⟩

/-- THE ONE PURE STATEMENT of laws_FnExactCanBeDrawn: yours. -/
def laws_FnExactCanBeDrawn.Pure : Prop := ∀ (a0 : ByteArray), a0.size ≤ 140737488351232 → ∃ k, laws_FnExactCanBeDrawn.f k a0 = some true
theorem laws_FnExactCanBeDrawn.walk (P : laws_FnExactCanBeDrawn.Pure) (a0 : ByteArray) (w : World) (w0 : a0.size ≤ 140737488351232) :
    Calls Tryd.prog 7 #[.string a0] w fun e w' => e = .returned (.bool true) ∧ Below w.heap.size w w' := by
  obtain ⟨k, h⟩ := P a0 w0
  refine (laws_FnExactCanBeDrawn.calls k a0 true w h).mono ?_
  rintro e w' ⟨rfl, hd⟩
  exact ⟨rfl, hd⟩

end Go.Proofs.YtkfllbbpclgffaaDoor.Pr

/- Texts as lists of bytes. -/
namespace Go.Proofs.YtkfllbbpclgffaaDoor.M
open Go.RowKit Go.Proofs.YtkfllbbpclgffaaDoorW.PrintWords
set_option linter.unusedVariables false
set_option linter.unusedSimpArgs false

/-- A loop over a list inside another one: what is left of the list decides the state in which the rest goes on. -/
theorem Ev.cpsB {α β γ : Type} (L : Nat → Int → β → Option γ) (K : Nat → β → Option γ) (xs : List α) (F : List α → β → β) (P : Nat → β → Prop)
    (h0 : ∀ acc r, P xs.length acc → Ev (fun k => K k (F [] acc)) r → Ev (fun k => L k (xs.length : Int) acc) r)
    (h1 : ∀ (i : Nat) (h : i < xs.length) (acc : β), P i acc → ∃ acc', P (i + 1) acc' ∧ F (xs[i] :: xs.drop (i + 1)) acc = F (xs.drop (i + 1)) acc' ∧ ∀ r, Ev (fun k => L k ((i : Int) + 1) acc') r → Ev (fun k => L k (i : Int) acc) r) :
    ∀ (d i : Nat) (acc : β) (r : γ), i + d = xs.length → P i acc → Ev (fun k => K k (F (xs.drop i) acc)) r → Ev (fun k => L k (i : Int) acc) r := by
  intro d
  induction d with
  | zero =>
    intro i acc r hi hp hr
    obtain rfl : i = xs.length := by omega
    rw [List.drop_length] at hr
    exact h0 acc r hp hr
  | succ d ih =>
    intro i acc r hi hp hr
    have hlt : i < xs.length := by omega
    rw [List.drop_eq_getElem_cons hlt] at hr
    obtain ⟨acc', hp', hF, hk⟩ := h1 i hlt acc hp
    rw [hF] at hr
    refine hk r ?_
    have e := ih (i + 1) acc' r (by omega) hp' hr
    rw [show (((i + 1 : Nat)) : Int) = (i : Int) + 1 from by omega] at e
    exact e

theorem bytesOf_get (s : ByteArray) (i : Nat) (h : i < (bytesOf s).length) : bt s (i : Int) = (bytesOf s)[i] := by
  rw [← rd_bytesOf]
  unfold rd
  simp [List.getD_eq_getElem?_getD, List.getElem?_eq_getElem h]
theorem bytesOf_byte (s : ByteArray) : ∀ x ∈ bytesOf s, 0 ≤ x ∧ x < 256 := by
  intro x hx
  obtain ⟨b, _, rfl⟩ := List.mem_map.1 hx
  have := b.toNat_lt
  omega
theorem bytesOf_append (s t : ByteArray) : bytesOf (s ++ t) = bytesOf s ++ bytesOf t := by
  unfold bytesOf
  rw [ByteArray.data_append]
  simp
theorem bytesOf_extract (s : ByteArray) (a b : Nat) : bytesOf (s.extract a b) = ((bytesOf s).take b).drop a := by
  unfold bytesOf
  rw [ByteArray.data_extract, Array.toList_extract, List.extract_eq_take_drop, List.map_take, List.map_drop, List.drop_take]
theorem bytesOf_nil : bytesOf ⟨#[]⟩ = [] := rfl
theorem bytesOf_inj {s t : ByteArray} (h : bytesOf s = bytesOf t) : s = t := by
  have e : s.data.toList = t.data.toList := by
    refine (List.map_inj_right ?_).1 h
    intro a b hab
    exact UInt8.toNat_inj.1 (by omega)
  exact ByteArray.ext (Array.toList_inj.1 e)
theorem bytesOf_strOf (xs : List Int) (h : ∀ x ∈ xs, 0 ≤ x ∧ x < 256) : bytesOf (strOfNums xs) = xs := by
  unfold bytesOf strOfNums
  simp only [List.map_map]
  conv => rhs; rw [← List.map_id xs]
  refine List.map_congr_left fun x hx => ?_
  have := h x hx
  simp
  omega
theorem strOf_bytesOf (s : ByteArray) : strOfNums (bytesOf s) = s := bytesOf_inj (bytesOf_strOf _ (bytesOf_byte s))
theorem toList_inj {s t : ByteArray} : s.toList = t.toList ↔ s = t := by
  constructor
  · intro e
    rw [ByteArray.toList_eq, ByteArray.toList_eq] at e
    exact ByteArray.ext (Array.toList_inj.1 e)
  · rintro rfl; rfl
theorem toList_beq (s t : ByteArray) : (s.toList == t.toList) = (bytesOf s == bytesOf t) := by
  rw [Bool.eq_iff_iff, beq_iff_eq, beq_iff_eq, toList_inj]
  exact ⟨fun e => by rw [e], bytesOf_inj⟩
/-- One byte of a text, as a text. -/
theorem bytesOf_one (s : ByteArray) (i : Nat) (h : i < (bytesOf s).length) : bytesOf (s.extract i (i + 1)) = [(bytesOf s)[i]] := by
  rw [bytesOf_extract, List.take_succ_eq_append_getElem h, List.drop_append_of_le_length (by simp; omega), List.drop_of_length_le (by simp; omega)]
  rfl

/-- The place of a byte, or -1. -/
def ixL (l : List Int) (x : Int) : Int := if x ∈ l then (l.idxOf x : Int) else -1
theorem index_eq : ∀ (l : List UInt8) (x : Int), 0 ≤ x → x < 256 → Lib.indexByte l x.toNat.toUInt8 = ixL (l.map fun b => (b.toNat : Int)) x
  | [], x, _, _ => rfl
  | b :: l, x, h0, h1 => by
    have ih := index_eq l x h0 h1
    have hb := b.toNat_lt
    have e1 : (b == x.toNat.toUInt8) = ((b.toNat : Int) == x) := by
      rw [Bool.eq_iff_iff, beq_iff_eq, beq_iff_eq]
      constructor
      · rintro rfl
        simp
        omega
      · intro e
        subst e
        simp
    unfold Lib.indexByte ixL
    rw [ih, e1]
    unfold ixL
    rw [List.map_cons, List.idxOf_cons]
    by_cases e : (b.toNat : Int) = x
    · rw [if_pos (by simpa using e), if_pos (by simp [e])]
      simp [e]
    · have e2 : ((b.toNat : Int) == x) = false := by simpa using e
      rw [e2]
      simp only [Bool.false_eq_true, if_false, cond_false]
      by_cases hm : x ∈ l.map fun b => (b.toNat : Int)
      · rw [if_pos hm, if_pos (List.mem_cons_of_mem _ hm), if_neg (by simp)]
        omega
      · rw [if_neg hm, if_neg (c := x ∈ _ :: _) (by simp only [List.mem_cons, not_or]; exact ⟨fun h => e h.symm, hm⟩)]
        rfl
theorem indexB_eq (s : ByteArray) (x : Int) (h0 : 0 ≤ x) (h1 : x < 256) : Lib.indexByte s.data.toList x.toNat.toUInt8 = ixL (bytesOf s) x := index_eq _ x h0 h1
theorem count_eq (s : ByteArray) (x : Int) (h0 : 0 ≤ x) (h1 : x < 256) : s.data.toList.count x.toNat.toUInt8 = (bytesOf s).count x := by
  unfold bytesOf
  generalize s.data.toList = l
  induction l with
  | nil => rfl
  | cons b l ih =>
    have hb := b.toNat_lt
    rw [List.map_cons, List.count_cons, List.count_cons, ih]
    congr 1
    have e1 : (b == x.toNat.toUInt8) = ((b.toNat : Int) == x) := by
      rw [Bool.eq_iff_iff, beq_iff_eq, beq_iff_eq]
      constructor
      · rintro rfl
        simp
        omega
      · intro e
        subst e
        simp
    rw [e1]
end Go.Proofs.YtkfllbbpclgffaaDoor.M

/- Letters named anew: the program's way and the reference's. -/
namespace Go.Proofs.YtkfllbbpclgffaaDoor.M
open Go.RowKit Go.Proofs.YtkfllbbpclgffaaDoorW.PrintWords Go.Proofs.YtkfllbbpclgffaaDoor.Pr
set_option linter.unusedVariables false
set_option linter.unusedSimpArgs false

theorem anew_byte : ∀ (w ns : List Int), ns.length + w.length ≤ 100 → ∀ x ∈ anew ns w, 0 ≤ x ∧ x < 256
  | [], _, _, x, hx => by simp [anew] at hx
  | y :: r, ns, h, x, hx => by
    unfold anew at hx
    simp only [List.length_cons] at h
    rcases List.mem_cons.1 hx with e | hx
    · have := List.idxOf_le_length (a := y) (l := ns)
      omega
    · refine anew_byte r _ ?_ x hx
      split
      · omega
      · simp; omega
/-- A text with its letters named anew. -/
def anewS (w : ByteArray) : ByteArray := strOfNums (anew [] (bytesOf w))
theorem bytesOf_anew (w : ByteArray) (h : w.size ≤ 100) : bytesOf (anewS w) = anew [] (bytesOf w) :=
  bytesOf_strOf _ (anew_byte _ _ (by rw [bytesOf_length]; simp; omega))

theorem named_ev (w : ByteArray) (hw : w.size ≤ 100) : Ev (fun k => impl_named.f k w) (anewS w) := by
  unfold impl_named.f
  have hlen := bytesOf_length w
  have e := Ev.scan0 (fun k i (acc : ByteArray × List Int) => impl_named.l0 k w acc.1 acc.2 (w.size : Int) i) (bytesOf w) (fun rest acc => strOfNums (acc.2 ++ anew (bytesOf acc.1) rest)) (fun i acc => acc.2.length = i ∧ acc.1.size ≤ i)
    (fun acc hp => by
      refine Ev.step (fun k => by rw [impl_named.l0]) ?_
      refine Ev.neg (by omega) (Ev.val ?_)
      simp [anew])
    (fun i hi acc hp => by
      obtain ⟨p1, p2⟩ := hp
      have hi2 : i < w.size := by omega
      have hx := bytesOf_get w i hi
      have hr := bytesOf_byte w _ (List.getElem_mem hi)
      have hone := bytesOf_one w i hi
      have hs1 : (w.extract i (i + 1)).size = 1 := by rw [← bytesOf_length, hone]; rfl
      have hal := bytesOf_length acc.1
      generalize (bytesOf w)[i] = x at hx hr hone
      have hix := indexB_eq acc.1 x hr.1 hr.2
      by_cases hm : x ∈ bytesOf acc.1
      · have hlt : (bytesOf acc.1).idxOf x < (bytesOf acc.1).length := List.idxOf_lt_length_iff.2 hm
        rw [ixL, if_pos hm] at hix
        refine .inl ⟨(acc.1, acc.2 ++ [97 + ((bytesOf acc.1).idxOf x : Int)]), ⟨by simp; omega, by dsimp only; omega⟩, ?_, fun r hr2 => ?_⟩
        · rw [anew, if_pos hm]
          simp
        · refine Ev.step (fun k => by rw [impl_named.l0]) ?_
          refine Ev.pos (by omega) (Ev.pos (by omega) (Ev.pos (by omega) ?_))
          rw [hx]
          refine Ev.bindc (a := ((bytesOf acc.1).idxOf x : Int)) (by unfold strings_IndexByte.f; rw [hix]) (Ev.neg (by omega) (Ev.pos (by omega) ?_))
          rw [w64 (x := (i : Int) + 1) (by omega) (by omega)]
          have e : (97 + ((bytesOf acc.1).idxOf x : Int)) % 256 = 97 + ((bytesOf acc.1).idxOf x : Int) := by omega
          simp only [e]
          exact hr2
      · rw [ixL, if_neg hm] at hix
        have hsz : (acc.1 ++ w.extract i (i + 1)).size = acc.1.size + 1 := by rw [ByteArray.size_append, hs1]
        refine .inl ⟨(acc.1 ++ w.extract i (i + 1), acc.2 ++ [97 + ((bytesOf acc.1).idxOf x : Int)]), ⟨by simp; omega, by dsimp only; omega⟩, ?_, fun r hr2 => ?_⟩
        · rw [anew, if_neg hm]
          dsimp only
          rw [bytesOf_append, hone]
          simp
        · refine Ev.step (fun k => by rw [impl_named.l0]) ?_
          refine Ev.pos (by omega) (Ev.pos (by omega) (Ev.pos (by omega) ?_))
          rw [hx]
          refine Ev.bindc (a := (-1 : Int)) (by unfold strings_IndexByte.f; rw [hix]) (Ev.pos (by omega) ?_)
          rw [w64 (x := (i : Int) + 1) (by omega) (by omega)]
          rw [show ((i : Int) + 1).toNat = i + 1 by omega, Int.toNat_natCast]
          refine Ev.pos (by omega) (Ev.pos (by omega) (Ev.pos (by omega) (Ev.pos (by omega) ?_)))
          have hid : (bytesOf acc.1).idxOf x = acc.1.size := by rw [idx_none _ _ hm, hal]
          have e : (97 + (acc.1.size : Int)) % 256 = 97 + ((bytesOf acc.1).idxOf x : Int) := by omega
          simp only [e]
          exact hr2)
    ((⟨#[]⟩ : ByteArray), []) ⟨rfl, by simp [ByteArray.size]⟩
  exact e

abbrev abc16 : ByteArray := ⟨#[97, 98, 99, 100, 101, 102, 103, 104, 105, 106, 107, 108, 109, 110, 111, 112]⟩
theorem abc_one (a : Nat) (h : a < 16) : bytesOf (abc16.extract a (a + 1)) = [97 + (a : Int)] := by
  have hd : ∀ n : Fin 16, bytesOf (abc16.extract n.val (n.val + 1)) = [97 + (n.val : Int)] := by decide +kernel
  exact hd ⟨a, h⟩
theorem abc_size (a : Nat) (h : a < 16) : (abc16.extract a (a + 1)).size = 1 := by
  rw [← bytesOf_length, abc_one a h]; rfl

/-- The inner loop: the place of a letter among those that have come. -/
theorem anew_l1 (w names out : ByteArray) (i : Int) (x : Int) (hi0 : 0 ≤ i) (hi : i < (w.size : Int)) (hx : bt w i = x) (hn : names.size ≤ 1000) (hnd : (bytesOf names).Nodup) (r : ByteArray)
    (hr : Ev (fun k => spec_loAnew.l1 k w names out i (ixL (bytesOf names) x) (names.size : Int)) r) : Ev (fun k => spec_loAnew.l1 k w names out i (-1) 0) r := by
  have hlen := bytesOf_length names
  have e := Ev.cpsB (fun k j (at_ : Int) => spec_loAnew.l1 k w names out i at_ j) (fun k at_ => spec_loAnew.l1 k w names out i at_ ((bytesOf names).length : Int)) (bytesOf names)
    (fun rest at_ => if x ∈ rest then (((bytesOf names).length - rest.length : Nat) : Int) + (rest.idxOf x : Int) else at_) (fun _ _ => True)
    (fun at_ r _ hr => by simpa using hr)
    (fun j hj at_ _ => by
      have hgj := bytesOf_get names j hj
      have hsplit : bytesOf names = (bytesOf names).take j ++ (bytesOf names)[j] :: (bytesOf names).drop (j + 1) := by
        rw [← List.drop_eq_getElem_cons hj, List.take_append_drop]
      have hdl : ((bytesOf names).drop (j + 1)).length = (bytesOf names).length - (j + 1) := List.length_drop
      generalize hR : (bytesOf names).drop (j + 1) = rest at hsplit hdl ⊢
      generalize hy : (bytesOf names)[j] = y at hsplit hgj ⊢
      by_cases e : y = x
      · subst e
        have hnot : y ∉ rest := by
          rw [hsplit] at hnd
          have := (List.nodup_append.1 hnd).2.1
          exact (List.nodup_cons.1 this).1
        refine ⟨(j : Int), trivial, ?_, fun r hr2 => ?_⟩
        · rw [if_pos (List.mem_cons_self ..), if_neg hnot, List.idxOf_cons_self, List.length_cons, hdl]
          omega
        · refine Ev.step (fun k => by rw [spec_loAnew.l1]) ?_
          refine Ev.pos (by omega) (Ev.pos (by omega) (Ev.pos hi0 (Ev.pos hi ?_)))
          rw [w64 (x := (j : Int) + 1) (by omega) (by omega)]
          exact Ev.pos (by rw [hgj, hx]) hr2
      · refine ⟨at_, trivial, ?_, fun r hr2 => ?_⟩
        · by_cases hm : x ∈ rest
          · rw [if_pos hm, if_pos (List.mem_cons_of_mem _ hm), List.idxOf_cons, show (y == x) = false by simpa using e, cond_false, List.length_cons, hdl]
            omega
          · rw [if_neg hm, if_neg (by simp only [List.mem_cons, not_or]; exact ⟨fun h => e h.symm, hm⟩)]
        · refine Ev.step (fun k => by rw [spec_loAnew.l1]) ?_
          refine Ev.pos (by omega) (Ev.pos (by omega) (Ev.pos hi0 (Ev.pos hi ?_)))
          rw [w64 (x := (j : Int) + 1) (by omega) (by omega)]
          exact Ev.neg (by rw [hgj, hx]; exact e) hr2)
    (bytesOf names).length 0 (-1) r (by omega) trivial (by
      rw [List.drop_zero, Nat.sub_self]
      unfold ixL at hr
      rw [hlen]
      simpa using hr)
  simpa using e
theorem loAnew_ev (w : ByteArray) (hw : w.size ≤ 16) : Ev (fun k => spec_loAnew.f k w) (anewS w) := by
  unfold spec_loAnew.f
  have hlen := bytesOf_length w
  have e := Ev.scan0 (fun k i (acc : ByteArray × ByteArray) => spec_loAnew.l0 k w acc.1 acc.2 i) (bytesOf w) (fun rest acc => strOfNums (bytesOf acc.2 ++ anew (bytesOf acc.1) rest)) (fun i acc => acc.2.size = i ∧ acc.1.size ≤ i ∧ (bytesOf acc.1).Nodup)
    (fun acc hp => by
      refine Ev.step (fun k => by rw [spec_loAnew.l0]) ?_
      refine Ev.neg (by omega) (Ev.val ?_)
      rw [anew, List.append_nil, strOf_bytesOf])
    (fun i hi acc hp => by
      obtain ⟨p1, p2, p3⟩ := hp
      have hi2 : i < w.size := by omega
      have hx := bytesOf_get w i hi
      have hone := bytesOf_one w i hi
      have hs1 : (w.extract i (i + 1)).size = 1 := by rw [← bytesOf_length, hone]; rfl
      have hal := bytesOf_length acc.1
      generalize (bytesOf w)[i] = x at hx hone
      have hstep : ∀ r, Ev (fun k => spec_loAnew.l1 k w acc.1 acc.2 i (ixL (bytesOf acc.1) x) (acc.1.size : Int)) r → Ev (fun k => spec_loAnew.l0 k w acc.1 acc.2 i) r := fun r hr => by
        refine Ev.step (fun k => by rw [spec_loAnew.l0]) ?_
        exact Ev.pos (by omega) (anew_l1 w acc.1 acc.2 i x (by omega) (by omega) hx (by omega) p3 r hr)
      by_cases hm : x ∈ bytesOf acc.1
      · have hlt : (bytesOf acc.1).idxOf x < (bytesOf acc.1).length := List.idxOf_lt_length_iff.2 hm
        rw [ixL, if_pos hm] at hstep
        generalize ha : (bytesOf acc.1).idxOf x = a at hlt hstep
        have h16 : a < 16 := by omega
        have hsz : (acc.2 ++ abc16.extract a (a + 1)).size = acc.2.size + 1 := by rw [ByteArray.size_append, abc_size a h16]
        refine .inl ⟨(acc.1, acc.2 ++ abc16.extract a (a + 1)), ⟨by dsimp only; omega, by dsimp only; omega, p3⟩, ?_, fun r hr2 => hstep r ?_⟩
        · rw [anew, if_pos hm, ha]
          dsimp only
          rw [bytesOf_append, abc_one a h16]
          simp
        · refine Ev.step (fun k => by rw [spec_loAnew.l1]) ?_
          refine Ev.neg (by omega) (Ev.neg (by omega) (Ev.pos (by omega) ?_))
          rw [w64 (x := (a : Int) + 1) (by omega) (by omega), w64 (x := (i : Int) + 1) (by omega) (by omega), show ((a : Int) + 1).toNat = a + 1 by omega, Int.toNat_natCast]
          refine Ev.pos (by omega) (Ev.pos (by omega) (Ev.pos ?_ hr2))
          have h := abc_size a h16
          unfold abc16 at h
          omega
      · rw [ixL, if_neg hm] at hstep
        have h16 : acc.1.size < 16 := by omega
        have hsz : (acc.1 ++ w.extract i (i + 1)).size = acc.1.size + 1 := by rw [ByteArray.size_append, hs1]
        have hsz2 : (acc.2 ++ abc16.extract acc.1.size (acc.1.size + 1)).size = acc.2.size + 1 := by rw [ByteArray.size_append, abc_size _ h16]
        refine .inl ⟨(acc.1 ++ w.extract i (i + 1), acc.2 ++ abc16.extract acc.1.size (acc.1.size + 1)), ⟨by dsimp only; omega, by dsimp only; omega, ?_⟩, ?_, fun r hr2 => hstep r ?_⟩
        · dsimp only
          rw [bytesOf_append, hone]
          refine List.nodup_append.2 ⟨p3, by simp, fun a ha b hb => ?_⟩
          obtain rfl : b = x := by simpa using hb
          exact fun e => hm (e ▸ ha)
        · rw [anew, if_neg hm, idx_none _ _ hm, hal]
          dsimp only
          rw [bytesOf_append, bytesOf_append, hone, abc_one _ h16]
          simp
        · refine Ev.step (fun k => by rw [spec_loAnew.l1]) ?_
          refine Ev.neg (by omega) (Ev.pos (by omega) (Ev.pos (by omega) ?_))
          rw [w64 (x := (acc.1.size : Int) + 1) (by omega) (by omega), w64 (x := (i : Int) + 1) (by omega) (by omega), show ((acc.1.size : Int) + 1).toNat = acc.1.size + 1 by omega, show ((i : Int) + 1).toNat = i + 1 by omega, Int.toNat_natCast, Int.toNat_natCast]
          refine Ev.pos (by omega) (Ev.pos (by omega) (Ev.pos (by omega) (Ev.pos (by omega) (Ev.pos (by omega) (Ev.pos (by omega) (Ev.pos ?_ hr2))))))
          have h := abc_size _ h16
          unfold abc16 at h
          omega)
    ((⟨#[]⟩ : ByteArray), (⟨#[]⟩ : ByteArray)) ⟨rfl, by simp [ByteArray.size], by simp [bytesOf]⟩
  exact e
end Go.Proofs.YtkfllbbpclgffaaDoor.M

/- What a loop is: the program and the reference tell the same. -/
namespace Go.Proofs.YtkfllbbpclgffaaDoor.M
open Go.RowKit Go.Proofs.YtkfllbbpclgffaaDoorW.PrintWords Go.Proofs.YtkfllbbpclgffaaDoor.Pr
set_option linter.unusedVariables false
set_option linter.unusedSimpArgs false

/-- A text that is a loop. -/
def goodS (w : ByteArray) : Bool := goodL (bytesOf w)
theorem anew_beq (w : ByteArray) (h : w.size ≤ 16) : ((anewS w).toList == w.toList) = (anew [] (bytesOf w) == bytesOf w) := by
  rw [toList_beq, bytesOf_anew w (by omega)]
theorem dropWhile_nil {α : Type} (p : α → Bool) : ∀ l : List α, l.dropWhile p = [] ↔ ∀ x ∈ l, p x = true
  | [] => by simp
  | x :: r => by
    rw [List.dropWhile_cons]
    cases h : p x with
    | true => simp [dropWhile_nil p r, h]
    | false => simp [h]
theorem trim_nil (l cs : List UInt8) : Lib.trimS l cs = [] ↔ ∀ x ∈ l, cs.contains x = true := by
  unfold Lib.trimS Lib.trimLeftS Lib.trimRightS
  rw [dropWhile_nil]
  constructor
  · intro h
    have h2 : (l.reverse.dropWhile (cs.contains ·)) = [] ∨ (l.reverse.dropWhile (cs.contains ·)) ≠ [] := Classical.em _
    rcases h2 with h2 | h2
    · rw [dropWhile_nil] at h2
      intro x hx
      exact h2 x (List.mem_reverse.2 hx)
    · exfalso
      have h3 : cs.contains ((l.reverse.dropWhile (cs.contains ·)).head h2) = false := List.head_dropWhile_not (cs.contains ·) h2
      rw [h _ (List.mem_reverse.2 (List.head_mem h2))] at h3
      cases h3
  · intro h x hx
    rw [List.mem_reverse] at hx
    exact h x (List.mem_reverse.1 ((List.dropWhile_sublist _).mem hx))
theorem isLoop_ev (w : ByteArray) : Ev (fun k => impl_IsLoop.f k w) (goodS w) := by
  unfold impl_IsLoop.f
  by_cases h16 : w.size ≤ 16
  · refine Ev.pos h16 ?_
    have hcon : ∀ b : UInt8, ([97, 98, 99, 100, 101, 102, 103, 104] : List UInt8).contains b = true ↔ 97 ≤ (b.toNat : Int) ∧ (b.toNat : Int) ≤ 104 := by
      intro b
      simp only [List.contains_iff_mem, List.mem_cons, List.not_mem_nil, or_false]
      constructor
      · rintro (rfl | rfl | rfl | rfl | rfl | rfl | rfl | rfl) <;> decide
      · intro h
        have e : b = UInt8.ofNat b.toNat := by simp
        obtain h | h | h | h | h | h | h | h : b.toNat = 97 ∨ b.toNat = 98 ∨ b.toNat = 99 ∨ b.toNat = 100 ∨ b.toNat = 101 ∨ b.toNat = 102 ∨ b.toNat = 103 ∨ b.toNat = 104 := by omega
        all_goals (rw [h] at e; subst e; simp)
    have htr : Lib.trimS w.data.toList [97, 98, 99, 100, 101, 102, 103, 104] = [] ↔ ∀ x ∈ bytesOf w, 97 ≤ x ∧ x ≤ 104 := by
      rw [trim_nil]
      unfold bytesOf
      constructor
      · intro h x hx
        obtain ⟨b, hb, rfl⟩ := List.mem_map.1 hx
        exact (hcon b).1 (h b hb)
      · intro h b hb
        exact (hcon b).2 (h _ (List.mem_map.2 ⟨b, hb, rfl⟩))
    have hmiss : (!((bytesOf w).any (missB w))) = (bytesOf w).all (fun x => (bytesOf w).count x == 2) := by
      rw [List.not_any_eq_all_not]
      have key : ∀ x ∈ bytesOf w, (!(missB w x)) = ((bytesOf w).count x == 2) := fun x hx => by
        have := bytesOf_byte w x hx
        unfold missB
        rw [count_eq w x this.1 this.2, Bool.eq_iff_iff]
        simp
        omega
      rw [Bool.eq_iff_iff, List.all_eq_true, List.all_eq_true]
      exact ⟨fun h x hx => (key x hx) ▸ h x hx, fun h x hx => (key x hx).symm ▸ h x hx⟩
    by_cases ht : Lib.trimS w.data.toList [97, 98, 99, 100, 101, 102, 103, 104] = []
    · have hz := htr.1 ht
      refine Ev.pos ⟨ht, fun x hx => by have := hz x hx; omega⟩ (Ev.bindk (named_ev w (by omega)) ?_)
      have hb := bytesOf_length w
      by_cases e : anewS w = w
      · refine Ev.pos e (Ev.val ?_)
        have e2 : anew [] (bytesOf w) = bytesOf w := by rw [← bytesOf_anew w (by omega), e]
        rw [hmiss]
        unfold goodS goodL
        rw [e2]
        simp [hb, h16]
      · refine Ev.neg e (Ev.val ?_)
        have e2 : anew [] (bytesOf w) ≠ bytesOf w := fun h => e (bytesOf_inj (by rw [bytesOf_anew w (by omega), h]))
        unfold goodS goodL
        rw [show (anew [] (bytesOf w) == bytesOf w) = false by simpa using e2]
        simp
    · refine Ev.neg (fun h => ht h.1) (Ev.neg ht (Ev.val ?_))
      have hg : goodS w = false := by
        cases hg : goodS w with
        | false => rfl
        | true => exact absurd (htr.2 (good_letters hg)) ht
      exact hg.symm
  · refine Ev.neg h16 (Ev.val ?_)
    unfold goodS goodL
    rw [decide_eq_false (by rw [bytesOf_length]; exact h16)]
    rfl

theorem good_l1 (w : ByteArray) (i : Int) (x : Int) (hi0 : 0 ≤ i) (hi : i < (w.size : Int)) (hx : bt w i = x) (hw : w.size ≤ 1000) (r : Bool)
    (hr : Ev (fun k => spec_loGood.l1 k w i (((bytesOf w).count x : Nat) : Int) (w.size : Int)) r) : Ev (fun k => spec_loGood.l1 k w i 0 0) r := by
  have hlen := bytesOf_length w
  have hcl : (bytesOf w).count x ≤ (bytesOf w).length := List.count_le_length
  have e := Ev.cpsB (fun k j (t : Int) => spec_loGood.l1 k w i t j) (fun k t => spec_loGood.l1 k w i t ((bytesOf w).length : Int)) (bytesOf w)
    (fun rest t => t + ((rest.count x : Nat) : Int)) (fun j t => 0 ≤ t ∧ t ≤ j)
    (fun t r _ hr => by simpa using hr)
    (fun j hj t hp => by
      have hgj := bytesOf_get w j hj
      generalize (bytesOf w)[j] = y at hgj ⊢
      by_cases e : y = x
      · refine ⟨t + 1, by omega, ?_, fun r hr2 => ?_⟩
        · subst e
          rw [List.count_cons_self]
          omega
        · refine Ev.step (fun k => by rw [spec_loGood.l1]) ?_
          refine Ev.pos (by omega) (Ev.pos (by omega) (Ev.pos hi0 (Ev.pos hi ?_)))
          rw [w64 (x := (j : Int) + 1) (by omega) (by omega), w64 (x := t + 1) (by omega) (by omega)]
          exact Ev.pos (by rw [hgj, hx]; exact e) hr2
      · refine ⟨t, by omega, ?_, fun r hr2 => ?_⟩
        · rw [List.count_cons, if_neg (by simpa using e)]
          omega
        · refine Ev.step (fun k => by rw [spec_loGood.l1]) ?_
          refine Ev.pos (by omega) (Ev.pos (by omega) (Ev.pos hi0 (Ev.pos hi ?_)))
          rw [w64 (x := (j : Int) + 1) (by omega) (by omega)]
          exact Ev.neg (by rw [hgj, hx]; exact e) hr2)
    (bytesOf w).length 0 0 r (by omega) (by omega) (by
      rw [List.drop_zero, hlen]
      simpa using hr)
  simpa using e
theorem loGood_l0 (w : ByteArray) (h16 : w.size ≤ 16) : Ev (fun k => spec_loGood.l0 k w 0) ((bytesOf w).all (fun x => (bytesOf w).count x == 2) && (anew [] (bytesOf w) == bytesOf w)) := by
  have hlen := bytesOf_length w
  exact Ev.scan0 (fun k i (_ : Unit) => spec_loGood.l0 k w i) (bytesOf w) (fun rest _ => rest.all (fun x => (bytesOf w).count x == 2) && (anew [] (bytesOf w) == bytesOf w)) (fun _ _ => True)
    (fun _ _ => by
      refine Ev.step (fun k => by rw [spec_loGood.l0]) ?_
      refine Ev.neg (by omega) (Ev.bindk (loAnew_ev w h16) (Ev.val ?_))
      rw [anew_beq w h16]
      rfl)
    (fun i hi _ _ => by
      have hx := bytesOf_get w i hi
      generalize (bytesOf w)[i] = x at hx ⊢
      have hstep : ∀ r, Ev (fun k => spec_loGood.l1 k w i (((bytesOf w).count x : Nat) : Int) (w.size : Int)) r → Ev (fun k => spec_loGood.l0 k w i) r := fun r hr => by
        refine Ev.step (fun k => by rw [spec_loGood.l0]) ?_
        exact Ev.pos (by omega) (good_l1 w i x (by omega) (by omega) hx (by omega) r hr)
      rw [List.all_cons]
      by_cases hc : (bytesOf w).count x = 2
      · refine .inl ⟨(), trivial, by rw [hc]; rfl, fun r hr => hstep r ?_⟩
        refine Ev.step (fun k => by rw [spec_loGood.l1]) ?_
        refine Ev.neg (by omega) (Ev.pos (by omega) ?_)
        rw [w64 (x := (i : Int) + 1) (by omega) (by omega)]
        exact hr
      · refine .inr (hstep _ ?_)
        refine Ev.step (fun k => by rw [spec_loGood.l1]) ?_
        refine Ev.neg (by omega) (Ev.neg (by omega) (Ev.val ?_))
        rw [show ((bytesOf w).count x == 2) = false by simpa using hc]
        rfl)
    () trivial
theorem loGood_ev (w : ByteArray) : Ev (fun k => spec_loGood.f k w) (goodS w) := by
  unfold spec_loGood.f
  have hlen := bytesOf_length w
  by_cases h16 : w.size ≤ 16
  · refine Ev.neg (by omega) ?_
    refine Ev.step (fun k => by rw [spec_loGood.j0]) ?_
    by_cases he : w.size % 2 = 0
    · refine Ev.neg (by simp; omega) ?_
      have e := loGood_l0 w h16
      have e2 : goodS w = ((bytesOf w).all (fun x => (bytesOf w).count x == 2) && (anew [] (bytesOf w) == bytesOf w)) := by
        unfold goodS goodL
        rw [decide_eq_true (by omega), Bool.true_and, Bool.and_comm]
      rw [e2]
      exact e
    · refine Ev.pos (by simp; omega) (Ev.val ?_)
      cases hg : goodS w with
      | false => rfl
      | true => have := good_even hg; omega
  · refine Ev.pos (by omega) ?_
    refine Ev.step (fun k => by rw [spec_loGood.j0]) ?_
    refine Ev.pos rfl (Ev.val ?_)
    unfold goodS goodL
    rw [decide_eq_false (by rw [bytesOf_length]; exact h16)]
    rfl
theorem good_size {w : ByteArray} (h : goodS w = true) : w.size ≤ 16 := by
  have := bytesOf_length w
  unfold goodS goodL at h
  simp only [Bool.and_eq_true, decide_eq_true_eq] at h
  omega
end Go.Proofs.YtkfllbbpclgffaaDoor.M

/- The two places of a letter in a text: the program's way and the reference's. -/
namespace Go.Proofs.YtkfllbbpclgffaaDoor.M
open Go.RowKit Go.Proofs.YtkfllbbpclgffaaDoorW.PrintWords Go.Proofs.YtkfllbbpclgffaaDoor.Pr
set_option linter.unusedVariables false
set_option linter.unusedSimpArgs false

/-- The first and the last place of a letter, from place i on. -/
def plcL (x : Int) : List Int → Int → Int × Int → Int × Int
  | [], _, a => a
  | y :: r, i, a => plcL x r (i + 1) (if y = x then (if a.1 < 0 then i else a.1, i) else a)
theorem plc_skip (x : Int) : ∀ (l s : List Int) (i : Int) (a : Int × Int), x ∉ l → plcL x (l ++ s) i a = plcL x s (i + l.length) a
  | [], s, i, a, _ => by simp
  | y :: l, s, i, a, h => by
    simp only [List.mem_cons, not_or] at h
    rw [List.cons_append, plcL, if_neg (fun e => h.1 e.symm), plc_skip x l s (i + 1) a h.2, List.length_cons]
    congr 1
    omega
theorem plc_parts {x : Int} {p q r : List Int} (h1 : x ∉ p) (h2 : x ∉ q) (h3 : x ∉ r) : plcL x (p ++ x :: (q ++ x :: r)) 0 (-1, -1) = ((p.length : Int), (p.length : Int) + 1 + (q.length : Int)) := by
  have e := plc_skip x r [] ((p.length : Int) + 1 + (q.length : Int) + 1) ((p.length : Int), (p.length : Int) + 1 + (q.length : Int)) h3
  rw [List.append_nil] at e
  rw [plc_skip x p _ 0 _ h1, show (0 : Int) + (p.length : Int) = p.length by omega, plcL, if_pos rfl, if_pos (show ((-1, -1) : Int × Int).1 < 0 by decide), plc_skip x q _ _ _ h2, plcL, if_pos rfl, if_neg (show ¬ (((p.length : Int), (p.length : Int)) : Int × Int).1 < 0 by dsimp only; omega), e]
  rfl
theorem loPlaces_ev (w : ByteArray) (c : Int) (hw : w.size ≤ 1000000) : Ev (fun k => spec_loPlaces.f k w c) (plcL c (bytesOf w) 0 (-1, -1)) := by
  unfold spec_loPlaces.f
  have hlen := bytesOf_length w
  have e := Ev.scan0 (fun k i (acc : Int × Int) => spec_loPlaces.l0 k w c acc.1 acc.2 i) (bytesOf w) (fun rest acc => plcL c rest (((bytesOf w).length : Int) - (rest.length : Int)) acc) (fun _ _ => True)
    (fun acc _ => by
      refine Ev.step (fun k => by rw [spec_loPlaces.l0]) ?_
      exact Ev.neg (by omega) (Ev.val rfl))
    (fun i hi acc _ => by
      have hx := bytesOf_get w i hi
      have hdl : ((bytesOf w).drop (i + 1)).length = (bytesOf w).length - (i + 1) := List.length_drop
      generalize (bytesOf w)[i] = y at hx ⊢
      refine .inl ⟨if y = c then (if acc.1 < 0 then (i : Int) else acc.1, (i : Int)) else acc, trivial, ?_, fun r hr => ?_⟩
      · rw [plcL, List.length_cons, hdl]
        rw [show ((bytesOf w).length : Int) - (((bytesOf w).length - (i + 1) + 1 : Nat) : Int) = (i : Int) by omega]
        rw [show ((bytesOf w).length : Int) - (((bytesOf w).length - (i + 1) : Nat) : Int) = (i : Int) + 1 by omega]
      · refine Ev.step (fun k => by rw [spec_loPlaces.l0]) ?_
        refine Ev.pos (by omega) (Ev.pos (by omega) ?_)
        rw [hx, w64 (x := (i : Int) + 1) (by omega) (by omega)]
        by_cases e : y = c
        · rw [if_pos e] at hr
          refine Ev.pos e ?_
          by_cases h0 : acc.1 < 0
          · rw [if_pos h0] at hr; exact Ev.pos h0 hr
          · rw [if_neg h0] at hr; exact Ev.neg h0 hr
        · rw [if_neg e] at hr; exact Ev.neg e hr)
    (-1, -1) trivial
  rw [show ((bytesOf w).length : Int) - ((bytesOf w).length : Int) = 0 by omega] at e
  exact e
theorem byte_at (s : ByteArray) (j : Nat) (h : j < (bytesOf s).length) : ((s.data[j]!).toNat : Int) = (bytesOf s)[j] := by
  have hl := bytesOf_length s
  have h2 : j < s.data.size := by show j < s.size; omega
  have e : (bytesOf s)[j]? = (s.data.toList[j]?).map fun b => (b.toNat : Int) := by
    unfold bytesOf
    rw [List.getElem?_map]
  rw [List.getElem?_eq_getElem h, Array.getElem?_toList, Array.getElem?_eq_getElem h2] at e
  rw [getElem!_pos s.data j h2]
  exact (Option.some.inj e).symm
theorem last_parts {s : ByteArray} {x : Int} {p q r : List Int} (h : bytesOf s = p ++ x :: (q ++ x :: r)) (h3 : x ∉ r) : Lib.lastIndexByte s x = (p.length : Int) + 1 + (q.length : Int) := by
  have hl := bytesOf_length s
  have hn : (bytesOf s).length = p.length + 1 + q.length + 1 + r.length := by rw [h]; simp; omega
  have hq : ∀ i, p.length + 1 + q.length ≤ i → (bytesOf s)[i]? = (x :: r)[i - (p.length + 1 + q.length)]? := fun i hi => by
    rw [h, List.getElem?_append_right (by omega)]
    obtain ⟨d, rfl⟩ : ∃ d, i = p.length + 1 + q.length + d := ⟨i - (p.length + 1 + q.length), by omega⟩
    rw [show p.length + 1 + q.length + d - p.length = (q.length + d) + 1 by omega, List.getElem?_cons_succ, List.getElem?_append_right (by omega)]
    congr 1
    omega
  have hat : (bytesOf s)[p.length + 1 + q.length]'(by omega) = x := by
    have e := hq (p.length + 1 + q.length) (Nat.le_refl _)
    rw [Nat.sub_self, List.getElem?_cons_zero] at e
    exact (List.getElem?_eq_some_iff.1 e).2
  unfold Lib.lastIndexByte
  rcases Lib.lastIdx_spec s x s.size with ⟨_, h2⟩ | ⟨i, h1, h2, h4, h5⟩
  · exfalso
    exact h2 (p.length + 1 + q.length) (by omega) (by rw [byte_at s _ (by omega)]; exact hat)
  · have hge : ¬ i < p.length + 1 + q.length := fun hlt => h5 (p.length + 1 + q.length) hlt (by omega) (by rw [byte_at s _ (by omega)]; exact hat)
    have hle : ¬ p.length + 1 + q.length < i := fun hlt => by
      rw [byte_at s i (by omega)] at h4
      have e := hq i (by omega)
      obtain ⟨d, hd⟩ : ∃ d, i - (p.length + 1 + q.length) = d + 1 := ⟨i - (p.length + 1 + q.length) - 1, by omega⟩
      rw [hd, List.getElem?_cons_succ, List.getElem?_eq_getElem (by omega), h4] at e
      exact h3 (List.mem_of_getElem? e.symm)
    omega
end Go.Proofs.YtkfllbbpclgffaaDoor.M

-- Written by a program for this claim.
namespace Go.Proofs.YtkfllbbpclgffaaDoor.Pr
open Go.RowKit Go.Proofs.YtkfllbbpclgffaaDoorW.PrintWords Go.Proofs.YtkfllbbpclgffaaDoorW.PrintLast Go.Proofs.YtkfllbbpclgffaaDoorW.PrintMore
attribute [local go_sem] max2_int min2_int max_two min_two max_three min_three max_four min_four   -- for this text's walks alone
set_option linter.unusedVariables false
set_option linter.unusedSimpArgs false

/-! ### spec_l1In: function 33 -/
def spec_l1In.f (a0 : Int) (a1 : Int) (a2 : Int) : Option (Bool) := if a0 ≥ a1 then (some (decide (a0 ≤ a2))) else (some false)
set_option maxHeartbeats 8000000 in
set_option maxRecDepth 100000 in
theorem spec_l1In.calls (a0 : Int) (a1 : Int) (a2 : Int) (r : Bool) (w : World) (h : spec_l1In.f a0 a1 a2 = some r) :
    Calls Tryd.prog 33 #[.int .i64 a0, .int .i64 a1, .int .i64 a2] w fun e w' => e = .returned (.bool r) ∧ Drawn0 w w' := by
  have H : (if a0 ≥ a1 then (some (decide (a0 ≤ a2))) else (some false)) = some r := h
  clear h
  by_cases c4 : a0 ≥ a1
  · rw [if_pos c4] at H
    have c4b0 : decide (a1 ≤ a0) = true := decide_eq_true c4
    clear c4
    obtain rfl := Option.some.inj H
    go_enter Tryd.func33, Tryd.ntmps33
    go_wp2
    go_ret
    exact ⟨by first | rfl | (simp; done) | (simp [*]; done), by repeat (first | exact Drawn0.refl _ | apply Drawn0.step)⟩
  · rw [if_neg c4] at H
    have c4b0 : decide (a1 ≤ a0) = false := decide_eq_false c4
    clear c4
    obtain rfl := Option.some.inj H
    go_enter Tryd.func33, Tryd.ntmps33
    go_wp2
    go_ret
    exact ⟨by first | rfl | (simp; done) | (simp [*]; done), by repeat (first | exact Drawn0.refl _ | apply Drawn0.step)⟩

end Go.Proofs.YtkfllbbpclgffaaDoor.Pr

-- Written by a program for this claim.
namespace Go.Proofs.YtkfllbbpclgffaaDoor.Pr
open Go.RowKit Go.Proofs.YtkfllbbpclgffaaDoorW.PrintWords Go.Proofs.YtkfllbbpclgffaaDoorW.PrintLast Go.Proofs.YtkfllbbpclgffaaDoorW.PrintMore
attribute [local go_sem] max2_int min2_int max_two min_two max_three min_three max_four min_four   -- for this text's walks alone
set_option linter.unusedVariables false
set_option linter.unusedSimpArgs false

/-! ### spec_loLetter: function 19 -/
def spec_loLetter.f (a0 : ByteArray) (a1 : ByteArray) : Option (Bool) := if (a1.size : Int) = 1 then (if 0 < (a1.size : Int) then ((spec_l1In.f (wrap64 ((wrap64 (bt a1 0)) - 97)) 0 (wrap64 ((wrap64 ((a0.size : Int) / 2)) - 1))).bind fun t164 => (some t164)) else (none)) else (some false)
set_option maxHeartbeats 8000000 in
set_option maxRecDepth 100000 in
theorem spec_loLetter.calls (a0 : ByteArray) (a1 : ByteArray) (r : Bool) (w : World) (h : spec_loLetter.f a0 a1 = some r) :
    Calls Tryd.prog 19 #[.string a0, .string a1] w fun e w' => e = .returned (.bool r) ∧ Drawn0 w w' := by
  have H : (if (a1.size : Int) = 1 then (if 0 < (a1.size : Int) then ((spec_l1In.f (wrap64 ((wrap64 (bt a1 0)) - 97)) 0 (wrap64 ((wrap64 ((a0.size : Int) / 2)) - 1))).bind fun t164 => (some t164)) else (none)) else (some false)) = some r := h
  clear h
  by_cases c3 : (a1.size : Int) = 1
  · rw [if_pos c3] at H
    have c3b0 : ((a1.size : Int) == 1) = true := beq_iff_eq.mpr c3
    have c3b1 : ((a1.size : Int) != 1) = false := bne_eq_false_iff_eq.mpr c3
    clear c3
    by_cases c4 : 0 < (a1.size : Int)
    · rw [if_pos c4] at H
      have c4b0 : decide (0 < (a1.size : Int)) = true := decide_eq_true c4
      have c4b1 : decide (0 < a1.size) = true := decide_eq_true (by omega)
      clear c4
      replace H := Option.bind_eq_some_iff.mp H
      obtain ⟨t164, A60, H⟩ := H
      replace H : (some t164) = some r := H
      have A6 := Aside0.mk A60
      clear A60
      obtain rfl := Option.some.inj H
      have p5 : 0 ≤ (0 : Int) := (by omega)
      have q5 : 0 < a1.size := (by have : (0 : Int) < (a1.size : Int) := of_decide_eq_true (by first | (with_reducible assumption) | assumption); omega)
      have hx5 : ∀ h : 0 < a1.size, ((a1[0]'h).toNat : Int) = bt a1 0 := bt_at a1 0
      clear p5
      have qi5 : (0 < (a1.size : Int)) = True := eq_true (of_decide_eq_true (by first | (with_reducible assumption) | assumption))
      replace q5 := eq_true q5
      go_enter Tryd.func19, Tryd.ntmps19
      go_wp2_with (first | (go_at_call 33; (with_reducible refine (spec_l1In.calls (wrap64 ((wrap64 (bt a1 0)) - 97)) 0 (wrap64 ((wrap64 ((a0.size : Int) / 2)) - 1)) t164 _ A6.out).mono ?_); rintro e w' ⟨rfl, ⟨nd, rfl⟩⟩))
      go_ret
      exact ⟨by first | rfl | (simp; done) | (simp [*]; done), by repeat (first | exact Drawn0.refl _ | apply Drawn0.step)⟩
    · rw [if_neg c4] at H
      exact absurd H (by simp)
  · rw [if_neg c3] at H
    have c3b0 : ((a1.size : Int) == 1) = false := beq_eq_false_iff_ne.mpr c3
    have c3b1 : ((a1.size : Int) != 1) = true := bne_iff_ne.mpr c3
    obtain rfl := Option.some.inj H
    go_enter Tryd.func19, Tryd.ntmps19
    go_wp2
    go_ret
    exact ⟨by first | rfl | (simp; done) | (simp [*]; done), by repeat (first | exact Drawn0.refl _ | apply Drawn0.step)⟩

end Go.Proofs.YtkfllbbpclgffaaDoor.Pr

-- Written by a program for this claim.
namespace Go.Proofs.YtkfllbbpclgffaaDoor.Pr
open Go.RowKit Go.Proofs.YtkfllbbpclgffaaDoorW.PrintWords Go.Proofs.YtkfllbbpclgffaaDoorW.PrintLast Go.Proofs.YtkfllbbpclgffaaDoorW.PrintMore
attribute [local go_sem] max2_int min2_int max_two min_two max_three min_three max_four min_four   -- for this text's walks alone
set_option linter.unusedVariables false
set_option linter.unusedSimpArgs false

/-! ### impl_isLetter: function 21 -/
def impl_isLetter.f (k : Nat) (a0 : ByteArray) (a1 : ByteArray) : Option (Bool) := (impl_IsLoop.f k a0).bind fun t168 => (if t168 = true then (if (a1.size : Int) = 1 then ((strings_Contains.f a0 a1).bind fun t169 => (some t169)) else (some false)) else (some false))
theorem impl_isLetter.mono : ∀ a0 a1 k, LeO (impl_isLetter.f k a0 a1) (impl_isLetter.f (k + 1) a0 a1) := by
  intro a0 a1 k
  unfold impl_isLetter.f
  repeat' first
      | (with_reducible exact impl_IsLoop.mono _ _)
      | (with_reducible exact LeO.refl _)
      | (with_reducible exact LeO.none _)
      | (with_reducible refine LeO.ite ?_ ?_)
      | (with_reducible refine LeO.bind ?_ (fun _ => ?_))
      | exact impl_IsLoop.mono _ _
      | exact LeO.none _
      | refine LeO.ite ?_ ?_
      | refine LeO.bind ?_ (fun _ => ?_)
set_option maxHeartbeats 8000000 in
set_option maxRecDepth 100000 in
theorem impl_isLetter.calls (k : Nat) (a0 : ByteArray) (a1 : ByteArray) (r : Bool) (w : World) (h : impl_isLetter.f k a0 a1 = some r) :
    Calls Tryd.prog 21 #[.string a0, .string a1] w fun e w' => e = .returned (.bool r) ∧ Below w.heap.size w w' := by
  have HB := Aside0.mk (Below.refl w.heap.size w)
  have H : ((impl_IsLoop.f k a0).bind fun t168 => (if t168 = true then (if (a1.size : Int) = 1 then ((strings_Contains.f a0 a1).bind fun t169 => (some t169)) else (some false)) else (some false))) = some r := h
  clear h
  replace H := Option.bind_eq_some_iff.mp H
  obtain ⟨t168, A30, H⟩ := H
  replace H : (if t168 = true then (if (a1.size : Int) = 1 then ((strings_Contains.f a0 a1).bind fun t169 => (some t169)) else (some false)) else (some false)) = some r := H
  have A3 := Aside0.mk A30
  clear A30
  by_cases c4 : t168 = true
  · subst c4
    have H1 : (if (a1.size : Int) = 1 then ((strings_Contains.f a0 a1).bind fun t169 => (some t169)) else (some false)) = some r := by rw [if_pos rfl] at H; exact H
    clear H
    have H := H1
    clear H1
    by_cases c5 : (a1.size : Int) = 1
    · rw [if_pos c5] at H
      have c5b0 : ((a1.size : Int) == 1) = true := beq_iff_eq.mpr c5
      have c5b1 : ((a1.size : Int) != 1) = false := bne_eq_false_iff_eq.mpr c5
      clear c5
      replace H := Option.bind_eq_some_iff.mp H
      obtain ⟨t169, A60, H⟩ := H
      replace H : (some t169) = some r := H
      have A6 := Aside0.mk A60
      clear A60
      obtain rfl := Option.some.inj H
      go_enter Tryd.func21, Tryd.ntmps21
      go_wp2_with (first | ((with_reducible refine gate_callee (f := 26) rfl ?_); refine goesL_ (some 6) rfl rfl Tryd.func26 (by kernel_rfl) rfl #[.string a0] rfl (by (try simp only [List.map_toArray, List.map_cons, List.map_nil]); first | done | rfl | (simp only [List.length_drop, List.length_take]; rfl)) ?_; (with_reducible refine (impl_IsLoop.calls k a0 true _ A3.out).mono ?_); rintro e w7 ⟨rfl, hb⟩; refine ⟨_, rfl, ?_⟩; have n0_ := Aside0.mk (below_step (by repeat (first | (with_reducible first | exact HB.out | apply below_alloc | apply pw_below_drewN | apply below_drew1) | exact HB.out)) hb); clear HB; have HB := n0_; clear n0_; (try clear hb); (try clear hb2); (try clear hk); (try clear hi)) | (go_at_call 35; (with_reducible refine (strings_Contains.calls a0 a1 t169 _ A6.out).mono ?_); rintro e w' ⟨rfl, ⟨nd, rfl⟩⟩))
      go_ret
      exact ⟨by first | rfl | (simp [errW_none, errW_some] <;> rfl) | (simp [*, errW_none, errW_some] <;> rfl), by repeat (first | (with_reducible first | exact HB.out | apply below_alloc | apply pw_below_drewN | apply below_drew1) | exact HB.out)⟩
    · rw [if_neg c5] at H
      have c5b0 : ((a1.size : Int) == 1) = false := beq_eq_false_iff_ne.mpr c5
      have c5b1 : ((a1.size : Int) != 1) = true := bne_iff_ne.mpr c5
      obtain rfl := Option.some.inj H
      go_enter Tryd.func21, Tryd.ntmps21
      go_wp2_with (first | ((with_reducible refine gate_callee (f := 26) rfl ?_); refine goesL_ (some 6) rfl rfl Tryd.func26 (by kernel_rfl) rfl #[.string a0] rfl (by (try simp only [List.map_toArray, List.map_cons, List.map_nil]); first | done | rfl | (simp only [List.length_drop, List.length_take]; rfl)) ?_; (with_reducible refine (impl_IsLoop.calls k a0 true _ A3.out).mono ?_); rintro e w8 ⟨rfl, hb⟩; refine ⟨_, rfl, ?_⟩; have n0_ := Aside0.mk (below_step (by repeat (first | (with_reducible first | exact HB.out | apply below_alloc | apply pw_below_drewN | apply below_drew1) | exact HB.out)) hb); clear HB; have HB := n0_; clear n0_; (try clear hb); (try clear hb2); (try clear hk); (try clear hi)))
      go_ret
      exact ⟨by first | rfl | (simp [errW_none, errW_some] <;> rfl) | (simp [*, errW_none, errW_some] <;> rfl), by repeat (first | (with_reducible first | exact HB.out | apply below_alloc | apply pw_below_drewN | apply below_drew1) | exact HB.out)⟩
  · replace c4 := Bool.eq_false_iff.mpr c4
    subst c4
    have H1 : (some false) = some r := by rw [if_neg (show ¬ (false = true) by decide)] at H; exact H
    clear H
    have H := H1
    clear H1
    obtain rfl := Option.some.inj H
    go_enter Tryd.func21, Tryd.ntmps21
    go_wp2_with (first | ((with_reducible refine gate_callee (f := 26) rfl ?_); refine goesL_ (some 6) rfl rfl Tryd.func26 (by kernel_rfl) rfl #[.string a0] rfl (by (try simp only [List.map_toArray, List.map_cons, List.map_nil]); first | done | rfl | (simp only [List.length_drop, List.length_take]; rfl)) ?_; (with_reducible refine (impl_IsLoop.calls k a0 false _ A3.out).mono ?_); rintro e w9 ⟨rfl, hb⟩; refine ⟨_, rfl, ?_⟩; have n0_ := Aside0.mk (below_step (by repeat (first | (with_reducible first | exact HB.out | apply below_alloc | apply pw_below_drewN | apply below_drew1) | exact HB.out)) hb); clear HB; have HB := n0_; clear n0_; (try clear hb); (try clear hb2); (try clear hk); (try clear hi)))
    go_ret
    exact ⟨by first | rfl | (simp [errW_none, errW_some] <;> rfl) | (simp [*, errW_none, errW_some] <;> rfl), by repeat (first | (with_reducible first | exact HB.out | apply below_alloc | apply pw_below_drewN | apply below_drew1) | exact HB.out)⟩

end Go.Proofs.YtkfllbbpclgffaaDoor.Pr

/- Interlaced letters: the program and the reference tell the same. -/
namespace Go.Proofs.YtkfllbbpclgffaaDoor.M
open Go.RowKit Go.Proofs.YtkfllbbpclgffaaDoorW.PrintWords Go.Proofs.YtkfllbbpclgffaaDoor.Pr
set_option linter.unusedVariables false
set_option linter.unusedSimpArgs false

theorem encode_byte {c : Int} (h0 : 0 ≤ c) (h1 : c < 128) : bytesOf (Utf8.encode (wrap32 c)) = [c] := by
  rw [show wrap32 c = c by unfold wrap32; omega, encode_small h0 h1]
  unfold bytesOf
  simp
  omega
theorem head_byte (s : ByteArray) (x : Int) (h : bytesOf s = [x]) : s.data.toList.length = 1 ∧ s.data.toList.headD 0 = x.toNat.toUInt8 := by
  unfold bytesOf at h
  match hl : s.data.toList, h with
  | [b], h =>
    simp at h
    subst h
    simp
theorem lac_parts {w : ByteArray} {m : Nat} (h : M.Loop (bytesOf w) m) {a : Int} (h1 : 97 ≤ a) (h2 : a < 97 + (m : Int)) :
    ∃ p q r, bytesOf w = p ++ a :: (q ++ a :: r) ∧ a ∉ p ∧ a ∉ q ∧ a ∉ r ∧ w.size = p.length + 1 + q.length + 1 + r.length ∧ w.size ≤ 16 := by
  obtain ⟨p, q, r, e, n1, n2, n3⟩ := two_parts a _ (h.cnt h1 h2)
  have hl := bytesOf_length w
  have hlen := h.len
  have hf := h.few
  have hz : w.size ≤ 16 := by omega
  rw [e] at hl
  simp only [List.length_append, List.length_cons] at hl
  exact ⟨p, q, r, e, n1, n2, n3, by omega, hz⟩
theorem interlaced_eq {w : ByteArray} {m : Nat} (h : M.Loop (bytesOf w) m) {a b : Int} (h1 : 97 ≤ a) (h2 : a < 97 + (m : Int)) (h3 : 97 ≤ b) (h4 : b < 97 + (m : Int)) :
    impl_interlaced.f w a b = some (lacedL (bytesOf w) a b) := by
  obtain ⟨p, q, r, e, n1, n2, n3, hs, hz⟩ := lac_parts h h1 h2
  have hf := h.few
  unfold impl_interlaced.f strings_IndexByte.f strings_LastIndexByte.f
  rw [indexB_eq w a (by omega) (by omega), last_parts e n3, if_pos (by omega)]
  have hix : ixL (bytesOf w) a = p.length := by
    unfold ixL
    rw [e, if_pos (by simp), idx_parts n1]
  rw [hix, Option.bind_some, Option.bind_some, w64 (x := (p.length : Int) + 1) (by omega) (by omega), if_pos (by omega), if_pos (by omega), if_pos (by omega)]
  have hex : bytesOf (w.extract ((p.length : Int) + 1).toNat ((p.length : Int) + 1 + (q.length : Int)).toNat) = q := by
    rw [bytesOf_extract, e, show ((p.length : Int) + 1).toNat = (p ++ [a]).length by (simp <;> omega), show ((p.length : Int) + 1 + (q.length : Int)).toNat = (p ++ [a] ++ q).length by (simp <;> omega)]
    rw [show p ++ a :: (q ++ a :: r) = (p ++ [a] ++ q) ++ (a :: r) by simp, List.take_left, List.drop_append_of_le_length (by simp)]
    simp
  have hb := head_byte _ _ (encode_byte (c := b) (by omega) (by omega))
  unfold strings_Count.f
  rw [if_pos hb.1, hb.2, count_eq _ b (by omega) (by omega), hex, Option.bind_some]
  congr 1
  unfold lacedL
  rw [e, mid_parts n1 n2, Bool.eq_iff_iff]
  simp
  omega
theorem loLaced_ev {w : ByteArray} {m : Nat} (h : M.Loop (bytesOf w) m) {a b : Int} (h1 : 97 ≤ a) (h2 : a < 97 + (m : Int)) :
    Ev (fun k => spec_loLaced.f k w a b) (lacedL (bytesOf w) a b) := by
  obtain ⟨p, q, r, e, n1, n2, n3, hs, hz⟩ := lac_parts h h1 h2
  unfold spec_loLaced.f
  refine Ev.bindk (loPlaces_ev w a (by omega)) ?_
  rw [e, plc_parts n1 n2 n3]
  dsimp only
  rw [w64 (x := (p.length : Int) + 1) (by omega) (by omega)]
  have hl := bytesOf_length w
  have hq : ∀ j (hj : j < q.length), bt w ((p.length : Int) + 1 + (j : Int)) = q[j] := fun j hj => by
    have hlt : p.length + 1 + j < (bytesOf w).length := by omega
    have e1 := bytesOf_get w (p.length + 1 + j) hlt
    rw [show (((p.length + 1 + j : Nat)) : Int) = (p.length : Int) + 1 + (j : Int) by omega] at e1
    rw [e1]
    have e2 : (bytesOf w)[p.length + 1 + j]? = q[j]? := by
      rw [e, List.getElem?_append_right (by omega), show p.length + 1 + j - p.length = j + 1 by omega, List.getElem?_cons_succ, List.getElem?_append_left hj]
    rw [List.getElem?_eq_getElem hlt, List.getElem?_eq_getElem hj] at e2
    exact Option.some.inj e2
  have ev := Ev.scan0 (fun k i (t : Int) => spec_loLaced.l0 k w a b ((p.length : Int) + 1 + (q.length : Int)) t ((p.length : Int) + 1 + i)) q
    (fun rest t => if a = b then false else (t + ((rest.count b : Nat) : Int) == 1)) (fun i t => 0 ≤ t ∧ t ≤ i)
    (fun t ht => by
      refine Ev.step (fun k => by rw [spec_loLaced.l0]) ?_
      refine Ev.neg (by omega) ?_
      by_cases hab : a = b
      · refine Ev.pos hab (Ev.val ?_)
        rw [if_pos hab]
      · refine Ev.neg hab (Ev.val ?_)
        rw [if_neg hab, List.count_nil, Int.natCast_zero, Int.add_zero])
    (fun i hi t ht => by
      have hx := hq i hi
      generalize q[i] = y at hx ⊢
      by_cases hy : y = b
      · refine .inl ⟨t + 1, by omega, ?_, fun r' hr => ?_⟩
        · subst hy
          rw [List.count_cons_self]
          rw [show t + (((q.drop (i + 1)).count y + 1 : Nat) : Int) = t + 1 + (((q.drop (i + 1)).count y : Nat) : Int) by omega]
        · refine Ev.step (fun k => by rw [spec_loLaced.l0]) ?_
          refine Ev.pos (by omega) (Ev.pos (by omega) (Ev.pos (by omega) (Ev.pos (by rw [hx]; exact hy) ?_)))
          rw [w64 (x := t + 1) (by omega) (by omega), w64 (x := (p.length : Int) + 1 + (i : Int) + 1) (by omega) (by omega)]
          rw [show (p.length : Int) + 1 + (i : Int) + 1 = (p.length : Int) + 1 + ((i : Int) + 1) by omega]
          exact hr
      · refine .inl ⟨t, by omega, ?_, fun r' hr => ?_⟩
        · rw [List.count_cons, show (y == b) = false by simpa using hy]
          simp only [Bool.false_eq_true, if_false, Nat.add_zero]
        · refine Ev.step (fun k => by rw [spec_loLaced.l0]) ?_
          refine Ev.pos (by omega) (Ev.pos (by omega) (Ev.pos (by omega) (Ev.neg (by rw [hx]; exact hy) ?_)))
          rw [w64 (x := (p.length : Int) + 1 + (i : Int) + 1) (by omega) (by omega)]
          rw [show (p.length : Int) + 1 + (i : Int) + 1 = (p.length : Int) + 1 + ((i : Int) + 1) by omega]
          exact hr)
    0 ⟨by omega, by omega⟩
  have e3 : (if a = b then false else ((0 : Int) + ((q.count b : Nat) : Int) == 1)) = lacedL (p ++ a :: (q ++ a :: r)) a b := by
    unfold lacedL
    rw [mid_parts n1 n2]
    by_cases hab : a = b
    · rw [if_pos hab]
      subst hab
      rw [List.count_eq_zero.2 n2]
      rfl
    · rw [if_neg hab, Bool.eq_iff_iff]
      simp
      omega
  rw [e3] at ev
  rw [Int.add_zero] at ev
  exact ev

/-- Whether a text is a letter of a loop. -/
def letB (w a : ByteArray) : Bool := decide (a.size = 1) && decide (97 ≤ bt a 0 ∧ bt a 0 < 97 + ((w.size / 2 : Nat) : Int))
theorem one_bytes {a : ByteArray} (h : a.size = 1) : bytesOf a = [bt a 0] := by
  have hl := bytesOf_length a
  have e := bytesOf_get a 0 (by omega)
  match hb : bytesOf a, hl with
  | [x], _ =>
    simp only [hb] at e
    rw [show ((0 : Nat) : Int) = 0 from rfl] at e
    rw [e]
    rfl
  | [], hl => simp at hl; omega
  | x :: y :: r, hl => simp at hl; omega
theorem isLetter_ev (w a : ByteArray) : Ev (fun k => impl_isLetter.f k w a) (goodS w && letB w a) := by
  unfold impl_isLetter.f
  refine Ev.bindk (isLoop_ev w) ?_
  by_cases hg : goodS w = true
  · refine Ev.pos hg ?_
    rw [hg, Bool.true_and]
    by_cases h1 : a.size = 1
    · refine Ev.pos (by omega) ?_
      have hb := one_bytes h1
      have hh := head_byte a _ hb
      have hr := bt_range a 0
      obtain ⟨m, hm⟩ := loop_of hg
      have hl := bytesOf_length w
      have hlen := hm.len
      refine Ev.bindc (a := letB w a) ?_ (Ev.val rfl)
      unfold strings_Contains.f
      rw [if_pos hh.1, hh.2, indexB_eq w _ (by omega) (by omega)]
      congr 1
      unfold letB ixL
      rw [decide_eq_true h1, Bool.true_and, Bool.eq_iff_iff, decide_eq_true_eq, decide_eq_true_eq, show w.size / 2 = m by omega]
      constructor
      · intro h
        have hx : bt a 0 ∈ bytesOf w := by
          by_cases hx : bt a 0 ∈ bytesOf w
          · exact hx
          · rw [if_neg hx] at h; omega
        exact ⟨hm.lo _ hx, hm.hi _ hx⟩
      · intro h
        have hc := hm.cnt h.1 h.2
        rw [if_pos (List.count_pos_iff.1 (by omega))]
        omega
    · refine Ev.neg (by omega) (Ev.val ?_)
      unfold letB
      rw [decide_eq_false h1]
      rfl
  · refine Ev.neg hg (Ev.val ?_)
    cases h : goodS w with
    | true => exact absurd h hg
    | false => rfl
theorem l1In_at (n lo hi : Int) : spec_l1In.f n lo hi = some (decide (lo ≤ n ∧ n ≤ hi)) := by
  unfold spec_l1In.f
  by_cases h : n ≥ lo
  · rw [if_pos h]; congr 1; rw [Bool.eq_iff_iff]; simp; omega
  · rw [if_neg h]; congr 1; rw [Bool.eq_iff_iff]; simp; omega
theorem loLetter_eq (w a : ByteArray) (hw : w.size ≤ 16) : spec_loLetter.f w a = some (letB w a) := by
  unfold spec_loLetter.f letB
  by_cases h1 : a.size = 1
  · have hr := bt_range a 0
    rw [if_pos (by omega), if_pos (by omega), w64 (x := bt a 0) (by omega) (by omega), w64 (x := bt a 0 - 97) (by omega) (by omega), w64 (x := (w.size : Int) / 2) (by omega) (by omega), w64 (x := (w.size : Int) / 2 - 1) (by omega) (by omega), l1In_at, Option.bind_some]
    congr 1
    rw [decide_eq_true h1, Bool.true_and, Bool.eq_iff_iff, decide_eq_true_eq, decide_eq_true_eq]
    omega
  · rw [if_neg (by omega), decide_eq_false h1]
    rfl

theorem lettP_byte (p : Int → Bool) : ∀ (d : Nat) (x : Int), 0 ≤ x → x + d ≤ 256 → ∀ y ∈ lettP p x d, 0 ≤ y ∧ y < 256
  | 0, _, _, _, y, hy => by simp [lettP] at hy
  | d + 1, x, h0, h1, y, hy => by
    unfold lettP at hy
    split at hy
    · rcases List.mem_cons.1 hy with e | hy
      · omega
      · exact lettP_byte p d (x + 1) (by omega) (by omega) y hy
    · exact lettP_byte p d (x + 1) (by omega) (by omega) y hy
theorem with_eq {w : ByteArray} {m : Nat} (h : M.Loop (bytesOf w) m) {a : Int} (h1 : 97 ≤ a) (h2 : a < 97 + (m : Int)) {c : Int} (h3 : 97 ≤ c) (h4 : c < 97 + (m : Int)) : withB w a c = lacedL (bytesOf w) a c := by
  unfold withB
  rw [interlaced_eq h h1 h2 h3 h4]
  by_cases e : c = a
  · subst e
    rw [laced_self (h.cnt h1 h2)]
    simp
  · rw [show (c != a) = true by simpa using e]
    rfl
theorem interlacedWith_eq {w : ByteArray} {m : Nat} (h : M.Loop (bytesOf w) m) {a : Int} (h1 : 97 ≤ a) (h2 : a < 97 + (m : Int)) : okWith w a = true ∧ impl_interlacedWith.f w a = some (strOfNums (withL (bytesOf w) m a)) := by
  have hl := bytesOf_length w
  have hlen := h.len
  have hf := h.few
  have hm : w.size / 2 = m := by omega
  have hok : okWith w a = true := by
    unfold okWith
    rw [Bool.and_eq_true, decide_eq_true_eq, List.all_eq_true, hm]
    refine ⟨by omega, fun c hc => ?_⟩
    have := (mem_abc m c).1 hc
    rw [interlaced_eq h h1 h2 this.1 this.2]
    rfl
  refine ⟨hok, ?_⟩
  unfold impl_interlacedWith.f
  rw [if_pos hok, hm]
  unfold withL
  rw [lettP_congr (withB w a) _ m 97 (fun y h3 h4 => with_eq h h1 h2 h3 h4)]
theorem loWith_l0 {w : ByteArray} {m : Nat} (h : M.Loop (bytesOf w) m) {a : Int} (h1 : 97 ≤ a) (h2 : a < 97 + (m : Int)) : ∀ (d i : Nat) (out : ByteArray), i + d = m → out.size ≤ i →
    Ev (fun k => spec_loWith.l0 k w a out (i : Int)) (strOfNums (bytesOf out ++ lettP (fun c => lacedL (bytesOf w) a c) (97 + (i : Int)) d))
  | 0, i, out, hd, hs => by
    have hl := bytesOf_length w
    have hlen := h.len
    have hf := h.few
    refine Ev.step (fun k => by rw [spec_loWith.l0]) ?_
    rw [w64 (x := (w.size : Int) / 2) (by omega) (by omega)]
    refine Ev.neg (by omega) (Ev.val ?_)
    rw [lettP, List.append_nil, strOf_bytesOf]
  | d + 1, i, out, hd, hs => by
    have hl := bytesOf_length w
    have hlen := h.len
    have hf := h.few
    have e97 : (wrap64 (97 + (i : Int))) % 256 = 97 + (i : Int) := by rw [w64 (by omega) (by omega)]; omega
    have h16 : i < 16 := by omega
    have hsz := abc_size i h16
    refine Ev.step (fun k => by rw [spec_loWith.l0]) ?_
    rw [w64 (x := (w.size : Int) / 2) (by omega) (by omega), e97]
    refine Ev.pos (by omega) (Ev.bindk (loLaced_ev h h1 h2) ?_)
    rw [w64 (x := (i : Int) + 1) (by omega) (by omega), show ((i : Int) + 1).toNat = i + 1 by omega, Int.toNat_natCast, lettP]
    by_cases hy : lacedL (bytesOf w) a (97 + (i : Int)) = true
    · rw [if_pos hy]
      refine Ev.pos hy (Ev.pos (by omega) (Ev.pos (by omega) (Ev.pos (by omega) (Ev.pos ?_ ?_))))
      · unfold abc16 at hsz
        omega
      · have e := loWith_l0 h h1 h2 d (i + 1) (out ++ abc16.extract i (i + 1)) (by omega) (by rw [ByteArray.size_append, hsz]; omega)
        rw [bytesOf_append, abc_one i h16, List.append_assoc] at e
        rw [show (97 : Int) + ((i + 1 : Nat) : Int) = 97 + (i : Int) + 1 by omega, show (((i + 1 : Nat)) : Int) = (i : Int) + 1 by omega] at e
        exact e
    · rw [if_neg hy]
      refine Ev.neg hy ?_
      have e := loWith_l0 h h1 h2 d (i + 1) out (by omega) (by omega)
      rw [show (97 : Int) + ((i + 1 : Nat) : Int) = 97 + (i : Int) + 1 by omega, show (((i + 1 : Nat)) : Int) = (i : Int) + 1 by omega] at e
      exact e
theorem loWith_ev {w : ByteArray} {m : Nat} (h : M.Loop (bytesOf w) m) {a : Int} (h1 : 97 ≤ a) (h2 : a < 97 + (m : Int)) : Ev (fun k => spec_loWith.f k w a) (strOfNums (withL (bytesOf w) m a)) := by
  unfold spec_loWith.f withL
  exact loWith_l0 h h1 h2 m 0 ⟨#[]⟩ (by omega) (by simp [ByteArray.size])
end Go.Proofs.YtkfllbbpclgffaaDoor.M

/- Whether a loop is even: the program and the reference tell the same. -/
namespace Go.Proofs.YtkfllbbpclgffaaDoor.M
open Go.RowKit Go.Proofs.YtkfllbbpclgffaaDoorW.PrintWords Go.Proofs.YtkfllbbpclgffaaDoorW.PrintLast Go.Proofs.YtkfllbbpclgffaaDoor.Pr
set_option linter.unusedVariables false
set_option linter.unusedSimpArgs false

def oddL (w : List Int) (m : Nat) (c : Int) : Bool := (((withL w m c).length : Int) % 2 == 1)
def evR (w : List Int) (m : Nat) : Nat → Int → Bool
  | 0, _ => true
  | d + 1, x => !(oddL w m x) && evR w m d (x + 1)
theorem ev_lett (w : List Int) (m : Nat) : ∀ (d : Nat) (x : Int), (lettP (oddL w m) x d).isEmpty = evR w m d x
  | 0, _ => rfl
  | d + 1, x => by
    unfold lettP evR
    cases h : oddL w m x with
    | true => simp
    | false => simp [ev_lett w m d (x + 1)]
theorem strOf_len (xs : List Int) : (strOfNums xs).size = xs.length := by
  unfold strOfNums
  simp [ByteArray.size]
theorem isEven_eq {w : ByteArray} {m : Nat} (h : M.Loop (bytesOf w) m) : impl_isEvenLoop.f w = some (evR (bytesOf w) m m 97) := by
  have hl := bytesOf_length w
  have hlen := h.len
  have hf := h.few
  have hm : w.size / 2 = m := by omega
  unfold impl_isEvenLoop.f
  rw [hm, if_pos (by
    rw [Bool.and_eq_true, decide_eq_true_eq, List.all_eq_true]
    refine ⟨by omega, fun c hc => ?_⟩
    have := (mem_abc m c).1 hc
    exact (interlacedWith_eq h this.1 this.2).1)]
  congr 1
  rw [lettP_congr (oddB w) (oddL (bytesOf w) m) m 97 (fun y h1 h2 => by
    unfold oddB oddL
    rw [hm, strOf_len]
    unfold withL
    rw [lettP_congr (withB w y) _ m 97 (fun z h3 h4 => with_eq h h1 h2 h3 h4)])]
  rw [← ev_lett, ByteArray.toList_eq]
  unfold strOfNums
  cases lettP (oddL (bytesOf w) m) 97 m <;> rfl
theorem loEven_l0 {w : ByteArray} {m : Nat} (h : M.Loop (bytesOf w) m) : ∀ (d i : Nat), i + d = m → Ev (fun k => spec_loEven.l0 k w (i : Int)) (evR (bytesOf w) m d (97 + (i : Int)))
  | 0, i, hd => by
    have hl := bytesOf_length w
    have hlen := h.len
    have hf := h.few
    refine Ev.step (fun k => by rw [spec_loEven.l0]) ?_
    rw [w64 (x := (w.size : Int) / 2) (by omega) (by omega)]
    exact Ev.neg (by omega) (Ev.val rfl)
  | d + 1, i, hd => by
    have hl := bytesOf_length w
    have hlen := h.len
    have hf := h.few
    have e97 : (wrap64 (97 + (i : Int))) % 256 = 97 + (i : Int) := by rw [w64 (by omega) (by omega)]; omega
    refine Ev.step (fun k => by rw [spec_loEven.l0]) ?_
    rw [w64 (x := (w.size : Int) / 2) (by omega) (by omega), e97]
    refine Ev.pos (by omega) (Ev.bindk (loWith_ev h (by omega) (by omega)) ?_)
    rw [strOf_len, w64 (x := (i : Int) + 1) (by omega) (by omega), evR]
    have ih := loEven_l0 h d (i + 1) (by omega)
    rw [show (97 : Int) + ((i + 1 : Nat) : Int) = 97 + (i : Int) + 1 by omega, show (((i + 1 : Nat)) : Int) = (i : Int) + 1 by omega] at ih
    by_cases ho : ((withL (bytesOf w) m (97 + (i : Int))).length : Int) % 2 = 0
    · refine Ev.pos ho ?_
      have e : oddL (bytesOf w) m (97 + (i : Int)) = false := by
        unfold oddL
        rw [ho]
        rfl
      rw [e]
      exact ih
    · refine Ev.neg ho (Ev.val ?_)
      have e : oddL (bytesOf w) m (97 + (i : Int)) = true := by
        unfold oddL
        rw [show ((withL (bytesOf w) m (97 + (i : Int))).length : Int) % 2 = 1 by omega]
        rfl
      rw [e]
      rfl
theorem loEven_ev {w : ByteArray} {m : Nat} (h : M.Loop (bytesOf w) m) : Ev (fun k => spec_loEven.f k w) (evR (bytesOf w) m m 97) := by
  unfold spec_loEven.f
  exact loEven_l0 h m 0 (by omega)
end Go.Proofs.YtkfllbbpclgffaaDoor.M

/- All ways to put letters into two halves, as the bits of a number. Plain lists, no program. -/
namespace Go.Proofs.YtkfllbbpclgffaaDoor.M
set_option linter.unusedVariables false
set_option linter.unusedSimpArgs false

def bitH (v a : Nat) : Nat := v / 2 ^ a % 2
/-- The number whose bits are the letters of the second half. -/
def numH (s : Nat → Int) : Nat → Nat
  | 0 => 0
  | n + 1 => numH s n + if s n = -1 then 2 ^ n else 0
theorem numH_lt (s : Nat → Int) : ∀ n, numH s n < 2 ^ n
  | 0 => by simp [numH]
  | n + 1 => by
    have := numH_lt s n
    rw [numH, Nat.pow_succ]
    split <;> omega
theorem numH_bit (s : Nat → Int) : ∀ n j, j < n → bitH (numH s n) j = if s j = -1 then 1 else 0
  | 0, j, h => by omega
  | n + 1, j, h => by
    have hlt := numH_lt s n
    unfold bitH
    rw [numH]
    by_cases e : j = n
    · subst e
      split
      · rw [Nat.add_div_right _ (Nat.two_pow_pos j), Nat.div_eq_of_lt hlt]
      · rw [Nat.add_zero, Nat.div_eq_of_lt hlt]
    · have ih := numH_bit s n j (by omega)
      unfold bitH at ih
      split
      · have e2 : 2 ^ n = 2 ^ j * (2 * 2 ^ (n - j - 1)) := by
          rw [← Nat.mul_assoc, Nat.mul_comm (2 ^ j) 2, ← Nat.pow_succ', ← Nat.pow_add]
          congr 1
          omega
        rw [e2, Nat.add_mul_div_left _ _ (Nat.two_pow_pos j), Nat.add_mul_mod_self_left]
        exact ih
      · rw [Nat.add_zero]; exact ih
theorem bits_iff {n : Nat} {E P : Nat → Nat → Bool} (symE : ∀ a b, a < n → b < n → E a b = E b a) (symP : ∀ a b, a < n → b < n → P a b = P b a) :
    (∃ v, v < 2 ^ n ∧ ∀ a b, a < n → b < a → E a b = true → ((bitH v a ≠ bitH v b) ↔ P a b = true)) ↔ ∃ s, ValidH n E P s := by
  have b01 : ∀ v a, bitH v a = 0 ∨ bitH v a = 1 := fun v a => by unfold bitH; omega
  constructor
  · rintro ⟨v, hv, h⟩
    have main : ∀ a b, a < n → b < a → E a b = true → (if bitH v b = 1 then (-1 : Int) else 1) = (if bitH v a = 1 then (-1 : Int) else 1) * sgH P a b := fun a b ha hb he => by
      have h := h a b ha hb he
      unfold sgH
      rcases b01 v a with e1 | e1 <;> rcases b01 v b with e2 | e2 <;> rw [e1, e2] at h ⊢ <;> cases hp : P a b <;> simp [hp] at h ⊢
    refine ⟨fun j => if bitH v j = 1 then -1 else 1, fun j => by dsimp only; split <;> simp, fun a b ha hb hab he => ?_⟩
    by_cases hlt : b < a
    · exact main a b ha hlt he
    · have e := main b a hb (by omega) (by rw [← symE a b ha hb]; exact he)
      dsimp only at e ⊢
      rw [e, Int.mul_assoc, show sgH P b a = sgH P a b by unfold sgH; rw [symP a b ha hb]]
      rcases sg_pm P a b with h | h <;> rw [h] <;> simp
  · rintro ⟨s, h1, h2⟩
    refine ⟨numH s n, numH_lt s n, fun a b ha hb he => ?_⟩
    rw [numH_bit s n a ha, numH_bit s n b (by omega)]
    have e := h2 a b ha (by omega) (by omega) he
    unfold sgH at e
    rcases h1 a with e1 | e1 <;> rcases h1 b with e2 | e2 <;> rw [e1, e2] at e ⊢ <;> cases hp : P a b <;> simp [hp] at e ⊢
end Go.Proofs.YtkfllbbpclgffaaDoor.M

/- Whether a loop can be drawn: the program and the reference tell the same. -/
namespace Go.Proofs.YtkfllbbpclgffaaDoor.M
open Go.RowKit Go.Proofs.YtkfllbbpclgffaaDoorW.PrintWords Go.Proofs.YtkfllbbpclgffaaDoorW.PrintLast Go.Proofs.YtkfllbbpclgffaaDoor.Pr
set_option linter.unusedVariables false
set_option linter.unusedSimpArgs false

/-- How many letters are interlaced with both of two. -/
def bothN (w : List Int) (m : Nat) (a b : Int) : Nat := (lettP (fun c => lacedL w a c && lacedL w b c) 97 m).length
theorem bothN_comm (w : List Int) (m : Nat) (a b : Int) : bothN w m a b = bothN w m b a := by
  unfold bothN
  rw [lettP_congr _ (fun c => lacedL w b c && lacedL w a c) m 97 (fun y _ _ => Bool.and_comm _ _)]
theorem bothN_le (w : List Int) (m : Nat) (a b : Int) : bothN w m a b ≤ m := lettP_length _ m 97
theorem common_eq {w : ByteArray} {m : Nat} (h : M.Loop (bytesOf w) m) {a b : Int} (h1 : 97 ≤ a) (h2 : a < 97 + (m : Int)) (h3 : 97 ≤ b) (h4 : b < 97 + (m : Int)) : impl_common.f w a b = some ((bothN (bytesOf w) m a b : Nat) : Int) := by
  have hl := bytesOf_length w
  have hlen := h.len
  have hm : w.size / 2 = m := by omega
  unfold impl_common.f
  rw [if_pos ⟨(interlacedWith_eq h h1 h2).1, (interlacedWith_eq h h3 h4).1⟩, hm]
  unfold bothN
  rw [lettP_congr (commB w a b) (fun c => lacedL (bytesOf w) a c && lacedL (bytesOf w) b c) m 97 (fun y h5 h6 => by
    unfold commB
    rw [interlaced_eq h h1 h2 h5 h6, interlaced_eq h h3 h4 h5 h6]
    by_cases e : y = a
    · subst e
      rw [laced_self (h.cnt h5 h6)]
      simp
    · by_cases e2 : y = b
      · subst e2
        rw [laced_self (h.cnt h5 h6)]
        simp
      · rw [show (y != a) = true by simpa using e, show (y != b) = true by simpa using e2]
        rfl)]
theorem tmod2 (n : Nat) : Int.tmod (n : Int) 2 = ((n % 2 : Nat) : Int) := by
  rw [Int.tmod_eq_emod_of_nonneg (by omega)]
  omega
section
variable {w : ByteArray} {m : Nat} (h : M.Loop (bytesOf w) m)
include h
theorem hvE_eq {i j : Nat} (hi : i < m) (hj : j < m) : hvE w i j = lacedL (bytesOf w) (97 + (i : Int)) (97 + (j : Int)) := by
  unfold hvE
  rw [interlaced_eq h (by omega) (by omega) (by omega) (by omega)]
  rfl
theorem hvP_eq {i j : Nat} (hi : i < m) (hj : j < m) : hvP w i j = (bothN (bytesOf w) m (97 + (i : Int)) (97 + (j : Int)) % 2 == 0) := by
  unfold hvP
  rw [common_eq h (by omega) (by omega) (by omega) (by omega), Option.getD_some, tmod2, Bool.eq_iff_iff, beq_iff_eq, beq_iff_eq]
  omega
theorem symE {i j : Nat} (hi : i < m) (hj : j < m) : hvE w i j = hvE w j i := by
  rw [hvE_eq h hi hj, hvE_eq h hj hi, laced_comm (h.cnt (by omega) (by omega)) (h.cnt (by omega) (by omega))]
theorem symP {i j : Nat} (hi : i < m) (hj : j < m) : hvP w i j = hvP w j i := by
  rw [hvP_eq h hi hj, hvP_eq h hj hi, bothN_comm]
theorem bad_eq {i j : Nat} (hi : i < m) (hj : j < m) : pairBad w i j = (decide (i < j) && !(hvE w i j) && !(hvP w i j)) := by
  unfold pairBad
  rw [hvP_eq h hi hj, common_eq h (by omega) (by omega) (by omega) (by omega), Option.getD_some, tmod2]
  congr 1
  rw [Bool.eq_iff_iff, beq_iff_eq, Bool.not_eq_true', beq_eq_false_iff_ne]
  omega
theorem laced_ij {i j : Nat} (hi : i < m) (hj : j < m) : Ev (fun k => spec_loLaced.f k w ((wrap64 (97 + (i : Int))) % 256) ((wrap64 (97 + (j : Int))) % 256)) (hvE w i j) := by
  have hf := h.few
  rw [w64 (x := 97 + (i : Int)) (by omega) (by omega), w64 (x := 97 + (j : Int)) (by omega) (by omega), show (97 + (i : Int)) % 256 = 97 + (i : Int) by omega, show (97 + (j : Int)) % 256 = 97 + (j : Int) by omega, hvE_eq h hi hj]
  exact loLaced_ev h (by omega) (by omega)
theorem both_l0 {a b : Int} (h1 : 97 ≤ a) (h2 : a < 97 + (m : Int)) (h3 : 97 ≤ b) (h4 : b < 97 + (m : Int)) : ∀ (d i : Nat) (t : Nat), i + d = m → t ≤ i → Ev (fun k => spec_loBoth.l0 k w a b (t : Int) (i : Int)) ((t + (lettP (fun c => lacedL (bytesOf w) a c && lacedL (bytesOf w) b c) (97 + (i : Int)) d).length : Nat) : Int)
  | 0, i, t, hd, ht => by
    have hl := bytesOf_length w
    have hlen := h.len
    have hf := h.few
    refine Ev.step (fun k => by rw [spec_loBoth.l0]) ?_
    rw [w64 (x := (w.size : Int) / 2) (by omega) (by omega)]
    exact Ev.neg (by omega) (Ev.val (by simp [lettP]))
  | d + 1, i, t, hd, ht => by
    have hl := bytesOf_length w
    have hlen := h.len
    have hf := h.few
    refine Ev.step (fun k => by rw [spec_loBoth.l0]) ?_
    rw [w64 (x := (w.size : Int) / 2) (by omega) (by omega), w64 (x := 97 + (i : Int)) (by omega) (by omega), show (97 + (i : Int)) % 256 = 97 + (i : Int) by omega, w64 (x := (i : Int) + 1) (by omega) (by omega), w64 (x := (t : Int) + 1) (by omega) (by omega)]
    have ih := fun t' ht' => both_l0 h1 h2 h3 h4 d (i + 1) t' (by omega) ht'
    rw [show (97 : Int) + ((i + 1 : Nat) : Int) = 97 + (i : Int) + 1 by omega, show (((i + 1 : Nat)) : Int) = (i : Int) + 1 by omega] at ih
    refine Ev.pos (by omega) (Ev.bindk (loLaced_ev h h1 h2) ?_)
    rw [lettP]
    cases e1 : lacedL (bytesOf w) a (97 + (i : Int)) with
    | false =>
      refine Ev.neg (by decide) ?_
      simpa using ih t (by omega)
    | true =>
      refine Ev.pos rfl (Ev.bindk (loLaced_ev h h3 h4) ?_)
      cases e2 : lacedL (bytesOf w) b (97 + (i : Int)) with
      | false =>
        refine Ev.neg (by decide) ?_
        simpa using ih t (by omega)
      | true =>
        refine Ev.pos rfl ?_
        have e := ih (t + 1) (by omega)
        rw [show (((t + 1 : Nat)) : Int) = (t : Int) + 1 by omega] at e
        refine cast ?_ e
        congr 1
        simp
        omega
theorem both_ij {i j : Nat} (hi : i < m) (hj : j < m) : Ev (fun k => spec_loBoth.f k w ((wrap64 (97 + (i : Int))) % 256) ((wrap64 (97 + (j : Int))) % 256)) ((bothN (bytesOf w) m (97 + (i : Int)) (97 + (j : Int)) : Nat) : Int) := by
  have hf := h.few
  rw [w64 (x := 97 + (i : Int)) (by omega) (by omega), w64 (x := 97 + (j : Int)) (by omega) (by omega), show (97 + (i : Int)) % 256 = 97 + (i : Int) by omega, show (97 + (j : Int)) % 256 = 97 + (j : Int) by omega]
  unfold spec_loBoth.f bothN
  have e := both_l0 h (a := 97 + (i : Int)) (b := 97 + (j : Int)) (by omega) (by omega) (by omega) (by omega) m 0 0 (by omega) (by omega)
  simpa using e
end

/-- Whether a number's bits fit two letters. -/
def okV (E P : Nat → Nat → Bool) (v a b : Nat) : Bool := !(E a b) || ((bitH v a != bitH v b) == P a b)
def rowV (E P : Nat → Nat → Bool) (v a : Nat) : Nat → Nat → Bool
  | 0, _ => true
  | d + 1, b => okV E P v a b && rowV E P v a d (b + 1)
def allV (E P : Nat → Nat → Bool) (v : Nat) : Nat → Nat → Bool
  | 0, _ => true
  | d + 1, a => rowV E P v a a 0 && allV E P v d (a + 1)
def anyV (E P : Nat → Nat → Bool) (n : Nat) : Nat → Nat → Bool
  | 0, _ => false
  | d + 1, v => allV E P v n 0 || anyV E P n d (v + 1)
theorem rowV_iff (E P : Nat → Nat → Bool) (v a : Nat) : ∀ (d b : Nat), rowV E P v a d b = true ↔ ∀ q, b ≤ q → q < b + d → okV E P v a q = true
  | 0, b => by simp [rowV]; intro q h1 h2; omega
  | d + 1, b => by
    rw [rowV, Bool.and_eq_true, rowV_iff E P v a d (b + 1)]
    constructor
    · rintro ⟨h1, h2⟩ q h3 h4
      by_cases e : q = b
      · subst e; exact h1
      · exact h2 q (by omega) (by omega)
    · intro h
      exact ⟨h b (by omega) (by omega), fun q h1 h2 => h q (by omega) (by omega)⟩
theorem allV_iff (E P : Nat → Nat → Bool) (v : Nat) : ∀ (d a : Nat), allV E P v d a = true ↔ ∀ q, a ≤ q → q < a + d → rowV E P v q q 0 = true
  | 0, b => by simp [allV]; intro q h1 h2; omega
  | d + 1, b => by
    rw [allV, Bool.and_eq_true, allV_iff E P v d (b + 1)]
    constructor
    · rintro ⟨h1, h2⟩ q h3 h4
      by_cases e : q = b
      · subst e; exact h1
      · exact h2 q (by omega) (by omega)
    · intro h
      exact ⟨h b (by omega) (by omega), fun q h1 h2 => h q (by omega) (by omega)⟩
theorem anyV_iff (E P : Nat → Nat → Bool) (n : Nat) : ∀ (d v : Nat), anyV E P n d v = true ↔ ∃ q, v ≤ q ∧ q < v + d ∧ allV E P q n 0 = true
  | 0, v => by simp [anyV]; intro q h1 h2; omega
  | d + 1, v => by
    rw [anyV, Bool.or_eq_true, anyV_iff E P n d (v + 1)]
    constructor
    · rintro (h | ⟨q, h1, h2, h3⟩)
      · exact ⟨v, by omega, by omega, h⟩
      · exact ⟨q, by omega, by omega, h3⟩
    · rintro ⟨q, h1, h2, h3⟩
      by_cases e : q = v
      · subst e; exact .inl h3
      · exact .inr ⟨q, by omega, by omega, h3⟩
theorem okV_iff (E P : Nat → Nat → Bool) (v a b : Nat) : okV E P v a b = true ↔ (E a b = true → ((bitH v a ≠ bitH v b) ↔ P a b = true)) := by
  unfold okV
  cases E a b <;> cases hp : P a b <;> by_cases e : bitH v a = bitH v b <;> simp [e]
theorem anyV_valid {n : Nat} {E P : Nat → Nat → Bool} (sE : ∀ a b, a < n → b < n → E a b = E b a) (sP : ∀ a b, a < n → b < n → P a b = P b a) : anyV E P n (2 ^ n) 0 = true ↔ ∃ s, ValidH n E P s := by
  rw [← bits_iff sE sP, anyV_iff]
  constructor
  · rintro ⟨v, _, h1, h2⟩
    refine ⟨v, by omega, fun a b ha hb => ?_⟩
    exact (okV_iff E P v a b).1 ((rowV_iff E P v a a 0).1 ((allV_iff E P v n 0).1 h2 a (by omega) (by omega)) b (by omega) (by omega))
  · rintro ⟨v, h1, h2⟩
    refine ⟨v, by omega, by omega, (allV_iff E P v n 0).2 fun a _ ha => (rowV_iff E P v a a 0).2 fun b _ hb => (okV_iff E P v a b).2 (h2 a b (by omega) (by omega))⟩
theorem shl_small : ∀ n : Fin 9, shl .i64 1 (n.val : Int) = ((2 ^ n.val : Nat) : Int) := by decide +kernel
theorem bit_small : ∀ a : Fin 8, ∀ v : Fin 256, Go.bits .and .i64 (shr .i64 (v.val : Int) (a.val : Int)) 1 = ((bitH v.val a.val : Nat) : Int) := by decide +kernel

section
variable {w : ByteArray} {m : Nat} (h : M.Loop (bytesOf w) m)
include h
theorem draw_l4 (v a : Nat) (hv : v < 2 ^ m) (ha : a < m) (r : Bool) : ∀ (d b : Nat) (g : Bool), b + d = a → Ev (fun k => spec_loDrawn.l3 k w (m : Int) (v : Int) (g && rowV (hvE w) (hvP w) v a d b) ((a : Int) + 1)) r →
    Ev (fun k => spec_loDrawn.l4 k w (m : Int) (v : Int) g (a : Int) (b : Int)) r
  | 0, b, g, hd, hr => by
    have hf := h.few
    refine Ev.step (fun k => by rw [spec_loDrawn.l4]) ?_
    rw [w64 (x := (a : Int) + 1) (by omega) (by omega)]
    refine Ev.neg (by omega) ?_
    simpa [rowV] using hr
  | d + 1, b, g, hd, hr => by
    have hf := h.few
    have hv8 : v < 256 := Nat.lt_of_lt_of_le hv (show 2 ^ m ≤ 2 ^ 8 from Nat.pow_le_pow_right (by omega) hf)
    refine Ev.step (fun k => by rw [spec_loDrawn.l4]) ?_
    have hb1 := bit_small ⟨a, by omega⟩ ⟨v, hv8⟩
    have hb2 := bit_small ⟨b, by omega⟩ ⟨v, hv8⟩
    dsimp only at hb1 hb2
    rw [hb1, hb2, w64 (x := (b : Int) + 1) (by omega) (by omega)]
    have ih := fun g' => draw_l4 v a hv ha r d (b + 1) g' (by omega)
    rw [show (((b + 1 : Nat)) : Int) = (b : Int) + 1 by omega] at ih
    rw [rowV] at hr
    refine Ev.pos (by omega) (Ev.bindk (laced_ij h ha (by omega)) ?_)
    cases hE : hvE w a b with
    | false =>
      refine Ev.neg (by decide) (ih g ?_)
      have : okV (hvE w) (hvP w) v a b = true := by unfold okV; rw [hE]; rfl
      rw [this, Bool.true_and] at hr
      exact hr
    | true =>
      refine Ev.pos rfl (Ev.pos (by omega) (Ev.pos (by omega) (Ev.bindk (both_ij h ha (by omega)) ?_)))
      rw [tmod2]
      have hP := hvP_eq h ha (show b < m by omega)
      generalize bothN (bytesOf w) m (97 + (a : Int)) (97 + (b : Int)) = c at hP ⊢
      have e1 : (((bitH v a : Nat) : Int) != ((bitH v b : Nat) : Int)) = (bitH v a != bitH v b) := by
        rw [Bool.eq_iff_iff, bne_iff_ne, bne_iff_ne]; omega
      have e2 : (((c % 2 : Nat) : Int) == 0) = hvP w a b := by
        rw [hP, Bool.eq_iff_iff, beq_iff_eq, beq_iff_eq]; omega
      rw [e1, e2]
      have hok : okV (hvE w) (hvP w) v a b = ((bitH v a != bitH v b) == hvP w a b) := by unfold okV; rw [hE]; rfl
      rw [hok] at hr
      cases e3 : (bitH v a != bitH v b) == hvP w a b with
      | true =>
        rw [e3, Bool.true_and] at hr
        refine Ev.neg ?_ (ih g hr)
        have := beq_iff_eq.1 e3
        rw [this]
        simp
      | false =>
        rw [e3, Bool.false_and, Bool.and_false] at hr
        refine Ev.pos ?_ (ih false (by rw [Bool.false_and]; exact hr))
        exact bne_iff_ne.2 (beq_eq_false_iff_ne.1 e3)
theorem draw_l3 (v : Nat) (hv : v < 2 ^ m) (r : Bool) : ∀ (d a : Nat) (g : Bool), a + d = m → (if (g && allV (hvE w) (hvP w) v d a) = true then r = true else Ev (fun k => spec_loDrawn.l2 k w (m : Int) ((v : Int) + 1)) r) →
    Ev (fun k => spec_loDrawn.l3 k w (m : Int) (v : Int) g (a : Int)) r
  | 0, a, g, hd, hr => by
    have hf := h.few
    have hv8 : v < 256 := Nat.lt_of_lt_of_le hv (show 2 ^ m ≤ 2 ^ 8 from Nat.pow_le_pow_right (by omega) hf)
    refine Ev.step (fun k => by rw [spec_loDrawn.l3]) (Ev.neg (by omega) ?_)
    refine Ev.step (fun k => by rw [spec_loDrawn.j4]) (Ev.neg (by decide) ?_)
    rw [allV, Bool.and_true] at hr
    cases g with
    | true => exact Ev.pos rfl (Ev.val (by rw [if_pos rfl] at hr; exact hr.symm))
    | false =>
      rw [w64 (x := (v : Int) + 1) (by omega) (by omega)]
      rw [if_neg (by decide)] at hr
      exact Ev.neg (by decide) hr
  | d + 1, a, g, hd, hr => by
    have hf := h.few
    have hv8 : v < 256 := Nat.lt_of_lt_of_le hv (show 2 ^ m ≤ 2 ^ 8 from Nat.pow_le_pow_right (by omega) hf)
    refine Ev.step (fun k => by rw [spec_loDrawn.l3]) (Ev.pos (by omega) ?_)
    refine Ev.step (fun k => by rw [spec_loDrawn.j4]) ?_
    cases g with
    | false =>
      rw [w64 (x := (v : Int) + 1) (by omega) (by omega)]
      rw [Bool.false_and, if_neg (by decide)] at hr
      exact Ev.neg (by decide) (Ev.neg (by decide) hr)
    | true =>
      refine Ev.pos rfl ?_
      refine draw_l4 h v a hv (by omega) r a 0 true (by omega) ?_
      have ih := draw_l3 v hv r d (a + 1) (true && rowV (hvE w) (hvP w) v a a 0) (by omega)
      rw [show (((a + 1 : Nat)) : Int) = (a : Int) + 1 by omega] at ih
      refine ih ?_
      rw [allV, Bool.true_and] at hr
      rw [Bool.true_and]
      exact hr
theorem draw_l2 : ∀ (d v : Nat), v + d = 2 ^ m → Ev (fun k => spec_loDrawn.l2 k w (m : Int) (v : Int)) (anyV (hvE w) (hvP w) m d v)
  | 0, v, hd => by
    have hf := h.few
    have hs := shl_small ⟨m, by omega⟩
    dsimp only at hs
    refine Ev.step (fun k => by rw [spec_loDrawn.l2]) (Ev.pos (by omega) ?_)
    rw [hs]
    exact Ev.neg (by omega) (Ev.val rfl)
  | d + 1, v, hd => by
    have hf := h.few
    have hs := shl_small ⟨m, by omega⟩
    dsimp only at hs
    refine Ev.step (fun k => by rw [spec_loDrawn.l2]) (Ev.pos (by omega) ?_)
    rw [hs]
    refine Ev.pos (by omega) (draw_l3 h v (by omega) _ m 0 true (by omega) ?_)
    rw [Bool.true_and, anyV]
    cases e : allV (hvE w) (hvP w) v m 0 with
    | true => rw [if_pos rfl]; rfl
    | false =>
      rw [if_neg (by decide), Bool.false_or]
      have ih := draw_l2 d (v + 1) (by omega)
      rwa [show (((v + 1 : Nat)) : Int) = (v : Int) + 1 by omega] at ih
/-- Whether no earlier letter keeps a loop from being drawn together with one. -/
def clean1 (w : ByteArray) (a : Nat) : Nat → Nat → Bool
  | 0, _ => true
  | d + 1, b => !(pairBad w b a) && clean1 w a d (b + 1)
def clean0 (w : ByteArray) : Nat → Nat → Bool
  | 0, _ => true
  | d + 1, a => clean1 w a a 0 && clean0 w d (a + 1)
theorem draw_l1 (a : Nat) (ha : a < m) (r : Bool) : ∀ (d b : Nat), b + d = a → (if clean1 w a d b = true then Ev (fun k => spec_loDrawn.l0 k w (m : Int) ((a : Int) + 1)) r else r = false) → Ev (fun k => spec_loDrawn.l1 k w (m : Int) (a : Int) (b : Int)) r
  | 0, b, hd, hr => by
    have hf := h.few
    refine Ev.step (fun k => by rw [spec_loDrawn.l1]) (Ev.neg (by omega) ?_)
    rw [w64 (x := (a : Int) + 1) (by omega) (by omega)]
    rw [clean1, if_pos rfl] at hr
    exact hr
  | d + 1, b, hd, hr => by
    have hf := h.few
    have hbm : b < m := by omega
    have hbad := bad_eq h hbm ha
    rw [decide_eq_true (show b < a by omega), Bool.true_and, symE h hbm ha, symP h hbm ha] at hbad
    have ih := draw_l1 a ha r d (b + 1) (by omega)
    rw [show (((b + 1 : Nat)) : Int) = (b : Int) + 1 by omega] at ih
    refine Ev.step (fun k => by rw [spec_loDrawn.l1]) (Ev.pos (by omega) (Ev.bindk (laced_ij h ha hbm) ?_))
    rw [w64 (x := (b : Int) + 1) (by omega) (by omega)]
    rw [clean1, hbad] at hr
    cases hE : hvE w a b with
    | true =>
      rw [hE] at hr
      exact Ev.pos rfl (ih (by simpa using hr))
    | false =>
      rw [hE] at hr
      refine Ev.neg (by decide) (Ev.bindk (both_ij h ha hbm) ?_)
      rw [tmod2]
      have hP := hvP_eq h ha hbm
      generalize bothN (bytesOf w) m (97 + (a : Int)) (97 + (b : Int)) = c at hP ⊢
      cases hv : hvP w a b with
      | true =>
        rw [hv] at hr hP
        have := beq_iff_eq.1 hP.symm
        exact Ev.pos (by omega) (ih (by simpa using hr))
      | false =>
        rw [hv] at hr hP
        have := beq_eq_false_iff_ne.1 hP.symm
        exact Ev.neg (by omega) (Ev.val (by simpa using hr.symm))
theorem draw_l0 (r : Bool) : ∀ (d a : Nat), a + d = m → (if clean0 w d a = true then r = anyV (hvE w) (hvP w) m (2 ^ m) 0 else r = false) → Ev (fun k => spec_loDrawn.l0 k w (m : Int) (a : Int)) r
  | 0, a, hd, hr => by
    refine Ev.step (fun k => by rw [spec_loDrawn.l0]) (Ev.neg (by omega) ?_)
    rw [clean0, if_pos rfl] at hr
    rw [hr]
    exact draw_l2 h (2 ^ m) 0 (by omega)
  | d + 1, a, hd, hr => by
    refine Ev.step (fun k => by rw [spec_loDrawn.l0]) ?_
    refine Ev.pos (by omega) ?_
    refine draw_l1 h a (by omega) r a 0 (by omega) ?_
    rw [clean0] at hr
    have ih := draw_l0 r d (a + 1) (by omega)
    rw [show (((a + 1 : Nat)) : Int) = (a : Int) + 1 by omega] at ih
    cases e : clean1 w a a 0 with
    | true =>
      rw [e, Bool.true_and] at hr
      rw [if_pos rfl]
      exact ih hr
    | false =>
      rw [e, Bool.false_and, if_neg (by decide)] at hr
      rw [if_neg (by decide)]
      exact hr
end
theorem clean1_iff (w : ByteArray) (a : Nat) : ∀ (d b : Nat), clean1 w a d b = true ↔ ∀ q, b ≤ q → q < b + d → pairBad w q a = false
  | 0, b => by simp [clean1]; intro q h1 h2; omega
  | d + 1, b => by
    rw [clean1, Bool.and_eq_true, clean1_iff w a d (b + 1), Bool.not_eq_true']
    constructor
    · rintro ⟨h1, h2⟩ q h3 h4
      by_cases e : q = b
      · subst e; exact h1
      · exact h2 q (by omega) (by omega)
    · intro h
      exact ⟨h b (by omega) (by omega), fun q h1 h2 => h q (by omega) (by omega)⟩
theorem clean0_iff (w : ByteArray) : ∀ (d a : Nat), clean0 w d a = true ↔ ∀ q, a ≤ q → q < a + d → clean1 w q q 0 = true
  | 0, b => by simp [clean0]; intro q h1 h2; omega
  | d + 1, b => by
    rw [clean0, Bool.and_eq_true, clean0_iff w d (b + 1)]
    constructor
    · rintro ⟨h1, h2⟩ q h3 h4
      by_cases e : q = b
      · subst e; exact h1
      · exact h2 q (by omega) (by omega)
    · intro h
      exact ⟨h b (by omega) (by omega), fun q h1 h2 => h q (by omega) (by omega)⟩
theorem clean_any (w : ByteArray) (n : Nat) : clean0 w n 0 = !(anyBad w n) := by
  have hlt : ∀ i j, pairBad w i j = true → i < j := fun i j h => by
    unfold pairBad at h
    simp only [Bool.and_eq_true, decide_eq_true_eq] at h
    exact h.1.1
  cases e : anyBad w n with
  | false =>
    refine (clean0_iff w n 0).2 fun a _ ha => (clean1_iff w a a 0).2 fun b _ hb => ?_
    cases hb2 : pairBad w b a with
    | false => rfl
    | true => rw [anyBad_some (by omega) (by omega) hb2] at e; cases e
  | true =>
    cases e2 : clean0 w n 0 with
    | false => rfl
    | true =>
      exfalso
      have : anyBad w n = false := anyBad_none fun i j hi hj => by
        cases hb : pairBad w i j with
        | false => rfl
        | true =>
          have := (clean1_iff w j j 0).1 ((clean0_iff w n 0).1 e2 j (by omega) (by omega)) i (by omega) (by have := hlt i j hb; omega)
          rw [hb] at this
          cases this
      rw [e] at this
      cases this
/-- Whether a loop can be drawn. -/
def drawnL (w : ByteArray) (m : Nat) : Bool := evR (bytesOf w) m m 97 && !(anyBad w m) && anyV (hvE w) (hvP w) m (2 ^ m) 0
theorem loDrawn_ev {w : ByteArray} {m : Nat} (h : M.Loop (bytesOf w) m) : Ev (fun k => spec_loDrawn.f k w) (drawnL w m) := by
  have hl := bytesOf_length w
  have hlen := h.len
  have hf := h.few
  unfold spec_loDrawn.f drawnL
  refine Ev.bindk (loEven_ev h) ?_
  cases e : evR (bytesOf w) m m 97 with
  | false => exact Ev.neg (by decide) (Ev.val rfl)
  | true =>
    refine Ev.pos rfl ?_
    rw [w64 (x := (w.size : Int) / 2) (by omega) (by omega), show (w.size : Int) / 2 = (m : Int) by omega]
    refine draw_l0 h _ m 0 (by omega) ?_
    rw [clean_any, Bool.true_and]
    cases anyBad w m <;> simp
theorem canBeDrawn_ev {w : ByteArray} {m : Nat} (h : M.Loop (bytesOf w) m) : Ev (fun k => impl_canBeDrawn.f k w) (drawnL w m) := by
  have hl := bytesOf_length w
  have hlen := h.len
  have hf := h.few
  have hm : w.size / 2 = m := by omega
  unfold impl_canBeDrawn.f drawnL
  refine Ev.bindc (isEven_eq h) ?_
  cases e : evR (bytesOf w) m m 97 with
  | false => exact Ev.neg (by decide) (Ev.val rfl)
  | true =>
    have hok : okAll w = true := by
      unfold okAll
      rw [hm, Bool.and_eq_true, decide_eq_true_eq, List.all_eq_true]
      refine ⟨by omega, fun c hc => ?_⟩
      have := (mem_abc m c).1 hc
      exact (interlacedWith_eq h this.1 this.2).1
    refine Ev.pos rfl (Ev.pos hok ?_)
    rw [hm]
    cases ea : anyBad w m with
    | true => exact Ev.pos rfl (Ev.val rfl)
    | false =>
      refine Ev.neg (by decide) ?_
      obtain ⟨b, hb1, hb2⟩ := search_ok (n := m) (E := hvE w) (P := hvP w) (by omega) (fun i j hi hj => symE h hi hj) (fun i j hi hj => symP h hi hj)
      have hbv : anyV (hvE w) (hvP w) m (2 ^ m) 0 = b := by
        rw [Bool.eq_iff_iff, anyV_valid (fun i j hi hj => symE h hi hj) (fun i j hi hj => symP h hi hj), hb2]
      rw [hbv]
      obtain ⟨Z, hZ⟩ := hb1
      refine ⟨Z, fun k hk => ?_⟩
      have := hZ k hk
      unfold impl_haveHalves.f
      simp only [hok, if_true, hm]
      rw [Nat.sub_zero] at this
      rw [this]
      rfl
end Go.Proofs.YtkfllbbpclgffaaDoor.M

/- CanBeDrawn: the plain law. -/
namespace Go.Proofs.YtkfllbbpclgffaaDoor.Pure
open Go.RowKit Go.Proofs.YtkfllbbpclgffaaDoor.Pr Go.Proofs.YtkfllbbpclgffaaDoorW.PrintWords Go.Proofs.YtkfllbbpclgffaaDoorW.PrintLast Go.Proofs.YtkfllbbpclgffaaDoor.M
set_option linter.unusedVariables false

def drawR (w : ByteArray) : Bool × Bool := if goodS w = true then (drawnL w (w.size / 2), true) else (false, false)
theorem FnExactCanBeDrawn : ∀ (a0 : ByteArray), a0.size ≤ 140737488351232 → ∃ k, laws_FnExactCanBeDrawn.f k a0 = some true := by
  intro w _
  refine Ev.rounds ?_
  unfold laws_FnExactCanBeDrawn.f
  by_cases hb : (w.size : Int) > 1048576
  · exact Ev.pos hb (Ev.val rfl)
  · have hs : Ev (fun k => spec_CanBeDrawn.f k w) (drawR w) := by
      unfold spec_CanBeDrawn.f
      refine Ev.bindk (loGood_ev w) ?_
      by_cases h : goodS w = true
      · obtain ⟨m, hm⟩ := loop_of h
        have hl := bytesOf_length w
        have hlen := hm.len
        refine Ev.pos h ?_
        rw [drawR, if_pos h, show w.size / 2 = m by omega]
        exact Ev.bindk (loDrawn_ev hm) (Ev.val rfl)
      · refine Ev.neg h (Ev.val ?_)
        rw [drawR, if_neg h]
    have hi : Ev (fun k => impl_CanBeDrawn.f k w) (drawR w) := by
      unfold impl_CanBeDrawn.f
      refine Ev.bindk (isLoop_ev w) ?_
      by_cases h : goodS w = true
      · obtain ⟨m, hm⟩ := loop_of h
        have hl := bytesOf_length w
        have hlen := hm.len
        refine Ev.pos h ?_
        rw [drawR, if_pos h, show w.size / 2 = m by omega]
        exact Ev.bindk (canBeDrawn_ev hm) (Ev.val rfl)
      · refine Ev.neg h (Ev.val ?_)
        rw [drawR, if_neg h]
    refine Ev.neg hb (Ev.bindk hs (Ev.bindk hi ?_))
    exact Ev.neg (by simp) (Ev.neg (by simp) (Ev.val rfl))
end Go.Proofs.YtkfllbbpclgffaaDoor.Pure

/- Shared steps of the rows: an argument that is a slice of structs of whole numbers, read as a list of lists of numbers. -/
namespace Go.Proofs.YtkfllbbpclgffaaDoor.RowA
open Go.ChangeShapes Go.WideShapes Go.Deep Go.RowKit Go.Proofs.YtkfllbbpclgffaaDoorW.PrintWords
section
variable {H : Type} {enc : TypeId × Value → H} {P : Program} {w : World} {base : Nat} {spare : Nat → Bool} {held : Bool}

/-- A slice of structs whose fields are one cell each: nil, or an address with, for each element and each field, the cell and the field's own reading. -/
theorem open_cells {t e : TypeId} {fs : Array Field} {fuel : Nat} {cs : List Value} {x : DataW H × List MemPlace} (ht : P.underlying t = some (.slice e)) (he : P.underlying e = some (.struct fs))
    (hone : oneCellFields P fs = true) (hC : P.cellsOf e = fs.size) (h : DataW.trod enc P w base spare held fuel t cs = some x) :
    cs = [.slice none 0 0] ∨
    ∃ (a : Addr) (len cap : Nat), cs = [.slice (some a) len cap] ∧ len ≤ cap ∧ cap ≤ maxLen ∧
      ∀ i, i < len → ∃ n, ∀ (j : Nat) (f : Field), fs[j]? = some f → ∃ (v : Value) (y : DataW H × List MemPlace), w.cell? (a.add (i * fs.size + j)) = some v ∧ DataW.trod enc P w base spare held n f.type [v] = some y := by
  rcases open_slice ht h with h0 | ⟨a, len, cap, m, n, D, Pl, hcs, hb, hl, hm, hmm, hx, hi⟩
  · exact .inl h0.1
  · refine .inr ⟨a, len, cap, hcs, hl, hm, fun i hil => ?_⟩
    have him : i < m := by
      rw [hmm]
      split
      · omega
      · exact hil
    obtain ⟨cs', hc, ht'⟩ := hi i him
    rw [hC] at hc
    obtain ⟨ys, n', hn', hy, hlen, hyl, hf⟩ := DataW.trod_struct he ht'
    obtain ⟨_, hcl, hat⟩ := World.cells?_some hc
    refine ⟨n', fun j f hj => ?_⟩
    obtain ⟨ho, hk⟩ := hone_of hone j f hj
    have hjl : j < fs.size := (Array.getElem?_eq_some_iff.1 hj).1
    have hcell := hat j hjl
    have hv : cs'[j]? = some (cs'[j]'(by omega)) := List.getElem?_eq_getElem (by omega)
    have h1 := hf j f hj
    rw [ho, hk] at h1
    have hone' : (cs'.drop j).take 1 = [cs'[j]'(by omega)] := by
      rw [List.drop_eq_getElem_cons (by omega)]
      rfl
    rw [hone'] at h1
    have hys : ys[j]? = some (ys[j]'(by omega)) := List.getElem?_eq_getElem (by omega)
    refine ⟨_, _, ?_, h1.trans hys⟩
    rw [← Go.Deep.add_add, hcell, hv]

/-- One whole number's reading. -/
theorem read_i64 {t : TypeId} {n : Nat} {v : Value} {y : DataW H × List MemPlace} (hu : P.underlying t = some (.int .i64)) (h : DataW.trod enc P w base spare held n t [v] = some y) :
    ∃ z : Int, v = .int .i64 z ∧ (Lit.int .i64 z).wf = true := by
  obtain ⟨z, hz, _, hw⟩ := DataW.trod_int hu h
  simp at hz
  exact ⟨z, hz, hw⟩

/-- A slice of structs of m whole numbers, as it is handed over: the numbers by element and field. -/
theorem open_nums {t e : TypeId} {fs : Array Field} {a : Option Addr} {len cap : Nat} {d : DataW H} {ps : List MemPlace} (ht : P.underlying t = some (.slice e)) (he : P.underlying e = some (.struct fs))
    (hone : oneCellFields P fs = true) (hC : P.cellsOf e = fs.size) (hi : ∀ (j : Nat) (f : Field), fs[j]? = some f → P.underlying f.type = some (.int .i64))
    (h : DataW.Trod enc P w base spare held t (.slice a len cap) d ps) :
    len ≤ cap ∧ len ≤ maxLen ∧ ∃ z : Nat → Nat → Int, (∀ i j, i < len → j < fs.size → (Lit.int .i64 (z i j)).wf = true) ∧
      (0 < len → ∃ ad, a = some ad ∧ ∀ i j, i < len → j < fs.size → w.cell? (ad.add (i * fs.size + j)) = some (.int .i64 (z i j))) := by
  obtain ⟨fuel, hf⟩ := h
  rcases open_cells ht he hone hC hf with hcs | ⟨x, l, c, hcs, hl, hm, hcell⟩
  · simp [Value.cells] at hcs
    obtain ⟨rfl, rfl, rfl⟩ := hcs
    exact ⟨Nat.le_refl _, Nat.zero_le _, fun _ _ => 0, fun i j h => absurd h (Nat.not_lt_zero _), fun h => absurd h (Nat.not_lt_zero _)⟩
  · simp [Value.cells] at hcs
    obtain ⟨rfl, rfl, rfl⟩ := hcs
    refine ⟨hl, Nat.le_trans hl hm, ?_⟩
    have hz : ∀ i j, ∃ z : Int, i < len → j < fs.size → w.cell? (x.add (i * fs.size + j)) = some (.int .i64 z) ∧ (Lit.int .i64 z).wf = true := by
      intro i j
      by_cases h1 : i < len
      · by_cases h2 : j < fs.size
        · obtain ⟨n, hn⟩ := hcell i h1
          obtain ⟨v, y, hv, hy⟩ := hn j fs[j] (Array.getElem?_eq_getElem h2)
          obtain ⟨z, rfl, hw⟩ := read_i64 (hi j fs[j] (Array.getElem?_eq_getElem h2)) hy
          exact ⟨z, fun _ _ => ⟨hv, hw⟩⟩
        · exact ⟨0, fun _ h => absurd h h2⟩
      · exact ⟨0, fun h _ => absurd h h1⟩
    exact ⟨fun i j => (hz i j).choose, fun i j h1 h2 => ((hz i j).choose_spec h1 h2).2, fun _ => ⟨x, rfl, fun i j h1 h2 => ((hz i j).choose_spec h1 h2).1⟩⟩
/-- The same, of one reading. -/
theorem open_nums_at {t e : TypeId} {fs : Array Field} {a : Option Addr} {len cap fuel : Nat} {x : DataW H × List MemPlace} (ht : P.underlying t = some (.slice e)) (he : P.underlying e = some (.struct fs))
    (hone : oneCellFields P fs = true) (hC : P.cellsOf e = fs.size) (hi : ∀ (j : Nat) (f : Field), fs[j]? = some f → P.underlying f.type = some (.int .i64))
    (hf : DataW.trod enc P w base spare held fuel t [.slice a len cap] = some x) :
    len ≤ cap ∧ len ≤ maxLen ∧ ∃ z : Nat → Nat → Int, (∀ i j, i < len → j < fs.size → (Lit.int .i64 (z i j)).wf = true) ∧
      (0 < len → ∃ ad, a = some ad ∧ ∀ i j, i < len → j < fs.size → w.cell? (ad.add (i * fs.size + j)) = some (.int .i64 (z i j))) :=
  open_nums (d := x.1) (ps := x.2) ht he hone hC hi ⟨fuel, by simpa [Value.cells] using hf⟩

/-- A struct of one slice. -/
theorem open_one {r : Reach} {b0 : Nat} {t e : TypeId} {f0 : Field} {v : Value} {d : DataW H} {p : List MemPlace} (hs : P.underlying t = some (.struct #[f0])) (hf0 : P.underlying f0.type = some (.slice e)) (hone : oneCellFields P #[f0] = true) (hC : P.cellsOf t = 1)
    (hv : Value.okWide P w r b0 t v) (h : DataW.Trod enc P w base spare held t v d p) :
    ∃ (a : Option Addr) (len cap : Nat) (y : DataW H × List MemPlace) (n : Nat), v = .agg #[.slice a len cap] ∧ DataW.trod enc P w base spare held n f0.type [.slice a len cap] = some y := by
  obtain ⟨cs, rfl, hsz⟩ := okWide_struct hs hv
  rw [hC] at hsz
  obtain ⟨c0, rfl⟩ : ∃ c, cs = #[c] := Array.size_eq_one_iff.mp hsz
  obtain ⟨fuel, hf⟩ := h
  obtain ⟨ys, n', hn', hy, hlen, hyl, hg⟩ := DataW.trod_struct hs hf
  obtain ⟨o0, k0⟩ := hone_of hone 0 f0 rfl
  have h1 := hg 0 f0 rfl
  rw [o0, k0] at h1
  have hv1 : (List.drop 0 (Value.agg #[c0]).cells.toList).take 1 = [c0] := rfl
  have h2 : DataW.trod enc P w base spare held n' f0.type [c0] = ys[0]? := h1
  have hys : ys[0]? = some (ys[0]'(by rw [hyl]; exact Nat.zero_lt_one)) := List.getElem?_eq_getElem _
  rw [hys] at h2
  rcases open_slice hf0 h2 with h0 | ⟨a, len, cap, m, n, D, Pl, hcs, _⟩
  · have := h0.1
    simp at this
    subst this
    exact ⟨none, 0, 0, _, n', rfl, h2⟩
  · simp at hcs
    subst hcs
    exact ⟨some a, len, cap, _, n', rfl, h2⟩
end
end Go.Proofs.YtkfllbbpclgffaaDoor.RowA

/- The row of the law FnExactCanBeDrawn: The program's CanBeDrawn returns what the reference's returns, for all arguments. -/
namespace Go.Proofs.YtkfllbbpclgffaaDoor.fnExactCanBeDrawn
open Go.ChangeShapes Go.WideShapes Go.ChangeAt Go.RowKit Go.Proofs.YtkfllbbpclgffaaDoor.Pr Go.Proofs.YtkfllbbpclgffaaDoorW.PrintWords
open Go.ChangeMaps (open_string shut_string)
set_option linter.unusedVariables false
theorem own : ownKnob Tryd.prog.godebug = none := by kernel_rfl
set_option maxRecDepth 100000 in
theorem lifted (os : Os) (started : os.Started) (H : Type) (enc : TypeId × Value → H) :
    ReturnsInHanded {} Tryd.checked os 7 .any (fun w args => (Rows.fnExactCanBeDrawnSpec.pre enc Tryd.prog Tryd.f7 [] false w args ∧ laidMetH Tryd.prog Rows.fnExactCanBeDrawnRow.laid w) ∧ sizedMet enc Tryd.prog Tryd.f7 (OpenSpec.ofChange Rows.fnExactCanBeDrawnSpec) false w args) (Rows.fnExactCanBeDrawnSpec.post enc Tryd.prog Tryd.f7 false true false false) := by
  refine returnsInHanded_of_change_and (C := Tryd.checked) (X := fun w _ => laidMetH Tryd.prog Rows.fnExactCanBeDrawnRow.laid w) (fun _ _ _ hh h => h.of_heap hh) own started (by kernel_rfl) Tryd.func7
    (ChangeSpec.witness_shaped (enc := enc) (C := Tryd.checked) (os := os) (X := fun w _ => laidMetH Tryd.prog Rows.fnExactCanBeDrawnRow.laid w) false (World.laidAll Tryd.prog os Rows.fnExactCanBeDrawnRow.laid) #[.string ByteArray.empty] 8 (World.laidAll_os _ _ _)
      (World.shaped_of_ZipB (by kernel_rfl) (by kernel_rfl)) (by kernel_rfl) (by kernel_rfl) (by kernel_rfl)
      (by rw [MakeChecks.laidMetH_plain _ _ _ (by kernel_rfl)]; exact laidMet_laidAll _ (by kernel_rfl) (by kernel_rfl))) ?_
  intro W base args ds gs before hval0 hW hcnd hsz0 hlaid _
  have hsz : (DataW.weightsEach Tryd.prog (Tryd.f7.params.toList ++ Rows.fnExactCanBeDrawnSpec.plain.varTypes Tryd.prog) (ds ++ gs)).all (· ≤ reachBytes) = true := hsz0
  have hval : ∀ (j : Nat) t v, Tryd.f7.params[j]? = some t → args[j]? = some v → Value.okWide Tryd.prog W .any base t v := hval0
  have hW' := hW
  obtain ⟨p, q, hA0, hV, rfl, hfz, hnd⟩ := hW
  have hA : DataW.TrodAll enc Tryd.prog W 0 (fun _ => true) true Tryd.f7.params.toList args.toList ds p := hA0
  rw [Tryd.params7] at hA hval hsz
  obtain ⟨v0, vs0, d0, ds0, p0, q0, hargs, rfl, rfl, h0, r0⟩ := trodAll_cons hA
  obtain ⟨rfl, rfl, rfl⟩ := trodAll_nil r0
  obtain rfl : args = #[v0] := by cases args; simp_all
  obtain ⟨rfl, rfl⟩ := trodVars_none hV
  obtain ⟨a0, rfl, rfl, rfl, y0⟩ := open_string Tryd.underlying9 (hval 0 9 v0 rfl rfl) h0
  have w0 : a0.size ≤ 140737488351232 := by
    have z := sized_string hsz (j := 0) (t := 9) rfl rfl
    rw [Array.length_toList] at z
    exact z
  clear hA0 hval0 hsz0 hsz
  obtain ⟨k, hk⟩ := Pure.FnExactCanBeDrawn a0 w0
  refine (laws_FnExactCanBeDrawn.calls k a0 true W  hk).mono fun e W' he => ?_
  obtain ⟨he, bel0⟩ := he
  have bel : Below W.heap.size W W' := bel0
  subst he
  exact ⟨_, rfl, _, _, _, [], _, [], hW', trodAll_mk1 (shut_bool Tryd.underlying4 _), (trodAll_cons_mk (shut_string Tryd.underlying9 y0) trodAll_mk0), rfl, bel.frame _, fun h => by cases h⟩
theorem over : Rows.fnExactCanBeDrawnRow.holds Tryd.pinned (OpenSpec.ofChange Rows.fnExactCanBeDrawnSpec) :=
  OpenClaim.holds_of_wide 7 Tryd.f7 rfl rfl rfl rfl rfl rfl rfl ⟨rfl, rfl, rfl, rfl, rfl⟩ rfl rfl rfl rfl rfl (by kernel_rfl) Tryd.func7 (by kernel_rfl)
    (of_decide_eq_true (by kernel_rfl)) (by unfold Func.isWrapper; first | (rw [if_pos (by decide +kernel)]; kernel_rfl) | (rw [if_neg (by decide +kernel)]; exact ⟨rfl, rfl⟩))
    (fun os started H enc _ => lifted os started H enc)
theorem proved : Rows.FnExactCanBeDrawnSaid := over
theorem card_holds : Rows.FnExactCanBeDrawnCardSaid :=
  Claim7.holds_tied_plain_at .later [] [.data, .pinned] true (true, "31d9a1dc8ffde667586e844323c58886a518d04f40daedfe91c3de4547a48eb1") false
    proved (fun _ h => by cases h) (by kernel_rfl) (fun _ h => by cases h) fnExactCanBeDrawn_row_tie rfl ⟨rfl, rfl⟩ (by kernel_rfl) rfl
    (fun f fn hf hfn => by
      obtain rfl : f = 7 := Option.some.inj ((show Tryd.prog.funcNamed Rows.fnExactCanBeDrawnRow.func = some 7 by kernel_rfl).symm.trans hf) |>.symm
      obtain rfl : fn = Tryd.f7 := (Option.some.inj (Tryd.func7.symm.trans hfn)).symm
      exact ⟨by kernel_rfl, fun j t ht => by
        rw [Tryd.params7] at ht
        have hm : t ∈ [9] := by simpa using Array.mem_of_getElem? ht
        have hall : ([9].all fun u => !Tryd.prog.wantsStandIn u) = true := by kernel_rfl
        exact (show Tryd.prog.wantsStandIn t = false by simpa using List.all_eq_true.1 hall t hm)⟩)
    (by kernel_rfl)
end Go.Proofs.YtkfllbbpclgffaaDoor.fnExactCanBeDrawn
namespace Go.Proofs.YtkfllbbpclgffaaDoor
/-- The row, under a short name, for the claim. -/
theorem fnExactCanBeDrawn_holds : Rows.FnExactCanBeDrawnCardSaid := fnExactCanBeDrawn.card_holds
#print axioms fnExactCanBeDrawn_holds
end Go.Proofs.YtkfllbbpclgffaaDoor
