/- Loops are ranked in order, all of them are told and those that can be drawn counted, and joined loops are drawn if both are. (Part 2 of 6.) -/
import Derived.Test.YtcgoaipbfnhjhaaGreatDoorProg
import Derived.Below
import Derived.Deep.Draws
import Derived.Deep.AppendLies
import Derived.Maps.AppendAt
import Derived.OwnWalk
import Derived.Laws.BytesArg
import Derived.Laws.MakeOwn
import Derived.Laws.OwnMore
import Derived.Deep.OwnRows
import Derived.Tactics
import Derived.Lib.ConvBytes
import Derived.Laws.Slices
import Derived.WalkKit
import Derived.KernelRfl
import Derived.RowKit3
import Derived.Deep.LoopGhost
import Derived.Deep.QuietTactic
import Derived.BigQuiet
import Derived.WideLaws
import Derived.Deep.DeepCutAuto
import Derived.Deep.CutBlock
import Derived.Deep.RegionHeld3
import Derived.Laws.Rows
import Derived.Lib.AppendStr
import Derived.ArgAppend
import Derived.Laws.IdiomCopy
import Derived.OrdersHeld
import Derived.Laws.BitsLemmas
import Derived.RowKit
import Derived.Shelf.Abstract
import Derived.Laws.Strings
import Derived.Shelf.Small.Strs
import Derived.Ground.NamesProg
import Derived.Shelf.Strings.LastIndex
import Derived.Shelf.Strings.Count
import Derived.Shelf.Strings.Search3
import Derived.Shelf.Strings.SlTrimAscii
import Derived.IntWalk
import Derived.Test.YtcgoaipbfnhjhaaGreatDoorKFnLoopsListed0
-- Written by a program for this claim.
namespace Go.Proofs.YtcgoaipbfnhjhaaGreatDoor.Pr
open Go.RowKit Go.Proofs.YtcgoaipbfnhjhaaGreatDoorW.PrintWords Go.Proofs.YtcgoaipbfnhjhaaGreatDoorW.PrintLast Go.Proofs.YtcgoaipbfnhjhaaGreatDoorW.PrintMore
attribute [local go_sem] max2_int min2_int max_two min_two max_three min_three max_four min_four   -- for this text's walks alone
set_option linter.unusedVariables false
set_option linter.unusedSimpArgs false



def errW : Option Int → Value
  | none => .nilIface
  | some c => .iface 0 (.int .i64 c)
theorem errW_none : errW none = .nilIface := rfl
theorem errW_some (c : Int) : errW (some c) = .iface 0 (.int .i64 c) := rfl

theorem info3 : (Tryz.prog.info? 3).map (fun i => (i.zero, i.size, i.bytes)) = some (some (.int .i64 0), 1, 8) := by kernel_rfl
theorem info5 : (Tryz.prog.info? 5).map (fun i => (i.zero, i.size, i.bytes)) = some (some (.int .u8 0), 1, 1) := by kernel_rfl
theorem info9 : (Tryz.prog.info? 9).map (fun i => (i.zero, i.size, i.bytes)) = some (some (.string ⟨#[]⟩), 1, 16) := by kernel_rfl
-- the values' own types
def rd_L4 (xs : List (List Int)) (i : Int) : (List Int) := xs.getD i.toNat ([] : List Int)
theorem at_L4 {w : World} {A : Option Addr} {n : Nat} {xs : List (List Int)} (h : Kd.C (Kd.slice 5 (Kd.int .u8)) w A n xs) (i : Int) (h0 : 0 ≤ i) (h1 : i < n) : ∃ ad A0 c0, A = some ad ∧ w.cell? (ad.add i.toNat) = some (.slice A0 (rd_L4 xs i).length c0) ∧ (rd_L4 xs i).length ≤ c0 ∧ (Kd.int .u8).C w A0 (rd_L4 xs i).length (rd_L4 xs i) := by
  obtain ⟨ad, c, e, _, hK, hc0⟩ := Kd.C_get h ([] : List Int) i h0 h1
  have hc : ∀ j u, c[j]? = some u → w.cell? (ad.add (i.toNat * 1 + j)) = some u := hc0
  obtain ⟨A0, c0, rfl, l0, g0⟩ := hK
  exact ⟨ad, A0, c0, e, by have hq := hc 0 _ rfl; rwa [Nat.mul_one, Nat.add_zero] at hq, l0, g0⟩

def rd_L5 (xs : List (List Int)) (i : Int) : (List Int) := xs.getD i.toNat ([] : List Int)
theorem at_L5 {w : World} {A : Option Addr} {n : Nat} {xs : List (List Int)} (h : Kd.C (Kd.slice 3 (Kd.int .i64)) w A n xs) (i : Int) (h0 : 0 ≤ i) (h1 : i < n) : ∃ ad A0 c0, A = some ad ∧ w.cell? (ad.add i.toNat) = some (.slice A0 (rd_L5 xs i).length c0) ∧ (rd_L5 xs i).length ≤ c0 ∧ (Kd.int .i64).C w A0 (rd_L5 xs i).length (rd_L5 xs i) := by
  obtain ⟨ad, c, e, _, hK, hc0⟩ := Kd.C_get h ([] : List Int) i h0 h1
  have hc : ∀ j u, c[j]? = some u → w.cell? (ad.add (i.toNat * 1 + j)) = some u := hc0
  obtain ⟨A0, c0, rfl, l0, g0⟩ := hK
  exact ⟨ad, A0, c0, e, by have hq := hc 0 _ rfl; rwa [Nat.mul_one, Nat.add_zero] at hq, l0, g0⟩

end Go.Proofs.YtcgoaipbfnhjhaaGreatDoor.Pr

-- Written by a program for this claim.
namespace Go.Proofs.YtcgoaipbfnhjhaaGreatDoor.Pr
open Go.RowKit Go.Proofs.YtcgoaipbfnhjhaaGreatDoorW.PrintWords Go.Proofs.YtcgoaipbfnhjhaaGreatDoorW.PrintLast Go.Proofs.YtcgoaipbfnhjhaaGreatDoorW.PrintMore
attribute [local go_sem] max2_int min2_int max_two min_two max_three min_three max_four min_four   -- for this text's walks alone
set_option linter.unusedVariables false
set_option linter.unusedSimpArgs false

/-- A state of type 54 at block g of W; what its slices lead to came in by w0. -/
def IsS54 (w0 W : World) (g : Nat) (f0 : List Int) (f1 : Int) (f2 : Int) : Prop := ∃ A0 c0, W.heap[g]? = some (.cells #[.slice A0 f0.length c0, .int .i64 f1, .int .u64 f2] 54 (0, 0)) ∧ w0.heap.size ≤ g ∧ Kd.C (Kd.int .u8) w0 A0 f0.length f0
theorem IsS54.grown {w0 W : World} {g : Nat} {f0 : List Int} {f1 : Int} {f2 : Int} {W1 : World} {row : Option Nat} (h : IsS54 w0 W g f0 f1 f2) (hw : W.grownBy W1 row) (hne : some g ≠ row) : IsS54 w0 W1 g f0 f1 f2 := by
  obtain ⟨A0, c0, hb, hg, hr0⟩ := h
  exact ⟨A0, c0, blk_grown hb hw hne, hg, hr0⟩
theorem IsS54.own_neN {w0 W : World} {g : Nat} {f0 : List Int} {f1 : Int} {f2 : Int} {α : Type} {d : Kd α} {e : Nat} {base : Nat} {ok : Nat → Prop} {v : Value} {xs : List α} (h : IsS54 w0 W g f0 f1 f2) (ho : Kd.N d e W base ok v xs) (ht : e ≠ 54) : some g ≠ v.ownBlock := by
  obtain ⟨A0, c0, hb, hg, hr0⟩ := h
  exact Kd.N_ne ho hb ht
theorem IsS54.fresh {w0 W : World} {g : Nat} {f0 : List Int} {f1 : Int} {f2 : Int} (h : IsS54 w0 W g f0 f1 f2) : ∀ k, W.heap.size ≤ k → k ≠ g := by
  obtain ⟨A0, c0, hb, hg, hr0⟩ := h
  exact Kd.freshB hb
theorem IsS54.kept {w0 W : World} {g : Nat} {f0 : List Int} {f1 : Int} {f2 : Int} {W1 : World} {S : Nat → Prop} (h : IsS54 w0 W g f0 f1 f2) (hk : Kept W W1 S) (hne : ¬ S g) : IsS54 w0 W1 g f0 f1 f2 := by
  obtain ⟨A0, c0, hb, hg, hr0⟩ := h
  exact ⟨A0, c0, blk_kept hb hk hne, hg, hr0⟩
theorem IsS54.below {w0 W : World} {g : Nat} {f0 : List Int} {f1 : Int} {f2 : Int} {W1 : World} (h : IsS54 w0 W g f0 f1 f2) (hw : Below W.heap.size W W1) : IsS54 w0 W1 g f0 f1 f2 := h.grown (grown_of_below hw none) (by simp)
theorem IsS54.alloc {w0 W : World} {g : Nat} {f0 : List Int} {f1 : Int} {f2 : Int} (h : IsS54 w0 W g f0 f1 f2) (o : Obj) : IsS54 w0 (W.alloc o) g f0 f1 f2 := h.below (below_alloc (Below.refl _ _) o)
theorem IsS54.drewN {w0 W : World} {g : Nat} {f0 : List Int} {f1 : Int} {f2 : Int} (h : IsS54 w0 W g f0 f1 f2) (m : Nat) : IsS54 w0 (W.drewN m) g f0 f1 f2 := h
theorem IsS54.drew {w0 W : World} {g : Nat} {f0 : List Int} {f1 : Int} {f2 : Int} (h : IsS54 w0 W g f0 f1 f2) : IsS54 w0 W.drew g f0 f1 f2 := h
theorem IsS54.at_ {w0 W : World} {g : Nat} {f0 : List Int} {f1 : Int} {f2 : Int} {w' : World} {m : Nat} (hq : W.drewN m = w') (h : IsS54 w0 W g f0 f1 f2) : IsS54 w0 w' g f0 f1 f2 := by subst hq; exact IsS54.drewN h m
theorem IsS54.apart {w0 W : World} {g : Nat} {f0 : List Int} {f1 : Int} {f2 : Int} {α : Type} {d : Kd α} {e : Nat} {base : Nat} {ok : Nat → Prop} {v : Value} {xs : List α} (h : IsS54 w0 W g f0 f1 f2) (ho : d.R e W base ok v xs) (ht : ∀ q, q ∈ e :: d.E → q ≠ 54) : d.R e W base (fun k => ok k ∧ k ≠ g) v xs := by
  obtain ⟨A0, c0, hb, hg, hr0⟩ := h
  exact Kd.R_types ho hb ht
theorem IsS54.own_ne {w0 W : World} {g : Nat} {f0 : List Int} {f1 : Int} {f2 : Int} {α : Type} {d : Kd α} {e : Nat} {base : Nat} {ok : Nat → Prop} {v : Value} {xs : List α} (h : IsS54 w0 W g f0 f1 f2) (ho : d.R e W base ok v xs) (ht : e ≠ 54) : some g ≠ v.ownBlock := by
  obtain ⟨A0, c0, hb, hg, hr0⟩ := h
  exact Kd.R_ne ho hb ht
theorem IsS54.apartQ {w0 W : World} {g : Nat} {f0 : List Int} {f1 : Int} {f2 : Int} {α : Type} {d : Kd α} {e : Nat} {base : Nat} {ok : Nat → Prop} {v : Value} {xs : List α} (h : IsS54 w0 W g f0 f1 f2) (ho : d.Q e W base ok v xs) (ht : ∀ q, q ∈ e :: d.E → q ≠ 54) : d.Q e W base (fun k => ok k ∧ k ≠ g) v xs := by
  obtain ⟨A0, c0, hb, hg, hr0⟩ := h
  exact Kd.Q_types ho hb ht
theorem IsS54.own_neQ {w0 W : World} {g : Nat} {f0 : List Int} {f1 : Int} {f2 : Int} {α : Type} {d : Kd α} {e : Nat} {base : Nat} {ok : Nat → Prop} {v : Value} {xs : List α} (h : IsS54 w0 W g f0 f1 f2) (ho : d.Q e W base ok v xs) (ht : e ≠ 54) : some g ≠ v.ownBlock := by
  obtain ⟨A0, c0, hb, hg, hr0⟩ := h
  exact Kd.Q_ne ho hb ht
theorem IsS54.apartS {w0 W : World} {g : Nat} {f0 : List Int} {f1 : Int} {f2 : Int} {α : Type} {d : Kd α} {e : Nat} {base : Nat} {ok : Nat → Prop} {v : Value} {xs : List α} (h : IsS54 w0 W g f0 f1 f2) (ho : d.S e W base ok v xs) (ht : ∀ q, q ∈ e :: d.E → q ≠ 54) : d.S e W base (fun k => ok k ∧ k ≠ g) v xs := by
  obtain ⟨A0, c0, hb, hg, hr0⟩ := h
  exact Kd.S_types ho hb ht
theorem IsS54.own_neS {w0 W : World} {g : Nat} {f0 : List Int} {f1 : Int} {f2 : Int} {α : Type} {d : Kd α} {e : Nat} {base : Nat} {ok : Nat → Prop} {v : Value} {xs : List α} (h : IsS54 w0 W g f0 f1 f2) (ho : d.S e W base ok v xs) (ht : e ≠ 54) : some g ≠ v.ownBlock := by
  obtain ⟨A0, c0, hb, hg, hr0⟩ := h
  exact Kd.S_ne ho hb ht
theorem IsS54.lt {w0 W : World} {g : Nat} {f0 : List Int} {f1 : Int} {f2 : Int} (h : IsS54 w0 W g f0 f1 f2) : g < W.heap.size := by
  obtain ⟨A0, c0, hb, hg, hr0⟩ := h
  exact blk_lt hb
theorem IsS54.ge {w0 W : World} {g : Nat} {f0 : List Int} {f1 : Int} {f2 : Int} (h : IsS54 w0 W g f0 f1 f2) : w0.heap.size ≤ g := by
  obtain ⟨A0, c0, hb, hg, hr0⟩ := h
  exact hg
theorem IsS54.ne_blk {w0 W : World} {g : Nat} {f0 : List Int} {f1 : Int} {f2 : Int} {a : Nat} {cs : Array Value} {t : TypeId} {fr : Nat × Nat} (h : IsS54 w0 W g f0 f1 f2) (hb2 : W.heap[a]? = some (.cells cs t fr)) (ht : t ≠ 54) : g ≠ a := by
  obtain ⟨A0, c0, hb, hg, hr0⟩ := h
  rintro rfl
  rw [hb] at hb2
  injection hb2 with hb2
  injection hb2 with _ ht2
  exact ht ht2.symm
theorem IsS54.far {w0 W : World} {g : Nat} {f0 : List Int} {f1 : Int} {f2 : Int} {p : Addr} (h : IsS54 w0 W g f0 f1 f2) (hne : g ≠ p.block) (u : Value) : IsS54 w0 (W.setCell p u) g f0 f1 f2 := by
  obtain ⟨A0, c0, hb, hg, hr0⟩ := h
  exact ⟨A0, c0, blk_far hb hne u, hg, hr0⟩
theorem cellS54_0 {W : World} {g : Nat} {A0 : Option Addr} {c0 : Nat} {f0 : List Int} {f1 : Int} {f2 : Int} (h : W.heap[g]? = some (.cells #[.slice A0 f0.length c0, .int .i64 f1, .int .u64 f2] 54 (0, 0))) : W.cell? ⟨g, 0, none⟩ = some (.slice A0 f0.length c0) := (blk_cell h 0).trans rfl
theorem cellS54_1 {W : World} {g : Nat} {A0 : Option Addr} {c0 : Nat} {f0 : List Int} {f1 : Int} {f2 : Int} (h : W.heap[g]? = some (.cells #[.slice A0 f0.length c0, .int .i64 f1, .int .u64 f2] 54 (0, 0))) : W.cell? ⟨g, 1, none⟩ = some (.int .i64 f1) := (blk_cell h 1).trans rfl
theorem IsS54.set_1 {w0 W : World} {g : Nat} {f0 : List Int} {f1 : Int} {f2 : Int} (h : IsS54 w0 W g f0 f1 f2) (x : Int) : IsS54 w0 (W.setCell ⟨g, 1, none⟩ (.int .i64 x)) g f0 x f2 := by
  obtain ⟨A0, c0, hb, hg, hr0⟩ := h
  exact ⟨A0, c0, by simpa using blk_set hb 1 (.int .i64 x), hg, hr0⟩
theorem cellS54_2 {W : World} {g : Nat} {A0 : Option Addr} {c0 : Nat} {f0 : List Int} {f1 : Int} {f2 : Int} (h : W.heap[g]? = some (.cells #[.slice A0 f0.length c0, .int .i64 f1, .int .u64 f2] 54 (0, 0))) : W.cell? ⟨g, 2, none⟩ = some (.int .u64 f2) := (blk_cell h 2).trans rfl
theorem IsS54.set_2 {w0 W : World} {g : Nat} {f0 : List Int} {f1 : Int} {f2 : Int} (h : IsS54 w0 W g f0 f1 f2) (x : Int) : IsS54 w0 (W.setCell ⟨g, 2, none⟩ (.int .u64 x)) g f0 f1 x := by
  obtain ⟨A0, c0, hb, hg, hr0⟩ := h
  exact ⟨A0, c0, by simpa using blk_set hb 2 (.int .u64 x), hg, hr0⟩
theorem IsS54.new (w0 W : World) (A0 : Option Addr) (c0 : Nat) (f0 : List Int) (f1 : Int) (f2 : Int) (hB : Below w0.heap.size w0 W) (hr0 : Kd.C (Kd.int .u8) w0 A0 f0.length f0) : IsS54 w0 (W.alloc (.cells #[.slice A0 f0.length c0, .int .i64 f1, .int .u64 f2] 54)) W.heap.size f0 f1 f2 := ⟨A0, c0, by simpa using heap_alloc_new W _, hB.size, hr0⟩

/-! ### spec_l1Cur_next: function 117 -/
def spec_l1Cur_next.f (s0_0 : List Int) (s0_1 : Int) (s0_2 : Int) : Option (Int × Int × Int) := if s0_1 < (s0_0.length : Int) then (if 0 ≤ s0_1 then (if (wrap64 (s0_1 + 1)) ≤ (s0_0.length : Int) then (some (wrap64 (rd s0_0 s0_1), wrap64 (s0_1 + 1), IntKind.u64.wrap ((IntKind.u64.wrap ((IntKind.u64.wrap (s0_2 * 6364136223846793005)) + (IntKind.u64.wrap (wrap64 (rd s0_0 s0_1))))) + 1442695040888963407))) else (some (wrap64 (Go.bits .and .u64 ((IntKind.u64.wrap ((IntKind.u64.wrap ((IntKind.u64.wrap (s0_2 * 6364136223846793005)) + (IntKind.u64.wrap (wrap64 (rd s0_0 s0_1))))) + 1442695040888963407)) / 1099511627776) 255), wrap64 (s0_1 + 1), IntKind.u64.wrap ((IntKind.u64.wrap ((IntKind.u64.wrap (s0_2 * 6364136223846793005)) + (IntKind.u64.wrap (wrap64 (rd s0_0 s0_1))))) + 1442695040888963407)))) else (none)) else (if (wrap64 (s0_1 + 1)) ≤ (s0_0.length : Int) then (some (0, wrap64 (s0_1 + 1), IntKind.u64.wrap ((IntKind.u64.wrap ((IntKind.u64.wrap (s0_2 * 6364136223846793005)) + 0)) + 1442695040888963407))) else (some (wrap64 (Go.bits .and .u64 ((IntKind.u64.wrap ((IntKind.u64.wrap ((IntKind.u64.wrap (s0_2 * 6364136223846793005)) + 0)) + 1442695040888963407)) / 1099511627776) 255), wrap64 (s0_1 + 1), IntKind.u64.wrap ((IntKind.u64.wrap ((IntKind.u64.wrap (s0_2 * 6364136223846793005)) + 0)) + 1442695040888963407))))
set_option maxHeartbeats 8000000 in
set_option maxRecDepth 100000 in
theorem spec_l1Cur_next.calls (g : Nat) (s0_0 : List Int) (s0_1 : Int) (s0_2 : Int) (r1 : Int) (r2 : Int) (r3 : Int) (w0 w : World) (hI : IsS54 w0 w g s0_0 s0_1 s0_2) (hB : Below w0.heap.size w0 w) (h : spec_l1Cur_next.f s0_0 s0_1 s0_2 = some (r1, r2, r3)) :
    Calls Tryz.prog 117 #[.pointer (some ⟨g, 0, none⟩)] w fun e w' => e = .returned (.int .i64 r1) ∧ IsS54 w0 w' g s0_0 r2 r3 ∧ Below w0.heap.size w0 w' ∧ KeepBut w w' g none := by
  have HI0 := Aside0.mk hI
  have HK := Aside0.mk (KeepBut.refl w g none)
  have HL := Aside0.mk hB.size
  clear hI
  have HW0 := Aside0.mk hB.size
  have HB := Aside0.mk hB
  clear hB
  have H : (if s0_1 < (s0_0.length : Int) then (if 0 ≤ s0_1 then (if (wrap64 (s0_1 + 1)) ≤ (s0_0.length : Int) then (some (wrap64 (rd s0_0 s0_1), wrap64 (s0_1 + 1), IntKind.u64.wrap ((IntKind.u64.wrap ((IntKind.u64.wrap (s0_2 * 6364136223846793005)) + (IntKind.u64.wrap (wrap64 (rd s0_0 s0_1))))) + 1442695040888963407))) else (some (wrap64 (Go.bits .and .u64 ((IntKind.u64.wrap ((IntKind.u64.wrap ((IntKind.u64.wrap (s0_2 * 6364136223846793005)) + (IntKind.u64.wrap (wrap64 (rd s0_0 s0_1))))) + 1442695040888963407)) / 1099511627776) 255), wrap64 (s0_1 + 1), IntKind.u64.wrap ((IntKind.u64.wrap ((IntKind.u64.wrap (s0_2 * 6364136223846793005)) + (IntKind.u64.wrap (wrap64 (rd s0_0 s0_1))))) + 1442695040888963407)))) else (none)) else (if (wrap64 (s0_1 + 1)) ≤ (s0_0.length : Int) then (some (0, wrap64 (s0_1 + 1), IntKind.u64.wrap ((IntKind.u64.wrap ((IntKind.u64.wrap (s0_2 * 6364136223846793005)) + 0)) + 1442695040888963407))) else (some (wrap64 (Go.bits .and .u64 ((IntKind.u64.wrap ((IntKind.u64.wrap ((IntKind.u64.wrap (s0_2 * 6364136223846793005)) + 0)) + 1442695040888963407)) / 1099511627776) 255), wrap64 (s0_1 + 1), IntKind.u64.wrap ((IntKind.u64.wrap ((IntKind.u64.wrap (s0_2 * 6364136223846793005)) + 0)) + 1442695040888963407))))) = some (r1, r2, r3) := h
  clear h
  by_cases c2 : s0_1 < (s0_0.length : Int)
  · rw [if_pos c2] at H
    have c2b0 : decide (s0_1 < (s0_0.length : Int)) = true := decide_eq_true c2
    clear c2
    by_cases c3 : 0 ≤ s0_1
    · rw [if_pos c3] at H
      have c3b0 : decide (0 ≤ s0_1) = true := decide_eq_true c3
      clear c3
      by_cases c4 : (wrap64 (s0_1 + 1)) ≤ (s0_0.length : Int)
      · rw [if_pos c4] at H
        have c4b0 : decide ((wrap64 (s0_1 + 1)) ≤ (s0_0.length : Int)) = true := decide_eq_true c4
        clear c4
        simp only [Option.some.injEq, Prod.mk.injEq] at H
        obtain ⟨rfl, rfl, rfl⟩ := H
        obtain ⟨ASz5_0, cSz5_0, HGz5, hgz5, HSz5_0⟩ := HI0.out
        have hcz5_0 := cellS54_0 HGz5
        have hcz5_1 := cellS54_1 HGz5
        have hcz5_2 := cellS54_2 HGz5
        have hfz5_1 := blk_frozen HGz5 1
        have hfz5_2 := blk_frozen HGz5 2
        clear HGz5 hgz5
        have p203 : 0 ≤ (s0_1 : Int) := of_decide_eq_true (by first | (with_reducible assumption) | assumption)
        have q203 : s0_1 < (s0_0.length : Int) := of_decide_eq_true (by first | (with_reducible assumption) | assumption)
        obtain ⟨ad203, e203, hx203_0⟩ := Kd.at_int HSz5_0 s0_1 p203 q203
        cases e203
        replace hx203_0 := pw_cell_below HB.out hx203_0
        replace p203 := eq_true p203
        replace q203 := eq_true q203
        try simp only [Int.add_zero]
        go_enter Tryz.func117, Tryz.ntmps117
        go_wp2
        repeat (go_quiet (fail); try go_wp2)
        go_ret
        exact ⟨by first | rfl | (simp [errW_none, errW_some] <;> rfl) | (simp [*, errW_none, errW_some] <;> rfl), by repeat (first | (with_reducible first | exact HI0.out | apply IsS54.alloc | apply IsS54.drewN | apply IsS54.drew | apply IsS54.set_1 | apply IsS54.set_2) | exact HI0.out), by repeat (first | (with_reducible first | exact HB.out | apply below_alloc | apply pw_below_drewN | apply below_drew1 | refine below_set ?_ (IsS54.ge HI0.out)) | exact HB.out), by repeat (first | (with_reducible first | exact HK.out | apply KeepBut.set_ | apply keep_drewN | apply keep_drew | apply keep_alloc) | exact HK.out)⟩
      · rw [if_neg c4] at H
        have c4b0 : decide ((wrap64 (s0_1 + 1)) ≤ (s0_0.length : Int)) = false := decide_eq_false c4
        clear c4
        simp only [Option.some.injEq, Prod.mk.injEq] at H
        obtain ⟨rfl, rfl, rfl⟩ := H
        obtain ⟨ASz6_0, cSz6_0, HGz6, hgz6, HSz6_0⟩ := HI0.out
        have hcz6_0 := cellS54_0 HGz6
        have hcz6_1 := cellS54_1 HGz6
        have hcz6_2 := cellS54_2 HGz6
        have hfz6_1 := blk_frozen HGz6 1
        have hfz6_2 := blk_frozen HGz6 2
        clear HGz6 hgz6
        have p203 : 0 ≤ (s0_1 : Int) := of_decide_eq_true (by first | (with_reducible assumption) | assumption)
        have q203 : s0_1 < (s0_0.length : Int) := of_decide_eq_true (by first | (with_reducible assumption) | assumption)
        obtain ⟨ad203, e203, hx203_0⟩ := Kd.at_int HSz6_0 s0_1 p203 q203
        cases e203
        replace hx203_0 := pw_cell_below HB.out hx203_0
        replace p203 := eq_true p203
        replace q203 := eq_true q203
        try simp only [Int.add_zero]
        go_enter Tryz.func117, Tryz.ntmps117
        go_wp2
        repeat (go_quiet (fail); try go_wp2)
        go_ret
        exact ⟨by first | rfl | (simp [errW_none, errW_some] <;> rfl) | (simp [*, errW_none, errW_some] <;> rfl), by repeat (first | (with_reducible first | exact HI0.out | apply IsS54.alloc | apply IsS54.drewN | apply IsS54.drew | apply IsS54.set_1 | apply IsS54.set_2) | exact HI0.out), by repeat (first | (with_reducible first | exact HB.out | apply below_alloc | apply pw_below_drewN | apply below_drew1 | refine below_set ?_ (IsS54.ge HI0.out)) | exact HB.out), by repeat (first | (with_reducible first | exact HK.out | apply KeepBut.set_ | apply keep_drewN | apply keep_drew | apply keep_alloc) | exact HK.out)⟩
    · rw [if_neg c3] at H
      exact absurd H (by simp)
  · rw [if_neg c2] at H
    have c2b0 : decide (s0_1 < (s0_0.length : Int)) = false := decide_eq_false c2
    clear c2
    by_cases c7 : (wrap64 (s0_1 + 1)) ≤ (s0_0.length : Int)
    · rw [if_pos c7] at H
      have c7b0 : decide ((wrap64 (s0_1 + 1)) ≤ (s0_0.length : Int)) = true := decide_eq_true c7
      clear c7
      simp only [Option.some.injEq, Prod.mk.injEq] at H
      obtain ⟨rfl, rfl, rfl⟩ := H
      obtain ⟨ASz8_0, cSz8_0, HGz8, hgz8, HSz8_0⟩ := HI0.out
      have hcz8_0 := cellS54_0 HGz8
      have hcz8_1 := cellS54_1 HGz8
      have hcz8_2 := cellS54_2 HGz8
      have hfz8_1 := blk_frozen HGz8 1
      have hfz8_2 := blk_frozen HGz8 2
      clear HGz8 hgz8
      try simp only [Int.add_zero]
      go_enter Tryz.func117, Tryz.ntmps117
      go_wp2
      repeat (go_quiet (fail); try go_wp2)
      go_ret
      exact ⟨by first | rfl | (simp [errW_none, errW_some] <;> rfl) | (simp [*, errW_none, errW_some] <;> rfl), by repeat (first | (with_reducible first | exact HI0.out | apply IsS54.alloc | apply IsS54.drewN | apply IsS54.drew | apply IsS54.set_1 | apply IsS54.set_2) | exact HI0.out), by repeat (first | (with_reducible first | exact HB.out | apply below_alloc | apply pw_below_drewN | apply below_drew1 | refine below_set ?_ (IsS54.ge HI0.out)) | exact HB.out), by repeat (first | (with_reducible first | exact HK.out | apply KeepBut.set_ | apply keep_drewN | apply keep_drew | apply keep_alloc) | exact HK.out)⟩
    · rw [if_neg c7] at H
      have c7b0 : decide ((wrap64 (s0_1 + 1)) ≤ (s0_0.length : Int)) = false := decide_eq_false c7
      clear c7
      simp only [Option.some.injEq, Prod.mk.injEq] at H
      obtain ⟨rfl, rfl, rfl⟩ := H
      obtain ⟨ASz9_0, cSz9_0, HGz9, hgz9, HSz9_0⟩ := HI0.out
      have hcz9_0 := cellS54_0 HGz9
      have hcz9_1 := cellS54_1 HGz9
      have hcz9_2 := cellS54_2 HGz9
      have hfz9_1 := blk_frozen HGz9 1
      have hfz9_2 := blk_frozen HGz9 2
      clear HGz9 hgz9
      try simp only [Int.add_zero]
      go_enter Tryz.func117, Tryz.ntmps117
      go_wp2
      repeat (go_quiet (fail); try go_wp2)
      go_ret
      exact ⟨by first | rfl | (simp [errW_none, errW_some] <;> rfl) | (simp [*, errW_none, errW_some] <;> rfl), by repeat (first | (with_reducible first | exact HI0.out | apply IsS54.alloc | apply IsS54.drewN | apply IsS54.drew | apply IsS54.set_1 | apply IsS54.set_2) | exact HI0.out), by repeat (first | (with_reducible first | exact HB.out | apply below_alloc | apply pw_below_drewN | apply below_drew1 | refine below_set ?_ (IsS54.ge HI0.out)) | exact HB.out), by repeat (first | (with_reducible first | exact HK.out | apply KeepBut.set_ | apply keep_drewN | apply keep_drew | apply keep_alloc) | exact HK.out)⟩

end Go.Proofs.YtcgoaipbfnhjhaaGreatDoor.Pr

-- Written by a program for this claim.
namespace Go.Proofs.YtcgoaipbfnhjhaaGreatDoor.Pr
open Go.RowKit Go.Proofs.YtcgoaipbfnhjhaaGreatDoorW.PrintWords Go.Proofs.YtcgoaipbfnhjhaaGreatDoorW.PrintLast Go.Proofs.YtcgoaipbfnhjhaaGreatDoorW.PrintMore
attribute [local go_sem] max2_int min2_int max_two min_two max_three min_three max_four min_four   -- for this text's walks alone
set_option linter.unusedVariables false
set_option linter.unusedSimpArgs false

/-! ### spec_l1Cur_pick: function 73 -/
def spec_l1Cur_pick.f (s0_0 : List Int) (s0_1 : Int) (s0_2 : Int) (a1 : Int) : Option (Int × Int × Int) := if a1 ≤ 1 then (some (0, s0_1, s0_2)) else ((spec_l1Cur_next.f s0_0 s0_1 s0_2).bind fun bt204 => (if a1 > 200 then ((spec_l1Cur_next.f s0_0 bt204.2.1 bt204.2.2).bind fun bt207 => (if a1 = 0 then (none) else (some (Int.tmod (wrap64 ((wrap64 (bt204.1 * 256)) + bt207.1)) a1, bt207.2.1, bt207.2.2)))) else (if a1 = 0 then (none) else (some (Int.tmod bt204.1 a1, bt204.2.1, bt204.2.2)))))
set_option maxHeartbeats 8000000 in
set_option maxRecDepth 100000 in
theorem spec_l1Cur_pick.calls (g : Nat) (s0_0 : List Int) (s0_1 : Int) (s0_2 : Int) (a1 : Int) (r1 : Int) (r2 : Int) (r3 : Int) (w0 w : World) (hI : IsS54 w0 w g s0_0 s0_1 s0_2) (hB : Below w0.heap.size w0 w) (h : spec_l1Cur_pick.f s0_0 s0_1 s0_2 a1 = some (r1, r2, r3)) :
    Calls Tryz.prog 73 #[.pointer (some ⟨g, 0, none⟩), .int .i64 a1] w fun e w' => e = .returned (.int .i64 r1) ∧ IsS54 w0 w' g s0_0 r2 r3 ∧ Below w0.heap.size w0 w' ∧ KeepBut w w' g none := by
  have HI0 := Aside0.mk hI
  have HK := Aside0.mk (KeepBut.refl w g none)
  have HL := Aside0.mk hB.size
  clear hI
  have HW0 := Aside0.mk hB.size
  have HB := Aside0.mk hB
  clear hB
  have H : (if a1 ≤ 1 then (some (0, s0_1, s0_2)) else ((spec_l1Cur_next.f s0_0 s0_1 s0_2).bind fun bt204 => (if a1 > 200 then ((spec_l1Cur_next.f s0_0 bt204.2.1 bt204.2.2).bind fun bt207 => (if a1 = 0 then (none) else (some (Int.tmod (wrap64 ((wrap64 (bt204.1 * 256)) + bt207.1)) a1, bt207.2.1, bt207.2.2)))) else (if a1 = 0 then (none) else (some (Int.tmod bt204.1 a1, bt204.2.1, bt204.2.2)))))) = some (r1, r2, r3) := h
  clear h
  by_cases c3 : a1 ≤ 1
  · rw [if_pos c3] at H
    have c3b0 : decide (a1 ≤ 1) = true := decide_eq_true c3
    clear c3
    simp only [Option.some.injEq, Prod.mk.injEq] at H
    obtain ⟨rfl, rfl, rfl⟩ := H
    go_enter Tryz.func73, Tryz.ntmps73
    go_wp2
    go_ret
    exact ⟨by first | rfl | (simp [errW_none, errW_some] <;> rfl) | (simp [*, errW_none, errW_some] <;> rfl), by repeat (first | (with_reducible first | exact HI0.out | apply IsS54.alloc | apply IsS54.drewN | apply IsS54.drew | apply IsS54.set_1 | apply IsS54.set_2) | exact HI0.out), by repeat (first | (with_reducible first | exact HB.out | apply below_alloc | apply pw_below_drewN | apply below_drew1 | refine below_set ?_ (IsS54.ge HI0.out)) | exact HB.out), by repeat (first | (with_reducible first | exact HK.out | apply KeepBut.set_ | apply keep_drewN | apply keep_drew | apply keep_alloc) | exact HK.out)⟩
  · rw [if_neg c3] at H
    have c3b0 : decide (a1 ≤ 1) = false := decide_eq_false c3
    clear c3
    replace H := Option.bind_eq_some_iff.mp H
    obtain ⟨⟨t204, t205, t206⟩, A40, H⟩ := H
    replace H : (if a1 > 200 then ((spec_l1Cur_next.f s0_0 t205 t206).bind fun bt207 => (if a1 = 0 then (none) else (some (Int.tmod (wrap64 ((wrap64 (t204 * 256)) + bt207.1)) a1, bt207.2.1, bt207.2.2)))) else (if a1 = 0 then (none) else (some (Int.tmod t204 a1, t205, t206)))) = some (r1, r2, r3) := H
    have A4 := Aside0.mk A40
    clear A40
    by_cases c5 : a1 > 200
    · rw [if_pos c5] at H
      have c5b0 : decide (200 < a1) = true := decide_eq_true c5
      clear c5
      replace H := Option.bind_eq_some_iff.mp H
      obtain ⟨⟨t207, t208, t209⟩, A60, H⟩ := H
      replace H : (if a1 = 0 then (none) else (some (Int.tmod (wrap64 ((wrap64 (t204 * 256)) + t207)) a1, t208, t209))) = some (r1, r2, r3) := H
      have A6 := Aside0.mk A60
      clear A60
      by_cases c7 : a1 = 0
      · rw [if_pos c7] at H
        exact absurd H (by simp)
      · rw [if_neg c7] at H
        have c7b0 : (a1 == 0) = false := beq_eq_false_iff_ne.mpr c7
        have c7b1 : (a1 != 0) = true := bne_iff_ne.mpr c7
        simp only [Option.some.injEq, Prod.mk.injEq] at H
        obtain ⟨rfl, rfl, rfl⟩ := H
        go_enter Tryz.func73, Tryz.ntmps73
        go_wp2_with (first | ((with_reducible refine gate_callee (f := 117) rfl ?_); refine goesL_ (some 9) rfl rfl Tryz.func117 (by kernel_rfl) rfl #[.pointer (some ⟨g, 0, none⟩)] rfl (by (try simp only [List.map_toArray, List.map_cons, List.map_nil]); first | done | rfl | (simp only [List.length_drop, List.length_take]; rfl)) ?_; (with_reducible refine (spec_l1Cur_next.calls g s0_0 s0_1 s0_2 t204 t205 t206 w0 _ ?side1 ?side2 A4.out).mono ?_); (case side1 => repeat (first | (with_reducible first | exact HI0.out | apply IsS54.alloc | apply IsS54.drewN | apply IsS54.drew | apply IsS54.set_1 | apply IsS54.set_2) | exact HI0.out)); (case side2 => repeat (first | (with_reducible first | exact HB.out | apply below_alloc | apply pw_below_drewN | apply below_drew1 | refine below_set ?_ (IsS54.ge HI0.out)) | exact HB.out)); rintro e w8 ⟨rfl, hi, hb, hk⟩; refine ⟨_, rfl, ?_⟩; have n0_ := Aside0.mk (KeepBut.trans (by repeat (first | (with_reducible first | exact HK.out | apply KeepBut.set_ | apply keep_drewN | apply keep_drew | apply keep_alloc) | exact HK.out)) hk (.inl rfl)); have n1_ := Aside0.mk (hb); have n2_ := Aside0.mk (hi); clear HK; clear HB; clear HI0; have HK := n0_; have HB := n1_; have HI0 := n2_; clear n0_ n1_ n2_; (try clear hb); (try clear hb2); (try clear hk); (try clear hi)) | ((with_reducible refine gate_callee (f := 117) rfl ?_); refine goesL_ (some 15) rfl rfl Tryz.func117 (by kernel_rfl) rfl #[.pointer (some ⟨g, 0, none⟩)] rfl (by (try simp only [List.map_toArray, List.map_cons, List.map_nil]); first | done | rfl | (simp only [List.length_drop, List.length_take]; rfl)) ?_; (with_reducible refine (spec_l1Cur_next.calls g s0_0 t205 t206 t207 t208 t209 w0 _ ?side1 ?side2 A6.out).mono ?_); (case side1 => repeat (first | (with_reducible first | exact HI0.out | apply IsS54.alloc | apply IsS54.drewN | apply IsS54.drew | apply IsS54.set_1 | apply IsS54.set_2) | exact HI0.out)); (case side2 => repeat (first | (with_reducible first | exact HB.out | apply below_alloc | apply pw_below_drewN | apply below_drew1 | refine below_set ?_ (IsS54.ge HI0.out)) | exact HB.out)); rintro e w9 ⟨rfl, hi, hb, hk⟩; refine ⟨_, rfl, ?_⟩; have n0_ := Aside0.mk (KeepBut.trans (by repeat (first | (with_reducible first | exact HK.out | apply KeepBut.set_ | apply keep_drewN | apply keep_drew | apply keep_alloc) | exact HK.out)) hk (.inl rfl)); have n1_ := Aside0.mk (hb); have n2_ := Aside0.mk (hi); clear HK; clear HB; clear HI0; have HK := n0_; have HB := n1_; have HI0 := n2_; clear n0_ n1_ n2_; (try clear hb); (try clear hb2); (try clear hk); (try clear hi)))
        go_ret
        exact ⟨by first | rfl | (simp [errW_none, errW_some] <;> rfl) | (simp [*, errW_none, errW_some] <;> rfl), by repeat (first | (with_reducible first | exact HI0.out | apply IsS54.alloc | apply IsS54.drewN | apply IsS54.drew | apply IsS54.set_1 | apply IsS54.set_2) | exact HI0.out), by repeat (first | (with_reducible first | exact HB.out | apply below_alloc | apply pw_below_drewN | apply below_drew1 | refine below_set ?_ (IsS54.ge HI0.out)) | exact HB.out), by repeat (first | (with_reducible first | exact HK.out | apply KeepBut.set_ | apply keep_drewN | apply keep_drew | apply keep_alloc) | exact HK.out)⟩
    · rw [if_neg c5] at H
      have c5b0 : decide (200 < a1) = false := decide_eq_false c5
      clear c5
      by_cases c10 : a1 = 0
      · rw [if_pos c10] at H
        exact absurd H (by simp)
      · rw [if_neg c10] at H
        have c10b0 : (a1 == 0) = false := beq_eq_false_iff_ne.mpr c10
        have c10b1 : (a1 != 0) = true := bne_iff_ne.mpr c10
        simp only [Option.some.injEq, Prod.mk.injEq] at H
        obtain ⟨rfl, rfl, rfl⟩ := H
        go_enter Tryz.func73, Tryz.ntmps73
        go_wp2_with (first | ((with_reducible refine gate_callee (f := 117) rfl ?_); refine goesL_ (some 9) rfl rfl Tryz.func117 (by kernel_rfl) rfl #[.pointer (some ⟨g, 0, none⟩)] rfl (by (try simp only [List.map_toArray, List.map_cons, List.map_nil]); first | done | rfl | (simp only [List.length_drop, List.length_take]; rfl)) ?_; (with_reducible refine (spec_l1Cur_next.calls g s0_0 s0_1 s0_2 t204 t205 t206 w0 _ ?side1 ?side2 A4.out).mono ?_); (case side1 => repeat (first | (with_reducible first | exact HI0.out | apply IsS54.alloc | apply IsS54.drewN | apply IsS54.drew | apply IsS54.set_1 | apply IsS54.set_2) | exact HI0.out)); (case side2 => repeat (first | (with_reducible first | exact HB.out | apply below_alloc | apply pw_below_drewN | apply below_drew1 | refine below_set ?_ (IsS54.ge HI0.out)) | exact HB.out)); rintro e w11 ⟨rfl, hi, hb, hk⟩; refine ⟨_, rfl, ?_⟩; have n0_ := Aside0.mk (KeepBut.trans (by repeat (first | (with_reducible first | exact HK.out | apply KeepBut.set_ | apply keep_drewN | apply keep_drew | apply keep_alloc) | exact HK.out)) hk (.inl rfl)); have n1_ := Aside0.mk (hb); have n2_ := Aside0.mk (hi); clear HK; clear HB; clear HI0; have HK := n0_; have HB := n1_; have HI0 := n2_; clear n0_ n1_ n2_; (try clear hb); (try clear hb2); (try clear hk); (try clear hi)))
        go_ret
        exact ⟨by first | rfl | (simp [errW_none, errW_some] <;> rfl) | (simp [*, errW_none, errW_some] <;> rfl), by repeat (first | (with_reducible first | exact HI0.out | apply IsS54.alloc | apply IsS54.drewN | apply IsS54.drew | apply IsS54.set_1 | apply IsS54.set_2) | exact HI0.out), by repeat (first | (with_reducible first | exact HB.out | apply below_alloc | apply pw_below_drewN | apply below_drew1 | refine below_set ?_ (IsS54.ge HI0.out)) | exact HB.out), by repeat (first | (with_reducible first | exact HK.out | apply KeepBut.set_ | apply keep_drewN | apply keep_drew | apply keep_alloc) | exact HK.out)⟩

end Go.Proofs.YtcgoaipbfnhjhaaGreatDoor.Pr

-- Written by a program for this claim.
namespace Go.Proofs.YtcgoaipbfnhjhaaGreatDoor.Pr
open Go.RowKit Go.Proofs.YtcgoaipbfnhjhaaGreatDoorW.PrintWords Go.Proofs.YtcgoaipbfnhjhaaGreatDoorW.PrintLast Go.Proofs.YtcgoaipbfnhjhaaGreatDoorW.PrintMore
attribute [local go_sem] max2_int min2_int max_two min_two max_three min_three max_four min_four   -- for this text's walks alone
set_option linter.unusedVariables false
set_option linter.unusedSimpArgs false

/-! ### spec_l1Cur_among: function 53 -/
def spec_l1Cur_among.f (s0_0 : List Int) (s0_1 : Int) (s0_2 : Int) (l1 : List Int) : Option (Int × Int × Int) := (spec_l1Cur_pick.f s0_0 s0_1 s0_2 (l1.length : Int)).bind fun bt210 => (if 0 ≤ bt210.1 then (if bt210.1 < (l1.length : Int) then (some (rd l1 bt210.1, bt210.2.1, bt210.2.2)) else (none)) else (none))
set_option maxHeartbeats 8000000 in
set_option maxRecDepth 100000 in
theorem spec_l1Cur_among.calls (g : Nat) (s0_0 : List Int) (s0_1 : Int) (s0_2 : Int) (A1 : Option Addr) (c1 : Nat) (l1 : List Int) (r1 : Int) (r2 : Int) (r3 : Int) (w0 w : World) (hI : IsS54 w0 w g s0_0 s0_1 s0_2) (hB : Below w0.heap.size w0 w) (hr1 : Kd.C (Kd.int .i64) w A1 l1.length l1) (hc1 : l1.length ≤ c1) (hf1 : ∀ ad, A1 = some ad → 0 < l1.length → ad.block ≠ g) (h : spec_l1Cur_among.f s0_0 s0_1 s0_2 l1 = some (r1, r2, r3)) :
    Calls Tryz.prog 53 #[.pointer (some ⟨g, 0, none⟩), .slice A1 l1.length c1] w fun e w' => e = .returned (.int .i64 r1) ∧ IsS54 w0 w' g s0_0 r2 r3 ∧ Below w0.heap.size w0 w' ∧ KeepBut w w' g none := by
  have HR1 := Aside0.mk hr1
  have HC1 := Aside0.mk hc1
  clear hr1 hc1
  have HI0 := Aside0.mk hI
  have HK := Aside0.mk (KeepBut.refl w g none)
  have HL := Aside0.mk hB.size
  clear hI
  have HW0 := Aside0.mk hB.size
  have HB := Aside0.mk hB
  clear hB
  have H : ((spec_l1Cur_pick.f s0_0 s0_1 s0_2 (l1.length : Int)).bind fun bt210 => (if 0 ≤ bt210.1 then (if bt210.1 < (l1.length : Int) then (some (rd l1 bt210.1, bt210.2.1, bt210.2.2)) else (none)) else (none))) = some (r1, r2, r3) := h
  clear h
  replace H := Option.bind_eq_some_iff.mp H
  obtain ⟨⟨t210, t211, t212⟩, A30, H⟩ := H
  replace H : (if 0 ≤ t210 then (if t210 < (l1.length : Int) then (some (rd l1 t210, t211, t212)) else (none)) else (none)) = some (r1, r2, r3) := H
  have A3 := Aside0.mk A30
  clear A30
  by_cases c4 : 0 ≤ t210
  · rw [if_pos c4] at H
    have c4b0 : decide (0 ≤ t210) = true := decide_eq_true c4
    clear c4
    by_cases c5 : t210 < (l1.length : Int)
    · rw [if_pos c5] at H
      have c5b0 : decide (t210 < (l1.length : Int)) = true := decide_eq_true c5
      clear c5
      simp only [Option.some.injEq, Prod.mk.injEq] at H
      obtain ⟨rfl, rfl, rfl⟩ := H
      go_enter Tryz.func53, Tryz.ntmps53
      go_wp2_with (first | ((with_reducible refine gate_callee (f := 73) rfl ?_); refine goesL_ (some 9) rfl rfl Tryz.func73 (by kernel_rfl) rfl #[.pointer (some ⟨g, 0, none⟩), .int .i64 (l1.length : Int)] rfl (by (try simp only [List.map_toArray, List.map_cons, List.map_nil]); first | done | rfl | (simp only [List.length_drop, List.length_take]; rfl)) ?_; (with_reducible refine (spec_l1Cur_pick.calls g s0_0 s0_1 s0_2 (l1.length : Int) t210 t211 t212 w0 _ ?side1 ?side2 A3.out).mono ?_); (case side1 => repeat (first | (with_reducible first | exact HI0.out | apply IsS54.alloc | apply IsS54.drewN | apply IsS54.drew | apply IsS54.set_1 | apply IsS54.set_2) | exact HI0.out)); (case side2 => repeat (first | (with_reducible first | exact HB.out | apply below_alloc | apply pw_below_drewN | apply below_drew1 | refine below_set ?_ (IsS54.ge HI0.out)) | exact HB.out)); rintro e w6 ⟨rfl, hi, hb, hk⟩; refine ⟨_, rfl, ?_⟩; have n0_ := Aside0.mk (KeepBut.trans (by repeat (first | (with_reducible first | exact HK.out | apply KeepBut.set_ | apply keep_drewN | apply keep_drew | apply keep_alloc) | exact HK.out)) hk (.inl rfl)); have n1_ := Aside0.mk (hb); have n2_ := Aside0.mk (hi); clear HK; clear HB; clear HI0; have HK := n0_; have HB := n1_; have HI0 := n2_; clear n0_ n1_ n2_; (try clear hb); (try clear hb2); (try clear hk); (try clear hi); have p213 : 0 ≤ (t210 : Int) := of_decide_eq_true (by first | (with_reducible assumption) | assumption); have q213 : t210 < (l1.length : Int) := of_decide_eq_true (by first | (with_reducible assumption) | assumption); obtain ⟨ad213, e213, hx213_0⟩ := Kd.at_int HR1.out t210 p213 q213; cases e213; replace hx213_0 := keep_cell HK.out hx213_0 (by first | (rw [add_block]; exact hf1 _ rfl (by omega)) | exact hf1 _ rfl (by omega) | exact hf1 ad213 rfl (by omega)); replace p213 := eq_true p213; replace q213 := eq_true q213))
      go_ret
      exact ⟨by first | rfl | (simp [errW_none, errW_some] <;> rfl) | (simp [*, errW_none, errW_some] <;> rfl), by repeat (first | (with_reducible first | exact HI0.out | apply IsS54.alloc | apply IsS54.drewN | apply IsS54.drew | apply IsS54.set_1 | apply IsS54.set_2) | exact HI0.out), by repeat (first | (with_reducible first | exact HB.out | apply below_alloc | apply pw_below_drewN | apply below_drew1 | refine below_set ?_ (IsS54.ge HI0.out)) | exact HB.out), by repeat (first | (with_reducible first | exact HK.out | apply KeepBut.set_ | apply keep_drewN | apply keep_drew | apply keep_alloc) | exact HK.out)⟩
    · rw [if_neg c5] at H
      exact absurd H (by simp)
  · rw [if_neg c4] at H
    exact absurd H (by simp)

end Go.Proofs.YtcgoaipbfnhjhaaGreatDoor.Pr

-- Written by a program for this claim.
namespace Go.Proofs.YtcgoaipbfnhjhaaGreatDoor.Pr
open Go.RowKit Go.Proofs.YtcgoaipbfnhjhaaGreatDoorW.PrintWords Go.Proofs.YtcgoaipbfnhjhaaGreatDoorW.PrintLast Go.Proofs.YtcgoaipbfnhjhaaGreatDoorW.PrintMore
attribute [local go_sem] max2_int min2_int max_two min_two max_three min_three max_four min_four   -- for this text's walks alone
set_option linter.unusedVariables false
set_option linter.unusedSimpArgs false

/-! ### spec_DrawLoopOfRank: function 6 -/
def spec_DrawLoopOfRank.f (l0 : List Int) : Option (Int × Int) := (spec_l1Cur_among.f l0 0 0 (([0, 1, 2, 3, 4, 5, 8, 9, (-1)] : List Int))).bind fun bt218 => ((spec_l1Cur_among.f l0 bt218.2.1 bt218.2.2 (([0, 1, 2, 7, 14, 100, 944, 2027024, (-1), 4611686018427387904] : List Int))).bind fun bt224 => (some (bt218.1, bt224.1)))
set_option maxHeartbeats 8000000 in
set_option maxRecDepth 100000 in
theorem spec_DrawLoopOfRank.calls (A0 : Option Addr) (c0 : Nat) (l0 : List Int) (r1 : Int) (r2 : Int) (w : World) (hr0 : Kd.C (Kd.int .u8) w A0 l0.length l0) (hc0 : l0.length ≤ c0) (h : spec_DrawLoopOfRank.f l0 = some (r1, r2)) :
    Calls Tryz.prog 6 #[.slice A0 l0.length c0] w fun e w' => e = .returned (.tuple #[.int .i64 r1, .int .i64 r2]) ∧ Below w.heap.size w w' := by
  have hu54 := Tryz.underlying54
  have HR0 := Aside0.mk hr0
  have HC0 := Aside0.mk hc0
  clear hr0 hc0
  have HB := Aside0.mk (Below.refl w.heap.size w)
  have H : ((spec_l1Cur_among.f l0 0 0 (([0, 1, 2, 3, 4, 5, 8, 9, (-1)] : List Int))).bind fun bt218 => ((spec_l1Cur_among.f l0 bt218.2.1 bt218.2.2 (([0, 1, 2, 7, 14, 100, 944, 2027024, (-1), 4611686018427387904] : List Int))).bind fun bt224 => (some (bt218.1, bt224.1)))) = some (r1, r2) := h
  clear h
  obtain ⟨y215, hy215⟩ : ∃ y_ : List Int, y_ = (([0, 1, 2, 3, 4, 5, 8, 9, (-1)] : List Int)) := ⟨_, rfl⟩
  replace H : ((spec_l1Cur_among.f l0 0 0 y215).bind fun bt218 => ((spec_l1Cur_among.f l0 bt218.2.1 bt218.2.2 (([0, 1, 2, 7, 14, 100, 944, 2027024, (-1), 4611686018427387904] : List Int))).bind fun bt224 => (some (bt218.1, bt224.1)))) = some (r1, r2) := by first | (rw [hy215]; with_reducible exact H) | (have H2_ := (Option.bind_some _ _).symm.trans H; rw [hy215]; with_reducible exact H2_) | (have H2_ := (Option.bind_some _ _).symm.trans H; with_reducible exact H2_) | with_reducible exact H | (rw [hy215]; exact H) | exact H
  have Ny215 := Aside0.mk hy215
  clear hy215
  replace H := Option.bind_eq_some_iff.mp H
  obtain ⟨⟨t218, t219, t220⟩, A20, H⟩ := H
  replace H : ((spec_l1Cur_among.f l0 t219 t220 (([0, 1, 2, 7, 14, 100, 944, 2027024, (-1), 4611686018427387904] : List Int))).bind fun bt224 => (some (t218, bt224.1))) = some (r1, r2) := H
  have A2 := Aside0.mk A20
  clear A20
  obtain ⟨y221, hy221⟩ : ∃ y_ : List Int, y_ = (([0, 1, 2, 7, 14, 100, 944, 2027024, (-1), 4611686018427387904] : List Int)) := ⟨_, rfl⟩
  replace H : ((spec_l1Cur_among.f l0 t219 t220 y221).bind fun bt224 => (some (t218, bt224.1))) = some (r1, r2) := by first | (rw [hy221]; with_reducible exact H) | (have H2_ := (Option.bind_some _ _).symm.trans H; rw [hy221]; with_reducible exact H2_) | (have H2_ := (Option.bind_some _ _).symm.trans H; with_reducible exact H2_) | with_reducible exact H | (rw [hy221]; exact H) | exact H
  have Ny221 := Aside0.mk hy221
  clear hy221
  replace H := Option.bind_eq_some_iff.mp H
  obtain ⟨⟨t224, t225, t226⟩, A30, H⟩ := H
  replace H : (some (t218, t224)) = some (r1, r2) := H
  have A3 := Aside0.mk A30
  clear A30
  simp only [Option.some.injEq, Prod.mk.injEq] at H
  obtain ⟨rfl, rfl⟩ := H
  go_enter Tryz.func6, Tryz.ntmps6
  go_wp2_with (first | ((with_reducible refine gate_dst (N := 7) rfl ?_); refine box_event ?hg (N := 7) ?hd (cs := #[.slice A0 l0.length c0, .int .i64 0, .int .u64 0]) (t := 54) ?hr ?_; (case hd => rfl); (case hg => rfl); (case hr => first | (go_simp; done) | (go_simp; rfl)); intro gb214 hg w4 hbox hb; have n0_ := Aside0.mk (below_step (by repeat (first | (with_reducible first | exact HB.out | apply below_alloc | apply pw_below_drewN | apply below_drew1) | exact HB.out)) hb); have n1_ := Aside0.mk ((by rw [hg]; exact (below_size (by repeat (first | (with_reducible first | exact HB.out | apply below_alloc | apply pw_below_drewN | apply below_drew1) | exact HB.out))) : w.heap.size ≤ gb214)); have n2_ := Aside0.mk ((by rw [hg]; exact (below_size (by repeat (first | (with_reducible first | exact HB.out | apply below_alloc | apply pw_below_drewN | apply below_drew1) | exact HB.out))) : w.heap.size ≤ gb214)); have n3_ := Aside0.mk ((show IsS54 w _ gb214 l0 0 0 from ⟨_, _, hbox, (by rw [hg]; exact (below_size (by repeat (first | (with_reducible first | exact HB.out | apply below_alloc | apply pw_below_drewN | apply below_drew1) | exact HB.out))) : w.heap.size ≤ gb214), HR0.out⟩)); clear HB; have HB := n0_; have GW214 := n1_; have GE214 := n2_; have HI214 := n3_; clear n0_ n1_ n2_ n3_; clear hb hbox hg) | ((with_reducible refine gate_dst (N := 9) rfl ?_); refine Kd.R_lit (Kd.int .i64) _ 3 ?hg (N := 9) ?hd (xs := ([0, 1, 2, 3, 4, 5, 8, 9, (-1)] : List Int)) (inner := [.int .i64 0, .int .i64 1, .int .i64 2, .int .i64 3, .int .i64 4, .int .i64 5, .int .i64 8, .int .i64 9, .int .i64 (-1)]) (ok := fun _ => True) (okp := fun _ => True) ?hr ?hp (fun _ hk => hk) trivial (Below.refl _ _) (Nat.le_refl _) (by simp) ?_; (case hd => rfl); (case hg => rfl); (case hr => first | (go_simp; done) | (go_simp; rfl)); (case hp => exact (Reps.one (show Kd.M (Kd.int .i64) _ _ _ 0 [.int .i64 0] from rfl) (Reps.one (show Kd.M (Kd.int .i64) _ _ _ 1 [.int .i64 1] from rfl) (Reps.one (show Kd.M (Kd.int .i64) _ _ _ 2 [.int .i64 2] from rfl) (Reps.one (show Kd.M (Kd.int .i64) _ _ _ 3 [.int .i64 3] from rfl) (Reps.one (show Kd.M (Kd.int .i64) _ _ _ 4 [.int .i64 4] from rfl) (Reps.one (show Kd.M (Kd.int .i64) _ _ _ 5 [.int .i64 5] from rfl) (Reps.one (show Kd.M (Kd.int .i64) _ _ _ 8 [.int .i64 8] from rfl) (Reps.one (show Kd.M (Kd.int .i64) _ _ _ 9 [.int .i64 9] from rfl) (Reps.one (show Kd.M (Kd.int .i64) _ _ _ (-1) [.int .i64 (-1)] from rfl) (Reps.none _ _))))))))))); intro v216 w5 ho6 hb hg_ hnew_; clear hg_ hnew_; (first | rw [← Ny215.out] at ho6 | (simp only [Int.reduceToNat] at ho6; rw [← Ny215.out] at ho6)); have n0_ := Aside0.mk (Kd.R_lower ho6 (below_size (by repeat (first | (with_reducible first | exact HB.out | apply below_alloc | apply pw_below_drewN | apply below_drew1 | refine below_set ?_ (IsS54.ge HI214.out)) | exact HB.out)))); have n1_ := Aside0.mk (IsS54.below (by repeat (first | (with_reducible first | exact HI214.out | apply IsS54.alloc | apply IsS54.drewN | apply IsS54.drew | apply IsS54.set_1 | apply IsS54.set_2) | exact HI214.out)) hb); have n2_ := Aside0.mk (below_step (by repeat (first | (with_reducible first | exact HB.out | apply below_alloc | apply pw_below_drewN | apply below_drew1 | refine below_set ?_ (IsS54.ge HI214.out)) | exact HB.out)) hb); clear HI214; clear HB; have HO217 := n0_; have HI214 := n1_; have HB := n2_; clear n0_ n1_ n2_; clear hb ho6; obtain ⟨Ao7, co7, eo7⟩ := Kd.R_slice HO217.out; subst eo7) | ((with_reducible refine gate_callee (f := 53) rfl ?_); refine goesL_ (some 10) rfl rfl Tryz.func53 (by kernel_rfl) rfl #[.pointer (some ⟨gb214, 0, none⟩), .slice Ao7 y215.length co7] rfl (by (try simp only [List.map_toArray, List.map_cons, List.map_nil]); first | done | rfl | (simp only [List.length_drop, List.length_take]; rfl)) ?_; (with_reducible refine (spec_l1Cur_among.calls gb214 l0 0 0 _ _ y215 t218 t219 t220 w _ ?side1 ?side2 ?side3 ?side4 ?side5 A2.out).mono ?_); (case side1 => repeat (first | (with_reducible first | exact HI214.out | apply IsS54.alloc | apply IsS54.drewN | apply IsS54.drew | apply IsS54.set_1 | apply IsS54.set_2) | exact HI214.out)); (case side2 => repeat (first | (with_reducible first | exact HB.out | apply below_alloc | apply pw_below_drewN | apply below_drew1 | refine below_set ?_ (IsS54.ge HI214.out)) | exact HB.out)); (case side3 => repeat (first | exact (Kd.R_reads' HO217.out).2.2 | (with_reducible refine Kd.C_alloc ?_ _) | (with_reducible refine Kd.C_drewN ?_ _) | (with_reducible refine Kd.C_drew ?_))); (case side4 => exact (Kd.R_reads' HO217.out).2.1); (case side5 => exact far_slice (IsS54.own_ne HI214.out HO217.out (by decide))); rintro e w8 ⟨rfl, hi, hb, hk⟩; refine ⟨_, rfl, ?_⟩; have n0_ := Aside0.mk (Kd.R_mono (Kd.R_keep (IsS54.apart (show IsS54 w _ gb214 l0 0 0 from by repeat (first | (with_reducible first | exact HI214.out | apply IsS54.alloc | apply IsS54.drewN | apply IsS54.drew | apply IsS54.set_1 | apply IsS54.set_2) | exact HI214.out)) (by (with_reducible repeat (first | apply Kd.R_alloc | apply Kd.R_drewN | apply Kd.R_drew)); exact HO217.out) (by decide)) hk (fun _ h => h.2)) (fun _ h => h.1)); have n1_ := Aside0.mk (hb); have n2_ := Aside0.mk (hi); clear HO217; clear HB; clear HI214; have HO217 := n0_; have HB := n1_; have HI214 := n2_; clear n0_ n1_ n2_; (try clear hb); (try clear hb2); (try clear hk); (try clear hi)) | ((with_reducible refine gate_dst (N := 12) rfl ?_); refine Kd.R_lit (Kd.int .i64) _ 3 ?hg (N := 12) ?hd (xs := ([0, 1, 2, 7, 14, 100, 944, 2027024, (-1), 4611686018427387904] : List Int)) (inner := [.int .i64 0, .int .i64 1, .int .i64 2, .int .i64 7, .int .i64 14, .int .i64 100, .int .i64 944, .int .i64 2027024, .int .i64 (-1), .int .i64 4611686018427387904]) (ok := fun _ => True) (okp := fun _ => True) ?hr ?hp (fun _ hk => hk) trivial (Below.refl _ _) (Nat.le_refl _) (by simp) ?_; (case hd => rfl); (case hg => rfl); (case hr => first | (go_simp; done) | (go_simp; rfl)); (case hp => exact (Reps.one (show Kd.M (Kd.int .i64) _ _ _ 0 [.int .i64 0] from rfl) (Reps.one (show Kd.M (Kd.int .i64) _ _ _ 1 [.int .i64 1] from rfl) (Reps.one (show Kd.M (Kd.int .i64) _ _ _ 2 [.int .i64 2] from rfl) (Reps.one (show Kd.M (Kd.int .i64) _ _ _ 7 [.int .i64 7] from rfl) (Reps.one (show Kd.M (Kd.int .i64) _ _ _ 14 [.int .i64 14] from rfl) (Reps.one (show Kd.M (Kd.int .i64) _ _ _ 100 [.int .i64 100] from rfl) (Reps.one (show Kd.M (Kd.int .i64) _ _ _ 944 [.int .i64 944] from rfl) (Reps.one (show Kd.M (Kd.int .i64) _ _ _ 2027024 [.int .i64 2027024] from rfl) (Reps.one (show Kd.M (Kd.int .i64) _ _ _ (-1) [.int .i64 (-1)] from rfl) (Reps.one (show Kd.M (Kd.int .i64) _ _ _ 4611686018427387904 [.int .i64 4611686018427387904] from rfl) (Reps.none _ _)))))))))))); intro v222 w9 ho10 hb hg_ hnew_; clear hg_ hnew_; (first | rw [← Ny221.out] at ho10 | (simp only [Int.reduceToNat] at ho10; rw [← Ny221.out] at ho10)); have n0_ := Aside0.mk (Kd.R_elder' (by (with_reducible repeat (first | apply Kd.R_alloc | apply Kd.R_drewN | apply Kd.R_drew)); exact HO217.out) (Kd.R_base ho10) hb); have n1_ := Aside0.mk (Kd.R_lower (Kd.R_new' ho10 (Kd.R_lt (by (with_reducible repeat (first | apply Kd.R_alloc | apply Kd.R_drewN | apply Kd.R_drew)); exact HO217.out))) (below_size (by repeat (first | (with_reducible first | exact HB.out | apply below_alloc | apply pw_below_drewN | apply below_drew1 | refine below_set ?_ (IsS54.ge HI214.out)) | exact HB.out)))); have n2_ := Aside0.mk (IsS54.below (by repeat (first | (with_reducible first | exact HI214.out | apply IsS54.alloc | apply IsS54.drewN | apply IsS54.drew | apply IsS54.set_1 | apply IsS54.set_2) | exact HI214.out)) hb); have n3_ := Aside0.mk (below_step (by repeat (first | (with_reducible first | exact HB.out | apply below_alloc | apply pw_below_drewN | apply below_drew1 | refine below_set ?_ (IsS54.ge HI214.out)) | exact HB.out)) hb); clear HO217; clear HI214; clear HB; have HO217 := n0_; have HO223 := n1_; have HI214 := n2_; have HB := n3_; clear n0_ n1_ n2_ n3_; clear hb ho10; obtain ⟨Ao11, co11, eo11⟩ := Kd.R_slice HO223.out; subst eo11) | ((with_reducible refine gate_callee (f := 53) rfl ?_); refine goesL_ (some 13) rfl rfl Tryz.func53 (by kernel_rfl) rfl #[.pointer (some ⟨gb214, 0, none⟩), .slice Ao11 y221.length co11] rfl (by (try simp only [List.map_toArray, List.map_cons, List.map_nil]); first | done | rfl | (simp only [List.length_drop, List.length_take]; rfl)) ?_; (with_reducible refine (spec_l1Cur_among.calls gb214 l0 t219 t220 _ _ y221 t224 t225 t226 w _ ?side1 ?side2 ?side3 ?side4 ?side5 A3.out).mono ?_); (case side1 => repeat (first | (with_reducible first | exact HI214.out | apply IsS54.alloc | apply IsS54.drewN | apply IsS54.drew | apply IsS54.set_1 | apply IsS54.set_2) | exact HI214.out)); (case side2 => repeat (first | (with_reducible first | exact HB.out | apply below_alloc | apply pw_below_drewN | apply below_drew1 | refine below_set ?_ (IsS54.ge HI214.out)) | exact HB.out)); (case side3 => repeat (first | exact (Kd.R_reads' HO223.out).2.2 | (with_reducible refine Kd.C_alloc ?_ _) | (with_reducible refine Kd.C_drewN ?_ _) | (with_reducible refine Kd.C_drew ?_))); (case side4 => exact (Kd.R_reads' HO223.out).2.1); (case side5 => exact far_slice (IsS54.own_ne HI214.out HO223.out (by decide))); rintro e w12 ⟨rfl, hi, hb, hk⟩; refine ⟨_, rfl, ?_⟩; have n0_ := Aside0.mk (Kd.R_mono (Kd.R_keep (IsS54.apart (show IsS54 w _ gb214 l0 t219 t220 from by repeat (first | (with_reducible first | exact HI214.out | apply IsS54.alloc | apply IsS54.drewN | apply IsS54.drew | apply IsS54.set_1 | apply IsS54.set_2) | exact HI214.out)) (by (with_reducible repeat (first | apply Kd.R_alloc | apply Kd.R_drewN | apply Kd.R_drew)); exact HO217.out) (by decide)) hk (fun _ h => h.2)) (fun _ h => h.1)); have n1_ := Aside0.mk (Kd.R_mono (Kd.R_keep (IsS54.apart (show IsS54 w _ gb214 l0 t219 t220 from by repeat (first | (with_reducible first | exact HI214.out | apply IsS54.alloc | apply IsS54.drewN | apply IsS54.drew | apply IsS54.set_1 | apply IsS54.set_2) | exact HI214.out)) (by (with_reducible repeat (first | apply Kd.R_alloc | apply Kd.R_drewN | apply Kd.R_drew)); exact HO223.out) (by decide)) hk (fun _ h => h.2)) (fun _ h => h.1)); have n2_ := Aside0.mk (hb); have n3_ := Aside0.mk (hi); clear HO217; clear HO223; clear HB; clear HI214; have HO217 := n0_; have HO223 := n1_; have HB := n2_; have HI214 := n3_; clear n0_ n1_ n2_ n3_; (try clear hb); (try clear hb2); (try clear hk); (try clear hi)))
  go_ret2
  exact ⟨by first | rfl | (simp [errW_none, errW_some] <;> rfl) | (simp [*, errW_none, errW_some] <;> rfl), by repeat (first | (with_reducible first | exact HB.out | apply below_alloc | apply pw_below_drewN | apply below_drew1 | refine below_set ?_ (IsS54.ge HI214.out)) | exact HB.out)⟩

end Go.Proofs.YtcgoaipbfnhjhaaGreatDoor.Pr

-- Written by a program for this claim.
namespace Go.Proofs.YtcgoaipbfnhjhaaGreatDoor.Pr
open Go.RowKit Go.Proofs.YtcgoaipbfnhjhaaGreatDoorW.PrintWords Go.Proofs.YtcgoaipbfnhjhaaGreatDoorW.PrintLast Go.Proofs.YtcgoaipbfnhjhaaGreatDoorW.PrintMore
attribute [local go_sem] max2_int min2_int max_two min_two max_three min_three max_four min_four   -- for this text's walks alone
set_option linter.unusedVariables false
set_option linter.unusedSimpArgs false

/-! ### impl_countOn: function 56 -/
mutual
def impl_countOn.j0 : Nat → Int → Int → Bool → Option (Int)
  | 0, _, _, _ => none
  | k + 1, x0, x1, x5 => if x5 = true then (some 0) else (if x0 = 0 then (impl_countOn.j1 k x0 x1 (x1 == 0)) else (impl_countOn.j1 k x0 x1 false))
def impl_countOn.j1 : Nat → Int → Int → Bool → Option (Int)
  | 0, _, _, _ => none
  | k + 1, x0, x1, x12 => if x12 = true then (some 1) else ((impl_countOn.f k (wrap64 (x0 - 1)) x1).bind fun t101 => ((impl_countOn.f k (wrap64 (x0 + 1)) (wrap64 (x1 - 1))).bind fun t102 => (some (wrap64 ((wrap64 (x0 * t101)) + t102)))))
def impl_countOn.f : Nat → Int → Int → Option (Int)
  | 0, _, _ => none
  | k + 1, a0, a1 => if a0 < 0 then (impl_countOn.j0 k a0 a1 true) else (impl_countOn.j0 k a0 a1 (decide (a1 < 0)))
end
theorem impl_countOn.mono_l : ∀ k, (∀ y0 y1, LeO (impl_countOn.f k y0 y1) (impl_countOn.f (k + 1) y0 y1)) ∧ (∀ y0 y1 y2, LeO (impl_countOn.j0 k y0 y1 y2) (impl_countOn.j0 (k + 1) y0 y1 y2)) ∧ (∀ y0 y1 y2, LeO (impl_countOn.j1 k y0 y1 y2) (impl_countOn.j1 (k + 1) y0 y1 y2))
  | 0 => ⟨fun _ _ r h => by simp [impl_countOn.f] at h, fun _ _ _ r h => by simp [impl_countOn.j0] at h, fun _ _ _ r h => by simp [impl_countOn.j1] at h⟩
  | k + 1 => by
    obtain ⟨ih0, ih1, ih2⟩ := impl_countOn.mono_l k
    refine ⟨?_, ?_, ?_⟩
    · intro y0 y1
      unfold impl_countOn.f
      repeat' first
      | (with_reducible exact ih0 _ _)
      | (with_reducible exact ih1 _ _ _)
      | (with_reducible exact ih2 _ _ _)
      | (with_reducible exact LeO.refl _)
      | (with_reducible exact LeO.none _)
      | (with_reducible refine LeO.ite ?_ ?_)
      | (with_reducible refine LeO.bind ?_ (fun _ => ?_))
      | exact ih0 _ _
      | exact ih1 _ _ _
      | exact ih2 _ _ _
      | exact LeO.none _
      | refine LeO.ite ?_ ?_
      | refine LeO.bind ?_ (fun _ => ?_)
    · intro y0 y1 y2
      unfold impl_countOn.j0
      repeat' first
      | (with_reducible exact ih0 _ _)
      | (with_reducible exact ih1 _ _ _)
      | (with_reducible exact ih2 _ _ _)
      | (with_reducible exact LeO.refl _)
      | (with_reducible exact LeO.none _)
      | (with_reducible refine LeO.ite ?_ ?_)
      | (with_reducible refine LeO.bind ?_ (fun _ => ?_))
      | exact ih0 _ _
      | exact ih1 _ _ _
      | exact ih2 _ _ _
      | exact LeO.none _
      | refine LeO.ite ?_ ?_
      | refine LeO.bind ?_ (fun _ => ?_)
    · intro y0 y1 y2
      unfold impl_countOn.j1
      repeat' first
      | (with_reducible exact ih0 _ _)
      | (with_reducible exact ih1 _ _ _)
      | (with_reducible exact ih2 _ _ _)
      | (with_reducible exact LeO.refl _)
      | (with_reducible exact LeO.none _)
      | (with_reducible refine LeO.ite ?_ ?_)
      | (with_reducible refine LeO.bind ?_ (fun _ => ?_))
      | exact ih0 _ _
      | exact ih1 _ _ _
      | exact ih2 _ _ _
      | exact LeO.none _
      | refine LeO.ite ?_ ?_
      | refine LeO.bind ?_ (fun _ => ?_)
theorem impl_countOn.mono : ∀ a0 a1 k, LeO (impl_countOn.f k a0 a1) (impl_countOn.f (k + 1) a0 a1) := by
  intro a0 a1 k
  obtain ⟨ih0, ih1, ih2⟩ := impl_countOn.mono_l k
  exact ih0 a0 a1
set_option maxHeartbeats 8000000 in
set_option maxRecDepth 100000 in
theorem impl_countOn.calls (k : Nat) : ∀ (a0 : Int) (a1 : Int) (r : Int) (w : World) (h : impl_countOn.f k a0 a1 = some r),
    Calls Tryz.prog 56 #[.int .i64 a0, .int .i64 a1] w fun e w' => e = .returned (.int .i64 r) ∧ Drawn0 w w' := by
  induction k using Nat.strongRecOn with
  | _ k ih =>
  intro a0 a1 r w h
  cases k with
  | zero => exact absurd h (by simp [impl_countOn.f])
  | succ k =>
  simp only [impl_countOn.f] at h
  have H : (if a0 < 0 then (impl_countOn.j0 k a0 a1 true) else (impl_countOn.j0 k a0 a1 (decide (a1 < 0)))) = some r := h
  clear h
  have HC3 := Aside0.mk H
  clear H
  go_enter Tryz.func56, Tryz.ntmps56
  go_upto_region 1 with (fail)
  go_cut [5] (fun v5 wc => ∃ (kq : Nat) (x5_2 : Bool), v5 = .bool x5_2 ∧ Aside0 (impl_countOn.j0 kq a0 a1 x5_2 = some r) ∧ Aside0 (kq ≤ k) ∧ Drawn0 w wc)
  case first =>
    have H := HC3.out
    clear HC3
    by_cases c4 : a0 < 0
    · rw [if_pos c4] at H
      have c4b0 : decide (a0 < 0) = true := decide_eq_true c4
      clear c4
      (first | rw [c4b0] | (simp only [i64_w, i32_w]; rw [c4b0]) | skip)
      have H' := Aside0.mk H
      clear H
      go_wp2
      go_meet
      case rel => exact ⟨_, (true), (by first | rfl | (simp; done) | (simp [*]; done)), H', ⟨by first | omega | exact Nat.le_refl _⟩, by repeat (first | exact Drawn0.refl _ | apply Drawn0.step)⟩
    · rw [if_neg c4] at H
      have c4b0 : decide (a0 < 0) = false := decide_eq_false c4
      clear c4
      (first | rw [c4b0] | (simp only [i64_w, i32_w]; rw [c4b0]) | skip)
      have H' := Aside0.mk H
      clear H
      go_wp2
      go_meet
      case rel => exact ⟨_, (decide (a1 < 0)), (by first | rfl | (simp; done) | (simp [*]; done)), H', ⟨by first | omega | exact Nat.le_refl _⟩, by repeat (first | exact Drawn0.refl _ | apply Drawn0.step)⟩
  case rest =>
    clear HC3
    try clear p2
    try clear c4
    try clear c4b0
    obtain ⟨kq, x5_2, rfl, HA, HJ2, ⟨mc2, rfl⟩⟩ := hcut
    cases kq with
    | zero => exact absurd HA.out (by simp [impl_countOn.j0])
    | succ kj2 =>
      have H := HA.out
      clear HA
      simp only [impl_countOn.j0] at H
      by_cases c5 : x5_2 = true
      · subst c5
        have H1 : (some 0) = some r := by rw [if_pos rfl] at H; exact H
        clear H
        have H := H1
        clear H1
        obtain rfl := Option.some.inj H
        go_wp2
        go_ret
        exact ⟨by first | rfl | (simp; done) | (simp [*]; done), by repeat (first | exact Drawn0.refl _ | apply Drawn0.step)⟩
      · replace c5 := Bool.eq_false_iff.mpr c5
        subst c5
        have H1 : (if a0 = 0 then (impl_countOn.j1 kj2 a0 a1 (a1 == 0)) else (impl_countOn.j1 kj2 a0 a1 false)) = some r := by rw [if_neg (show ¬ (false = true) by decide)] at H; exact H
        clear H
        have H := H1
        clear H1
        have HC6 := Aside0.mk H
        clear H
        go_upto_region 3 with (fail)
        go_cut [12] (fun v12 wc => ∃ (kq : Nat) (x12_5 : Bool), v12 = .bool x12_5 ∧ Aside0 (impl_countOn.j1 kq a0 a1 x12_5 = some r) ∧ Aside0 (kq ≤ kj2) ∧ Drawn0 w wc)
        case first =>
          have H := HC6.out
          clear HC6
          by_cases c7 : a0 = 0
          · rw [if_pos c7] at H
            have c7b0 : (a0 == 0) = true := beq_iff_eq.mpr c7
            have c7b1 : (a0 != 0) = false := bne_eq_false_iff_eq.mpr c7
            clear c7
            (first | rw [c7b0] | (simp only [i64_w, i32_w]; rw [c7b0]) | skip)
            have H' := Aside0.mk H
            clear H
            go_wp2
            go_meet
            case rel => exact ⟨_, ((a1 == 0)), (by first | rfl | (simp; done) | (simp [*]; done)), H', ⟨by have := HJ2.out; first | omega | exact Nat.le_refl _⟩, by repeat (first | exact Drawn0.refl _ | apply Drawn0.step)⟩
          · rw [if_neg c7] at H
            have c7b0 : (a0 == 0) = false := beq_eq_false_iff_ne.mpr c7
            have c7b1 : (a0 != 0) = true := bne_iff_ne.mpr c7
            (first | rw [c7b0] | (simp only [i64_w, i32_w]; rw [c7b0]) | skip)
            have H' := Aside0.mk H
            clear H
            go_wp2
            go_meet
            case rel => exact ⟨_, (false), (by first | rfl | (simp; done) | (simp [*]; done)), H', ⟨by have := HJ2.out; first | omega | exact Nat.le_refl _⟩, by repeat (first | exact Drawn0.refl _ | apply Drawn0.step)⟩
        case rest =>
          clear HC6
          try clear c2
          try clear p2
          try clear c4
          try clear c4b0
          try clear c5
          try clear c7
          try clear c7b0
          try clear c7b1
          try clear p2
          obtain ⟨kq, x12_5, rfl, HA, HJ5, ⟨mc5, rfl⟩⟩ := hcut
          cases kq with
          | zero => exact absurd HA.out (by simp [impl_countOn.j1])
          | succ kj5 =>
            have H := HA.out
            clear HA
            simp only [impl_countOn.j1] at H
            by_cases c8 : x12_5 = true
            · subst c8
              have H1 : (some 1) = some r := by rw [if_pos rfl] at H; exact H
              clear H
              have H := H1
              clear H1
              obtain rfl := Option.some.inj H
              go_wp2
              go_ret
              exact ⟨by first | rfl | (simp; done) | (simp [*]; done), by repeat (first | exact Drawn0.refl _ | apply Drawn0.step)⟩
            · replace c8 := Bool.eq_false_iff.mpr c8
              subst c8
              have H1 : ((impl_countOn.f kj5 (wrap64 (a0 - 1)) a1).bind fun t101 => ((impl_countOn.f kj5 (wrap64 (a0 + 1)) (wrap64 (a1 - 1))).bind fun t102 => (some (wrap64 ((wrap64 (a0 * t101)) + t102))))) = some r := by rw [if_neg (show ¬ (false = true) by decide)] at H; exact H
              clear H
              have H := H1
              clear H1
              replace H := Option.bind_eq_some_iff.mp H
              obtain ⟨t101, A90, H⟩ := H
              replace H : ((impl_countOn.f kj5 (wrap64 (a0 + 1)) (wrap64 (a1 - 1))).bind fun t102 => (some (wrap64 ((wrap64 (a0 * t101)) + t102)))) = some r := H
              have A9 := Aside0.mk A90
              clear A90
              replace H := Option.bind_eq_some_iff.mp H
              obtain ⟨t102, A100, H⟩ := H
              replace H : (some (wrap64 ((wrap64 (a0 * t101)) + t102))) = some r := H
              have A10 := Aside0.mk A100
              clear A100
              obtain rfl := Option.some.inj H
              go_wp2_with (first | ((with_reducible refine gate_callee (f := 56) rfl ?_); refine goesL_ (some 23) rfl rfl Tryz.func56 (by kernel_rfl) rfl #[.int .i64 (wrap64 (a0 - 1)), .int .i64 a1] rfl (by (try simp only [List.map_toArray, List.map_cons, List.map_nil]); first | done | rfl | (simp only [List.length_drop, List.length_take]; rfl)) ?_; (with_reducible refine (ih kj5 (by have := HJ2.out; have := HJ5.out; omega) (wrap64 (a0 - 1)) a1 t101 _ A9.out).mono ?_); rintro e w' ⟨rfl, ⟨nd, rfl⟩⟩; refine ⟨_, rfl, ?_⟩) | ((with_reducible refine gate_callee (f := 56) rfl ?_); refine goesL_ (some 29) rfl rfl Tryz.func56 (by kernel_rfl) rfl #[.int .i64 (wrap64 (a0 + 1)), .int .i64 (wrap64 (a1 - 1))] rfl (by (try simp only [List.map_toArray, List.map_cons, List.map_nil]); first | done | rfl | (simp only [List.length_drop, List.length_take]; rfl)) ?_; (with_reducible refine (ih kj5 (by have := HJ2.out; have := HJ5.out; omega) (wrap64 (a0 + 1)) (wrap64 (a1 - 1)) t102 _ A10.out).mono ?_); rintro e w' ⟨rfl, ⟨nd, rfl⟩⟩; refine ⟨_, rfl, ?_⟩))
              go_ret
              exact ⟨by first | rfl | (simp; done) | (simp [*]; done), by repeat (first | exact Drawn0.refl _ | apply Drawn0.step)⟩

end Go.Proofs.YtcgoaipbfnhjhaaGreatDoor.Pr

-- Written by a program for this claim.
namespace Go.Proofs.YtcgoaipbfnhjhaaGreatDoor.Pr
open Go.RowKit Go.Proofs.YtcgoaipbfnhjhaaGreatDoorW.PrintWords Go.Proofs.YtcgoaipbfnhjhaaGreatDoorW.PrintLast Go.Proofs.YtcgoaipbfnhjhaaGreatDoorW.PrintMore
attribute [local go_sem] max2_int min2_int max_two min_two max_three min_three max_four min_four   -- for this text's walks alone
set_option linter.unusedVariables false
set_option linter.unusedSimpArgs false

/-! ### impl_within: function 55 -/
def impl_within.f (a0 : Int) (a1 : Int) (a2 : Int) : Option (Bool) := if a0 ≥ a1 then (some (decide (a0 ≤ a2))) else (some false)
set_option maxHeartbeats 8000000 in
set_option maxRecDepth 100000 in
theorem impl_within.calls (a0 : Int) (a1 : Int) (a2 : Int) (r : Bool) (w : World) (h : impl_within.f a0 a1 a2 = some r) :
    Calls Tryz.prog 55 #[.int .i64 a0, .int .i64 a1, .int .i64 a2] w fun e w' => e = .returned (.bool r) ∧ Drawn0 w w' := by
  have H : (if a0 ≥ a1 then (some (decide (a0 ≤ a2))) else (some false)) = some r := h
  clear h
  by_cases c4 : a0 ≥ a1
  · rw [if_pos c4] at H
    have c4b0 : decide (a1 ≤ a0) = true := decide_eq_true c4
    clear c4
    obtain rfl := Option.some.inj H
    go_enter Tryz.func55, Tryz.ntmps55
    go_wp2
    go_ret
    exact ⟨by first | rfl | (simp; done) | (simp [*]; done), by repeat (first | exact Drawn0.refl _ | apply Drawn0.step)⟩
  · rw [if_neg c4] at H
    have c4b0 : decide (a1 ≤ a0) = false := decide_eq_false c4
    clear c4
    obtain rfl := Option.some.inj H
    go_enter Tryz.func55, Tryz.ntmps55
    go_wp2
    go_ret
    exact ⟨by first | rfl | (simp; done) | (simp [*]; done), by repeat (first | exact Drawn0.refl _ | apply Drawn0.step)⟩

end Go.Proofs.YtcgoaipbfnhjhaaGreatDoor.Pr

-- Written by a program for this claim.
namespace Go.Proofs.YtcgoaipbfnhjhaaGreatDoor.Pr
open Go.RowKit Go.Proofs.YtcgoaipbfnhjhaaGreatDoorW.PrintWords Go.Proofs.YtcgoaipbfnhjhaaGreatDoorW.PrintLast Go.Proofs.YtcgoaipbfnhjhaaGreatDoorW.PrintMore
attribute [local go_sem] max2_int min2_int max_two min_two max_three min_three max_four min_four   -- for this text's walks alone
set_option linter.unusedVariables false
set_option linter.unusedSimpArgs false

/-! ### impl_isCrossings: function 54 -/
def impl_isCrossings.f (a0 : Int) : Option (Bool) := (impl_within.f a0 0 8).bind fun t136 => (some t136)
set_option maxHeartbeats 8000000 in
set_option maxRecDepth 100000 in
theorem impl_isCrossings.calls (a0 : Int) (r : Bool) (w : World) (h : impl_isCrossings.f a0 = some r) :
    Calls Tryz.prog 54 #[.int .i64 a0] w fun e w' => e = .returned (.bool r) ∧ Drawn0 w w' := by
  have H : ((impl_within.f a0 0 8).bind fun t136 => (some t136)) = some r := h
  clear h
  replace H := Option.bind_eq_some_iff.mp H
  obtain ⟨t136, A20, H⟩ := H
  replace H : (some t136) = some r := H
  have A2 := Aside0.mk A20
  clear A20
  obtain rfl := Option.some.inj H
  go_enter Tryz.func54, Tryz.ntmps54
  go_wp2_with (first | ((with_reducible refine gate_callee (f := 55) rfl ?_); refine goesL_ (some 4) rfl rfl Tryz.func55 (by kernel_rfl) rfl #[.int .i64 a0, .int .i64 0, .int .i64 8] rfl (by (try simp only [List.map_toArray, List.map_cons, List.map_nil]); first | done | rfl | (simp only [List.length_drop, List.length_take]; rfl)) ?_; (with_reducible refine (impl_within.calls a0 0 8 t136 _ A2.out).mono ?_); rintro e w' ⟨rfl, ⟨nd, rfl⟩⟩; refine ⟨_, rfl, ?_⟩))
  go_ret
  exact ⟨by first | rfl | (simp; done) | (simp [*]; done), by repeat (first | exact Drawn0.refl _ | apply Drawn0.step)⟩

end Go.Proofs.YtcgoaipbfnhjhaaGreatDoor.Pr

/- What is asked of a predicate that is handed to the library, and the place of the first element for which it holds. -/
namespace Go.Proofs.YtcgoaipbfnhjhaaGreatDoor.Pr
open Go.RowKit Go.Proofs.YtcgoaipbfnhjhaaGreatDoorW.PrintWords Go.Proofs.YtcgoaipbfnhjhaaGreatDoorW.PrintLast Go.Proofs.YtcgoaipbfnhjhaaGreatDoorW.PrintMore
set_option linter.unusedVariables false
set_option linter.unusedSimpArgs false

/-- A function value that tells p of the elements of a list, in any world in which what was there is as it was. -/
def PredB {α : Type} (g : Nat) (lb : Array Value) (enc : α → Value) (p : α → Bool) (zs : List α) (w : World) : Prop :=
  ∀ (W : World) (x : α), x ∈ zs → Below w.heap.size w W → Calls Tryz.prog g (#[enc x] ++ lb) W fun e w' => e = .returned (.bool (p x)) ∧ Below W.heap.size W w'
/-- The place of the first element for which p holds, or -1. -/
def idxP {α : Type} (p : α → Bool) : List α → Int
  | [] => -1
  | x :: r => if p x = true then 0 else if idxP p r < 0 then -1 else idxP p r + 1
theorem idxP_ge {α : Type} (p : α → Bool) : ∀ l : List α, -1 ≤ idxP p l
  | [] => by simp [idxP]
  | x :: r => by
    have := idxP_ge p r
    unfold idxP
    split
    · omega
    · split <;> omega
theorem idxP_nonneg {α : Type} (p : α → Bool) : ∀ l : List α, decide (idxP p l ≥ 0) = l.any p
  | [] => by simp [idxP]
  | x :: r => by
    have ih := idxP_nonneg p r
    unfold idxP
    rw [List.any_cons, ← ih]
    cases hx : p x with
    | true => simp
    | false =>
      simp only [Bool.false_eq_true, if_false, Bool.false_or]
      split
      · rename_i h; simp; omega
      · rename_i h; simp; omega
theorem idxP_none {α : Type} (p : α → Bool) : ∀ l : List α, (∀ x ∈ l, p x = false) → idxP p l = -1
  | [], _ => rfl
  | x :: r, h => by
    unfold idxP
    rw [if_neg (by rw [h x (List.mem_cons_self ..)]; simp), idxP_none p r (fun y hy => h y (List.mem_cons_of_mem _ hy))]
    simp
theorem idxP_at {α : Type} (p : α → Bool) : ∀ (l : List α) (i : Nat) (h : i < l.length), p l[i] = true → (∀ j (hj : j < i), p (l[j]'(by omega)) = false) → idxP p l = i
  | [], i, h, _, _ => by simp at h
  | x :: r, 0, h, hp, _ => by
    unfold idxP
    rw [if_pos (by simpa using hp)]
    rfl
  | x :: r, i + 1, h, hp, hn => by
    have h0 := hn 0 (by omega)
    have ih := idxP_at p r i (by simpa using h) (by simpa using hp) (fun j hj => by simpa using hn (j + 1) (by omega))
    unfold idxP
    rw [if_neg (by simp at h0; rw [h0]; simp), ih, if_neg (by omega)]
    omega

end Go.Proofs.YtcgoaipbfnhjhaaGreatDoor.Pr

/- Bytes as elements. -/
namespace Go.Proofs.YtcgoaipbfnhjhaaGreatDoor.Pr
open Go.RowKit Go.Proofs.YtcgoaipbfnhjhaaGreatDoorW.PrintWords Go.Proofs.YtcgoaipbfnhjhaaGreatDoorW.PrintLast Go.Proofs.YtcgoaipbfnhjhaaGreatDoorW.PrintMore
set_option linter.unusedVariables false
set_option linter.unusedSimpArgs false

def encB (x : Int) : Value := .int .u8 x
theorem rdB (l : List Int) (i : Nat) (h : i < l.length) : rd l (i : Int) = l[i] := by
  unfold rd
  simp [List.getD_eq_getElem?_getD, List.getElem?_eq_getElem h]

end Go.Proofs.YtcgoaipbfnhjhaaGreatDoor.Pr

/- A text's bytes as a row. -/
namespace Go.Proofs.YtcgoaipbfnhjhaaGreatDoor.Pr
open Go.RowKit Go.Proofs.YtcgoaipbfnhjhaaGreatDoorW.PrintWords Go.Proofs.YtcgoaipbfnhjhaaGreatDoorW.PrintLast Go.Proofs.YtcgoaipbfnhjhaaGreatDoorW.PrintMore
set_option linter.unusedVariables false
set_option linter.unusedSimpArgs false

theorem bytes_C (W : World) (e : Nat) (s : ByteArray) (hs : s.size ≤ 9223372036854775807) : Kd.C (Kd.int .u8) (Lib.bytesWorld W e s) (some ⟨W.heap.size, 0, none⟩) (bytesOf s).length (bytesOf s) := by
  have h := bytes_reads W e s hs
  refine ⟨rfl, by rw [bytesOf_length]; exact hs, fun hn => ?_⟩
  obtain ⟨ad, e1, hc⟩ := h.2.2 (by rwa [bytesOf_length] at hn)
  refine ⟨ad, e1, fun j p hj => ?_⟩
  obtain ⟨hjl, hp⟩ := List.getElem?_eq_some_iff.1 hj
  have h2 := hc j (by rwa [bytesOf_length] at hjl)
  rw [List.getD_eq_getElem?_getD, hj] at h2
  refine ⟨[.int .u8 p], rfl, rfl, fun i u hi => ?_⟩
  have hi2 : i = 0 := by have := (List.getElem?_eq_some_iff.1 hi).1; simp at this; exact this
  subst hi2
  obtain rfl : Value.int .u8 p = u := by simpa using hi
  show (Lib.bytesWorld W e s).cell? (ad.add (j * 1 + 0)) = _
  rw [show j * 1 + 0 = j by omega]
  exact h2
theorem cell_keep {W w' : World} {B : Nat} {v : Value} (hb : Below W.heap.size W w') (hB : B < W.heap.size) (h : W.cell? ⟨B, 0, none⟩ = some v) : w'.cell? ⟨B, 0, none⟩ = some v := (hb.cell (p := ⟨B, 0, none⟩) hB).trans h
theorem lt_keep {W w' : World} {B : Nat} (hb : Below W.heap.size W w') (hB : B < W.heap.size) : B < w'.heap.size := Nat.lt_of_lt_of_le hB hb.size
theorem below_keep {w W w' : World} (hb : Below W.heap.size W w') (h : Below w.heap.size w W) : Below w.heap.size w w' := h.trans (hb.mono h.size)
theorem toList_ne {s t : ByteArray} (h : s ≠ t) : s.toList ≠ t.toList := fun e => h (by
  rw [ByteArray.toList_eq, ByteArray.toList_eq] at e
  exact ByteArray.ext (Array.toList_inj.1 e))
end Go.Proofs.YtcgoaipbfnhjhaaGreatDoor.Pr

/- Loops as lists of letters: letters named anew, and what a loop is. Plain lists, no program. -/
namespace Go.Proofs.YtcgoaipbfnhjhaaGreatDoor.M
set_option linter.unusedVariables false
set_option linter.unusedSimpArgs false

/-- Letters named anew in the order in which they come; ns are those that have come. -/
def anew : List Int → List Int → List Int
  | _, [] => []
  | ns, x :: r => (97 + (ns.idxOf x : Int)) :: anew (if x ∈ ns then ns else ns ++ [x]) r
/-- Letters in the order in which they come, after ns. -/
def newN : List Int → List Int → List Int
  | ns, [] => ns
  | ns, x :: r => newN (if x ∈ ns then ns else ns ++ [x]) r
theorem anew_length : ∀ (w ns : List Int), (anew ns w).length = w.length
  | [], _ => rfl
  | x :: r, ns => by simp [anew, anew_length r]
theorem newN_length : ∀ (w ns : List Int), (newN ns w).length ≤ ns.length + w.length
  | [], _ => by simp [newN]
  | x :: r, ns => by
    unfold newN
    by_cases h : x ∈ ns
    · rw [if_pos h]
      have := newN_length r ns
      simp; omega
    · rw [if_neg h]
      have := newN_length r (ns ++ [x])
      simp at this ⊢; omega
/-- Another naming of the letters changes nothing. -/
theorem anew_map (f : Int → Int) : ∀ (w ns : List Int), (∀ x ∈ ns ++ w, ∀ y ∈ ns ++ w, f x = f y → x = y) → anew (ns.map f) (w.map f) = anew ns w
  | [], _, _ => rfl
  | x :: r, ns, h => by
    have hi : (ns.map f).idxOf (f x) = ns.idxOf x := by
      have : ∀ l : List Int, (∀ y ∈ l, f y = f x → y = x) → (l.map f).idxOf (f x) = l.idxOf x := by
        intro l
        induction l with
        | nil => intro _; rfl
        | cons y l ih =>
          intro hl
          simp only [List.map_cons, List.idxOf_cons]
          by_cases e : y = x
          · subst e; simp
          · have hne : f y ≠ f x := fun e2 => e (hl y (List.mem_cons_self ..) e2)
            rw [ih (fun z hz => hl z (List.mem_cons_of_mem _ hz)), show (f y == f x) = false by simpa using hne, show (y == x) = false by simpa using e]
      refine this ns (fun y hy e => h y (by simp [hy]) x (by simp) e)
    have hm : f x ∈ ns.map f ↔ x ∈ ns := by
      constructor
      · intro hx
        obtain ⟨y, hy, e⟩ := List.mem_map.1 hx
        have := h y (by simp [hy]) x (by simp) e
        exact this ▸ hy
      · exact fun hx => List.mem_map.2 ⟨x, hx, rfl⟩
    rw [List.map_cons, anew, anew, hi]
    congr 1
    by_cases hx : x ∈ ns
    · rw [if_pos hx, if_pos (hm.2 hx)]
      exact anew_map f r ns (fun a ha b hb => h a (by simp at ha ⊢; rcases ha with ha | ha <;> simp [ha]) b (by simp at hb ⊢; rcases hb with hb | hb <;> simp [hb]))
    · rw [if_neg hx, if_neg (fun e => hx (hm.1 e)), ← List.map_singleton (f := f), ← List.map_append]
      exact anew_map f r (ns ++ [x]) (fun a ha b hb => h a (by simpa using ha) b (by simpa using hb))

/-- A loop whose letters come in order: j have come; how many have come at the end. -/
def runL : Nat → List Int → Option Nat
  | j, [] => some j
  | j, x :: r => if 97 ≤ x ∧ x < 97 + j then runL j r else if x = 97 + j then runL (j + 1) r else none
def abcL (j : Nat) : List Int := (List.range j).map fun (i : Nat) => (97 : Int) + (i : Int)
theorem mem_abc (j : Nat) (x : Int) : x ∈ abcL j ↔ 97 ≤ x ∧ x < 97 + j := by
  simp only [abcL, List.mem_map, List.mem_range]
  constructor
  · rintro ⟨i, hi, rfl⟩; omega
  · intro h; exact ⟨(x - 97).toNat, by omega, by omega⟩
theorem abc_succ (j : Nat) : abcL j ++ [97 + (j : Int)] = abcL (j + 1) := by simp [abcL, List.range_succ]
theorem abc_length (j : Nat) : (abcL j).length = j := by simp [abcL]
theorem idx_abc : ∀ (j : Nat) (x : Int), x ∈ abcL j → 97 + ((abcL j).idxOf x : Int) = x
  | 0, x, h => by simp [abcL] at h
  | j + 1, x, h => by
    rw [← abc_succ] at h ⊢
    by_cases hx : x ∈ abcL j
    · rw [List.idxOf_append, if_pos hx]; exact idx_abc j x hx
    · have e : x = 97 + (j : Int) := by
        rcases List.mem_append.1 h with h | h
        · exact absurd h hx
        · simpa using h
      rw [List.idxOf_append, if_neg hx, abc_length, e]
      simp
theorem idx_none (l : List Int) (x : Int) (h : x ∉ l) : l.idxOf x = l.length := List.idxOf_eq_length h
theorem anew_run : ∀ (w : List Int) (j : Nat), anew (abcL j) w = w ↔ (runL j w).isSome = true
  | [], j => by simp [anew, runL]
  | x :: r, j => by
    unfold anew runL
    by_cases hx : x ∈ abcL j
    · have hx2 := (mem_abc j x).1 hx
      rw [if_pos hx, if_pos hx2, idx_abc j x hx, List.cons.injEq]
      simp [anew_run r j]
    · have hx2 : ¬ (97 ≤ x ∧ x < 97 + (j : Int)) := fun h => hx ((mem_abc j x).2 h)
      rw [if_neg hx, if_neg hx2, idx_none _ _ hx, abc_length, List.cons.injEq]
      by_cases e : x = 97 + (j : Int)
      · rw [if_pos e, e, abc_succ]
        simp [anew_run r (j + 1)]
      · rw [if_neg e]
        constructor
        · intro h; exact absurd h.1.symm e
        · intro h; simp at h
theorem run_mono : ∀ (w : List Int) (j J : Nat), runL j w = some J → j ≤ J ∧ J ≤ j + w.length
  | [], j, J, h => by simp [runL] at h; simp; omega
  | x :: r, j, J, h => by
    unfold runL at h
    split at h
    · have := run_mono r j J h; simp; omega
    · split at h
      · have := run_mono r (j + 1) J h; simp; omega
      · cases h
theorem run_mem : ∀ (w : List Int) (j J : Nat), runL j w = some J → (∀ x ∈ w, 97 ≤ x ∧ x < 97 + (J : Int)) ∧ ∀ i : Nat, j ≤ i → i < J → 97 + (i : Int) ∈ w
  | [], j, J, h => by simp [runL] at h; subst h; exact ⟨by simp, fun i h1 h2 => by omega⟩
  | x :: r, j, J, h => by
    unfold runL at h
    split at h
    · rename_i hx
      have hm := run_mono r j J h
      obtain ⟨h1, h2⟩ := run_mem r j J h
      exact ⟨fun y hy => by rcases List.mem_cons.1 hy with e | hy; (· subst e; omega); exact h1 y hy, fun i a b => List.mem_cons_of_mem _ (h2 i a b)⟩
    · split at h
      · rename_i hx e
        have hm := run_mono r (j + 1) J h
        obtain ⟨h1, h2⟩ := run_mem r (j + 1) J h
        refine ⟨fun y hy => by rcases List.mem_cons.1 hy with e | hy; (· subst e; omega); exact h1 y hy, fun i a b => ?_⟩
        by_cases ei : i = j
        · subst ei; rw [e]; exact List.mem_cons_self ..
        · exact List.mem_cons_of_mem _ (h2 i (by omega) b)
      · cases h

/-- How many letters of w are among the first J. -/
def totL (w : List Int) : Nat → Nat
  | 0 => 0
  | J + 1 => totL w J + w.count (97 + (J : Int))
theorem tot_cons (x : Int) (w : List Int) : ∀ J : Nat, totL (x :: w) J = totL w J + if 97 ≤ x ∧ x < 97 + (J : Int) then 1 else 0
  | 0 => by
    rw [if_neg (by omega)]
    rfl
  | J + 1 => by
    rw [totL, totL, tot_cons x w J, List.count_cons]
    simp only [beq_iff_eq]
    split <;> split <;> split <;> omega
theorem tot_all : ∀ (w : List Int) (J : Nat), (∀ x ∈ w, 97 ≤ x ∧ x < 97 + (J : Int)) → totL w J = w.length
  | [], J, _ => by
    induction J with
    | zero => rfl
    | succ J ih => simp [totL]; simpa using ih
  | x :: w, J, h => by
    rw [tot_cons, if_pos (h x (List.mem_cons_self ..)), tot_all w J (fun y hy => h y (List.mem_cons_of_mem _ hy))]
    rfl
theorem tot_two (w : List Int) : ∀ J : Nat, (∀ i : Nat, i < J → w.count (97 + (i : Int)) = 2) → totL w J = 2 * J
  | 0, _ => rfl
  | J + 1, h => by
    rw [totL, tot_two w J (fun i hi => h i (by omega)), h J (by omega)]
    omega

/-- A loop. -/
def goodL (w : List Int) : Bool := decide (w.length ≤ 16) && (anew [] w == w) && w.all (fun x => w.count x == 2)
/-- What a loop is: twice m letters, the first m ones, each twice. -/
structure Loop (w : List Int) (m : Nat) : Prop where
  len : w.length = 2 * m
  few : m ≤ 8
  run : runL 0 w = some m
  lo : ∀ x ∈ w, 97 ≤ x
  hi : ∀ x ∈ w, x < 97 + (m : Int)
  two : ∀ i : Nat, i < m → w.count (97 + (i : Int)) = 2
theorem loop_of {w : List Int} (h : goodL w = true) : ∃ m, Loop w m := by
  simp only [goodL, Bool.and_eq_true, decide_eq_true_eq, beq_iff_eq, List.all_eq_true] at h
  obtain ⟨⟨h1, h2⟩, h3⟩ := h
  have h4 := (anew_run w 0).1 h2
  obtain ⟨m, hm⟩ := Option.isSome_iff_exists.1 h4
  obtain ⟨h5, h6⟩ := run_mem w 0 m hm
  have h7 : ∀ i : Nat, i < m → w.count (97 + (i : Int)) = 2 := fun i hi => h3 _ (h6 i (by omega) hi)
  have h8 := tot_all w m h5
  rw [tot_two w m h7] at h8
  exact ⟨m, h8.symm, by omega, hm, fun x hx => (h5 x hx).1, fun x hx => (h5 x hx).2, h7⟩
theorem Loop.half {w : List Int} {m : Nat} (h : Loop w m) : w.length / 2 = m := by have := h.len; omega
theorem Loop.cnt {w : List Int} {m : Nat} (h : Loop w m) {x : Int} (h1 : 97 ≤ x) (h2 : x < 97 + (m : Int)) : w.count x = 2 := by
  have := h.two (x - 97).toNat (by omega)
  rwa [show (97 : Int) + ((x - 97).toNat : Int) = x by omega] at this
theorem Loop.good {w : List Int} {m : Nat} (h : Loop w m) : goodL w = true := by
  simp only [goodL, Bool.and_eq_true, decide_eq_true_eq, beq_iff_eq, List.all_eq_true]
  refine ⟨⟨by have := h.len; have := h.few; omega, (anew_run w 0).2 (by rw [h.run]; rfl)⟩, fun x hx => h.cnt (h.lo x hx) (h.hi x hx)⟩
/-- All letters are among the first eight. -/
theorem good_letters {w : List Int} (h : goodL w = true) : ∀ x ∈ w, 97 ≤ x ∧ x ≤ 104 := fun x hx => by
  obtain ⟨m, hm⟩ := loop_of h
  have := hm.lo x hx
  have := hm.hi x hx
  have := hm.few
  omega
theorem good_even {w : List Int} (h : goodL w = true) : w.length % 2 = 0 := by
  obtain ⟨m, hm⟩ := loop_of h
  have := hm.len
  omega
end Go.Proofs.YtcgoaipbfnhjhaaGreatDoor.M

/- The two places of a letter of a loop, and what stands between them. Plain lists, no program. -/
namespace Go.Proofs.YtcgoaipbfnhjhaaGreatDoor.M
set_option linter.unusedVariables false
set_option linter.unusedSimpArgs false

/-- A list with a letter at just two places. -/
theorem two_parts (x : Int) : ∀ (w : List Int), w.count x = 2 → ∃ p q r, w = p ++ x :: (q ++ x :: r) ∧ x ∉ p ∧ x ∉ q ∧ x ∉ r := by
  have one : ∀ (w : List Int), w.count x = 1 → ∃ q r, w = q ++ x :: r ∧ x ∉ q ∧ x ∉ r := by
    intro w
    induction w with
    | nil => intro h; simp at h
    | cons y w ih =>
      intro h
      rw [List.count_cons] at h
      by_cases e : y = x
      · subst e
        simp at h
        exact ⟨[], w, rfl, by simp, List.count_eq_zero.1 h⟩
      · rw [if_neg (by simpa using e)] at h
        obtain ⟨q, r, rfl, h1, h2⟩ := ih (by omega)
        exact ⟨y :: q, r, rfl, by simp [h1, Ne.symm e], h2⟩
  intro w
  induction w with
  | nil => intro h; simp at h
  | cons y w ih =>
    intro h
    rw [List.count_cons] at h
    by_cases e : y = x
    · subst e
      simp at h
      obtain ⟨q, r, rfl, h1, h2⟩ := one w h
      exact ⟨[], q, r, rfl, by simp, h1, h2⟩
    · rw [if_neg (by simpa using e)] at h
      obtain ⟨p, q, r, rfl, h1, h2, h3⟩ := ih (by omega)
      exact ⟨y :: p, q, r, rfl, by simp [h1, Ne.symm e], h2, h3⟩
/-- What stands between the two places of a letter. -/
def midL (x : Int) (w : List Int) : List Int := (w.drop (w.idxOf x + 1)).takeWhile (fun y => y != x)
theorem idx_parts {x : Int} {p t : List Int} (h : x ∉ p) : (p ++ x :: t).idxOf x = p.length := by
  rw [List.idxOf_append, if_neg h]
  simp
theorem mid_parts {x : Int} {p q r : List Int} (h1 : x ∉ p) (h2 : x ∉ q) : midL x (p ++ x :: (q ++ x :: r)) = q := by
  unfold midL
  rw [idx_parts h1, show p.length + 1 = (p ++ [x]).length by simp, show p ++ x :: (q ++ x :: r) = (p ++ [x]) ++ (q ++ x :: r) by simp, List.drop_left]
  rw [List.takeWhile_append_of_pos (fun y hy => by simpa using fun e : y = x => h2 (e ▸ hy))]
  simp
/-- Two letters of a loop that are interlaced. -/
def lacedL (w : List Int) (a b : Int) : Bool := (midL a w).count b == 1
theorem laced_self {w : List Int} {a : Int} (h : w.count a = 2) : lacedL w a a = false := by
  obtain ⟨p, q, r, rfl, h1, h2, h3⟩ := two_parts a w h
  unfold lacedL
  rw [mid_parts h1 h2, List.count_eq_zero.2 h2]
  rfl
theorem laced_comm1 {w : List Int} {a b : Int} (ha : w.count a = 2) (hb : w.count b = 2) (h : lacedL w a b = true) : lacedL w b a = true := by
  have hne : a ≠ b := fun e => by subst e; rw [laced_self ha] at h; cases h
  obtain ⟨p, q, r, rfl, h1, h2, h3⟩ := two_parts a w ha
  unfold lacedL at h ⊢
  rw [mid_parts h1 h2, beq_iff_eq] at h
  have split1 : ∀ l : List Int, l.count b = 1 → ∃ u v, l = u ++ b :: v ∧ b ∉ u ∧ b ∉ v := by
    intro l hl
    have hm : b ∈ l := List.count_pos_iff.1 (by omega)
    obtain ⟨u, v, rfl⟩ := List.append_of_mem hm
    rw [List.count_append, List.count_cons_self] at hl
    exact ⟨u, v, rfl, List.count_eq_zero.1 (by omega), List.count_eq_zero.1 (by omega)⟩
  have hab : (a == b) = false := by simpa using hne
  rw [List.count_append, List.count_cons, List.count_append, List.count_cons, hab] at hb
  simp only [Bool.false_eq_true, if_false, Nat.add_zero] at hb
  obtain ⟨q1, q2, rfl, hq1, hq2⟩ := split1 q h
  have ca : ∀ l : List Int, a ∉ l → l.count a = 0 := fun l hl => List.count_eq_zero.2 hl
  simp only [List.mem_append, List.mem_cons, not_or] at h2
  by_cases hp : p.count b = 1
  · obtain ⟨p1, p2, rfl, hp1, hp2⟩ := split1 p hp
    simp only [List.mem_append, List.mem_cons, not_or] at h1
    rw [show p1 ++ b :: p2 ++ a :: (q1 ++ b :: q2 ++ a :: r) = p1 ++ b :: ((p2 ++ a :: q1) ++ b :: (q2 ++ a :: r)) by simp]
    rw [mid_parts hp1 (by simp [hp2, hq1, Ne.symm hne]), List.count_append, List.count_cons_self, ca _ h1.2.2, ca _ h2.1]
    rfl
  · obtain ⟨r1, r2, rfl, hr1, hr2⟩ := split1 r (by omega)
    simp only [List.mem_append, List.mem_cons, not_or] at h3
    have hp0 : b ∉ p := List.count_eq_zero.1 (by omega)
    rw [show p ++ a :: (q1 ++ b :: q2 ++ a :: (r1 ++ b :: r2)) = (p ++ a :: q1) ++ b :: ((q2 ++ a :: r1) ++ b :: r2) by simp]
    rw [mid_parts (by simp [hp0, hq1, Ne.symm hne]) (by simp [hq2, hr1, Ne.symm hne]), List.count_append, List.count_cons_self, ca _ h2.2.2, ca _ h3.1]
    rfl
theorem laced_comm {w : List Int} {a b : Int} (ha : w.count a = 2) (hb : w.count b = 2) : lacedL w a b = lacedL w b a := by
  cases h : lacedL w a b with
  | true => exact (laced_comm1 ha hb h).symm
  | false =>
    cases h2 : lacedL w b a with
    | true => rw [laced_comm1 hb ha h2] at h; cases h
    | false => rfl

/-- The letters from x on, d of them, for which p holds. -/
def lettP (p : Int → Bool) (x : Int) : Nat → List Int
  | 0 => []
  | d + 1 => if p x = true then x :: lettP p (x + 1) d else lettP p (x + 1) d
theorem lettP_length (p : Int → Bool) : ∀ (d : Nat) (x : Int), (lettP p x d).length ≤ d
  | 0, _ => by simp [lettP]
  | d + 1, x => by
    have := lettP_length p d (x + 1)
    unfold lettP
    split <;> simp <;> omega
theorem lettP_congr (p q : Int → Bool) : ∀ (d : Nat) (x : Int), (∀ y, x ≤ y → y < x + d → p y = q y) → lettP p x d = lettP q x d
  | 0, _, _ => rfl
  | d + 1, x, h => by
    rw [lettP, lettP, h x (by omega) (by omega), lettP_congr p q d (x + 1) (fun y h1 h2 => h y (by omega) (by omega))]
theorem lettP_nil (p : Int → Bool) : ∀ (d : Nat) (x : Int), lettP p x d = [] ↔ ∀ y, x ≤ y → y < x + d → p y = false
  | 0, x => by simp [lettP]; intro y h1 h2; omega
  | d + 1, x => by
    unfold lettP
    cases hp : p x with
    | true => simp; exact ⟨x, by omega, by omega, hp⟩
    | false =>
      simp only [Bool.false_eq_true, if_false]
      rw [lettP_nil p d (x + 1)]
      constructor
      · intro h y h1 h2
        by_cases e : y = x
        · subst e; exact hp
        · exact h y (by omega) (by omega)
      · intro h y h1 h2; exact h y (by omega) (by omega)
/-- All letters that are interlaced with one. -/
def withL (w : List Int) (m : Nat) (a : Int) : List Int := lettP (fun c => lacedL w a c) 97 m
/-- How many letters are interlaced with both of two. -/
def bothL (w : List Int) (m : Nat) (a b : Int) : Nat := (lettP (fun c => lacedL w a c && lacedL w b c) 97 m).length
theorem both_comm (w : List Int) (m : Nat) (a b : Int) : bothL w m a b = bothL w m b a := by
  unfold bothL
  rw [lettP_congr _ (fun c => lacedL w b c && lacedL w a c) m 97 (fun y _ _ => Bool.and_comm _ _)]
def evenL (w : List Int) (m : Nat) : Bool := (lettP (fun c => (withL w m c).length % 2 == 1) 97 m) == []
end Go.Proofs.YtcgoaipbfnhjhaaGreatDoor.M

-- Written by a program for this claim.
namespace Go.Proofs.YtcgoaipbfnhjhaaGreatDoor.Pr
open Go.RowKit Go.Proofs.YtcgoaipbfnhjhaaGreatDoorW.PrintWords Go.Proofs.YtcgoaipbfnhjhaaGreatDoorW.PrintLast Go.Proofs.YtcgoaipbfnhjhaaGreatDoorW.PrintMore
attribute [local go_sem] max2_int min2_int max_two min_two max_three min_three max_four min_four   -- for this text's walks alone
set_option linter.unusedVariables false
set_option linter.unusedSimpArgs false

/-! ### impl_lettersOf: function 111 -/
def impl_lettersOf.f (a0 : ByteArray) : Option (ByteArray) := if 0 ≤ (wrap64 ((a0.size : Int) / 2)) then (if (wrap64 ((a0.size : Int) / 2)) ≤ 8 then (some ((⟨#[97, 98, 99, 100, 101, 102, 103, 104]⟩ : ByteArray).extract 0 ((wrap64 ((a0.size : Int) / 2)) : Int).toNat)) else (none)) else (none)
set_option maxHeartbeats 8000000 in
set_option maxRecDepth 100000 in
theorem impl_lettersOf.calls (a0 : ByteArray) (r : ByteArray) (w : World) (h : impl_lettersOf.f a0 = some r) :
    Calls Tryz.prog 111 #[.string a0] w fun e w' => e = .returned (.string r) ∧ Drawn0 w w' := by
  have H : (if 0 ≤ (wrap64 ((a0.size : Int) / 2)) then (if (wrap64 ((a0.size : Int) / 2)) ≤ 8 then (some ((⟨#[97, 98, 99, 100, 101, 102, 103, 104]⟩ : ByteArray).extract 0 ((wrap64 ((a0.size : Int) / 2)) : Int).toNat)) else (none)) else (none)) = some r := h
  clear h
  obtain ⟨ji2, hji2⟩ : ∃ j_ : Int, (wrap64 ((a0.size : Int) / 2)) = j_ := ⟨_, rfl⟩
  replace H : (if 0 ≤ (ji2) then (if (ji2) ≤ 8 then (some ((⟨#[97, 98, 99, 100, 101, 102, 103, 104]⟩ : ByteArray).extract 0 ((ji2) : Int).toNat)) else (none)) else (none)) = some r := by first | (rw [hji2] at H; exact H) | (simp only [hji2] at H ⊢; exact H)
  have hji2w : (IntKind.i64.wrap ((a0.size : Int) / 2)) = ji2 := (i64_w _).trans hji2
  by_cases c3 : 0 ≤ (ji2)
  · rw [if_pos c3] at H
    have c3b0 := eq_true c3
    have c3b1 : decide (0 ≤ (ji2)) = true := decide_eq_true c3
    clear c3
    by_cases c4 : (ji2) ≤ 8
    · rw [if_pos c4] at H
      have c4b0 := eq_true c4
      have c4b1 : decide ((ji2) ≤ 8) = true := decide_eq_true c4
      clear c4
      obtain rfl := Option.some.inj H
      go_enter Tryz.func111, Tryz.ntmps111
      go_wp2
      go_ret
      exact ⟨by first | rfl | (simp; done) | (simp only [← hji2] <;> (first | rfl | simp)) | (simp [*]; done), by repeat (first | exact Drawn0.refl _ | apply Drawn0.step)⟩
    · rw [if_neg c4] at H
      exact absurd H (by simp)
  · rw [if_neg c3] at H
    exact absurd H (by simp)

end Go.Proofs.YtcgoaipbfnhjhaaGreatDoor.Pr

/- What the program's lettersWith computes, for any predicate that leaves old memory as it was: the letters for which it holds. -/
namespace Go.Proofs.YtcgoaipbfnhjhaaGreatDoor.Pr
open Go.RowKit Go.Proofs.YtcgoaipbfnhjhaaGreatDoorW.PrintWords Go.Proofs.YtcgoaipbfnhjhaaGreatDoorW.PrintLast Go.Proofs.YtcgoaipbfnhjhaaGreatDoorW.PrintMore
set_option linter.unusedVariables false
set_option linter.unusedSimpArgs false

def lettS (m : Nat) : ByteArray := (⟨#[97, 98, 99, 100, 101, 102, 103, 104]⟩ : ByteArray).extract 0 m
theorem lettS_facts : ∀ m : Fin 9, bytesOf (lettS m.val) = M.abcL m.val ∧ (lettS m.val).size = m.val := by decide +kernel
theorem lettersOf_eq (w : ByteArray) (m : Nat) (h : w.size / 2 = m) (hm : m ≤ 8) : impl_lettersOf.f w = some (lettS m) := by
  unfold impl_lettersOf.f
  have e : wrap64 ((w.size : Int) / 2) = m := by unfold wrap64; omega
  rw [e, if_pos (by omega), if_pos (by omega)]
  rfl
theorem abc_get (m i : Nat) (h : i < m) : (M.abcL m)[i]? = some (97 + (i : Int)) := by
  unfold M.abcL
  simp [h]

theorem cell_grown {w w1 : World} {row : Option Nat} {B : Nat} (hg : w.grownBy w1 row) (hB : B < w.heap.size) (hne : some B ≠ row) (j : Nat) : w1.cell? ⟨B, j, none⟩ = w.cell? ⟨B, j, none⟩ := by
  have h := hg.block B hB hne
  unfold World.cell?
  simp only [h]
theorem own_ne_append {w : World} {v v1 : Value} {B : Nat} (hat : v1.ownBlock = v.ownBlock ∨ ∃ b, v1.ownBlock = some b ∧ w.heap.size ≤ b) (hn : v.ownBlock ≠ some B) (hB : B < w.heap.size) : v1.ownBlock ≠ some B := by
  rcases hat with h | ⟨b, h, hb⟩
  · rw [h]; exact hn
  · rw [h]
    intro e
    injection e with e
    omega

set_option maxHeartbeats 8000000 in
set_option maxRecDepth 100000 in
theorem lettersWith_calls (w0 : ByteArray) (m : Nat) (hm0 : w0.size / 2 = m) (hm : m ≤ 8) (p : Int → Bool) (g : Nat) (lb : Array Value) (eg : ∀ args w, (callFunc g args).run Tryz.prog w = .ok (.enter g args) w) (w : World)
    (hp : ∀ (W : World) (x : Int), 97 ≤ x → x < 97 + (m : Int) → Below w.heap.size w W → Calls Tryz.prog g (#[.int .u8 x] ++ lb) W fun e w' => e = .returned (.bool (p x)) ∧ Below W.heap.size W w') :
    Calls Tryz.prog 82 #[.string w0, .func (.func g) #[] lb] w fun e w' => e = .returned (.string (strOfNums (M.lettP p 97 m))) ∧ Below w.heap.size w w' := by
  have HP := Aside0.mk hp
  have HL := Aside0.mk (fun (W : World) => impl_lettersOf.calls w0 (lettS m) W (lettersOf_eq w0 m hm0 hm))
  obtain ⟨hbl, hls⟩ : bytesOf (lettS m) = M.abcL m ∧ (lettS m).size = m := lettS_facts ⟨m, by omega⟩
  have HBL := Aside0.mk hbl
  have HCC := Aside0.mk (fun (W : World) => bytes_C W 5 (lettS m) (by omega))
  clear hp hm0 hbl
  have HB := Aside0.mk (Below.refl w.heap.size w)
  go_enter Tryz.func82, Tryz.ntmps82
  go_wp2_with (first | (go_at_call 111; refine (HL.out _).mono ?_; rintro e w1 ⟨rfl, ⟨nd, rfl⟩⟩) | ((with_reducible refine gate_dst (N := 8) rfl ?_); refine Kd.R_lit (Kd.int .u8) _ 5 ?hg (N := 8) ?hd (xs := ([] : List Int)) (inner := []) (ok := fun _ => True) (okp := fun _ => True) ?hr ?hp (fun _ hk => hk) trivial (Below.refl _ _) (Nat.le_refl _) (by simp) ?_; (case hd => rfl); (case hg => rfl); (case hr => first | (go_simp; done) | (go_simp; rfl)); (case hp => exact (Reps.none _ _)); intro v244 w6 ho7 hb hg_ hnew_; clear hg_ hnew_; have n0_ := Aside0.mk (Kd.R_lower ho7 (below_size (by repeat (first | (with_reducible first | exact HB.out | apply below_alloc | apply pw_below_drewN | apply below_drew1) | exact HB.out)))); have n1_ := Aside0.mk (below_step (by repeat (first | (with_reducible first | exact HB.out | apply below_alloc | apply pw_below_drewN | apply below_drew1) | exact HB.out)) hb); clear HB; have HO0 := n0_; have HB := n1_; clear n0_ n1_; clear hb ho7))
  rw [print_bytes 9 22 5 Tryz.underlying9 Tryz.underlying22 Tryz.underlying5]
  simp only [Result.andThen]
  rw [Oper.upon_value]
  rw [hls]
  have hc0 := HCC.out (w6.drewN nd)
  have hb0 : Below w.heap.size w (Lib.bytesWorld (w6.drewN nd) 5 (lettS m)) := bytes_below (pw_below_drewN HB.out nd) (by show w.heap.size ≤ w6.heap.size; exact HB.out.size) 5 (lettS m)
  have hn0 : v244.ownBlock ≠ some w6.heap.size := fun e => by
    obtain ⟨inner, ho, _⟩ := HO0.out.2
    exact absurd (own_lt ho _ e) (by omega)
  have hlt0 : w6.heap.size < (Lib.bytesWorld (w6.drewN nd) 5 (lettS m)).heap.size := by
    rw [Lib.bytesWorld_size]
    show w6.heap.size < w6.heap.size + 1
    omega
  have ho0 : Kd.R (Kd.int .u8) 5 (Lib.bytesWorld (w6.drewN nd) 5 (lettS m)) w.heap.size (fun _ => True) v244 [] := Kd.R_below (Kd.R_drewN HO0.out nd) (bytes_below (Below.refl _ _) (Nat.le_refl _) 5 (lettS m))
  rw [HBL.out, M.abc_length] at hc0
  rw [show (w6.drewN nd).heap.size = w6.heap.size from rfl] at hc0 ⊢
  generalize grownCap (w6.drewN nd) m 0 5 = cp
  generalize Lib.bytesWorld (w6.drewN nd) 5 (lettS m) = W1 at hc0 hb0 ho0 hlt0 ⊢
  generalize w6.heap.size = B1 at hc0 hn0 hlt0 ⊢
  clear HO0 HB HCC HL HBL hls
  have hcells : ∀ j : Nat, j < m → W1.cell? ⟨B1, j, none⟩ = some (.int .u8 (97 + (j : Int))) := fun i hlt => by
    obtain ⟨ad, e1, hc⟩ := hc0.2.2 (by omega)
    injection e1 with e1
    subst e1
    obtain ⟨cs, h1, h2, h3⟩ := hc i (97 + (i : Int)) (abc_get m i hlt)
    have h4 := h3 0 (.int .u8 (97 + (i : Int))) (by rw [show cs = [Value.int .u8 (97 + (i : Int))] from h2]; rfl)
    have ha : (⟨B1, 0, none⟩ : Addr).add (i * (Kd.int .u8).sz + 0) = ⟨B1, i, none⟩ := by
      rw [add_plain]
      show (⟨B1, i * 1 + 0, none⟩ : Addr) = _
      rw [show i * 1 + 0 = i by omega]
    rwa [ha] at h4
  have HC1 := Aside0.mk hcells
  have HN1 := Aside0.mk hn0
  have HLT1 := Aside0.mk hlt0
  clear hcells hn0 hlt0
  have HB := Aside0.mk hb0
  have HO := Aside0.mk ho0
  clear hc0 hb0 ho0
  go_wp2
  go_loopg [5, 7, 13] m (fun gg v5 v7 v13 w' => ∃ (i : Nat) (xs : List Int), v13 = .int .i64 i ∧ Aside0 (i + gg = m) ∧ Aside0 (M.lettP p 97 m = xs ++ M.lettP p (97 + (i : Int)) gg) ∧ Aside0 (xs.length ≤ i) ∧ Aside0 (Kd.R (Kd.int .u8) 5 w' w.heap.size (fun _ => True) v5 xs) ∧ Aside0 (Below w.heap.size w w') ∧ Aside0 (∀ j : Nat, j < m → w'.cell? ⟨B1, j, none⟩ = some (.int .u8 (97 + (j : Int)))) ∧ Aside0 (v5.ownBlock ≠ some B1) ∧ Aside0 (B1 < w'.heap.size))
  case atStart => exact ⟨0, [], by first | rfl | (simp; done) | (simp [*]; done), ⟨by omega⟩, ⟨by simp⟩, ⟨by simp⟩, HO, HB, HC1, HN1, HLT1⟩
  case round =>
    obtain ⟨i, xs, rfl, HG, HX, HLen, HO2, HB2, HW2, HNB2, HLB2⟩ := hrel
    clear HB HO HC1 HN1 HLT1
    have HB := HB2
    have HO := HO2
    have HW := HW2
    have HNB := HNB2
    have HLB := HLB2
    clear HB2 HO2 HW2 HNB2 HLB2
    by_cases hlt : i < m
    · have c4b0 : decide ((i : Int) < (m : Int)) = true := decide_eq_true (by omega)
      have c5b0 : decide (i < m) = true := decide_eq_true hlt
      obtain ⟨gm, rfl⟩ : ∃ gm, gk = gm + 1 := ⟨gk - 1, by have := HG.out; omega⟩
      have h0 := HW.out i hlt
      have hcall := HP.out wr (97 + (i : Int)) (by omega) (by omega) HB.out
      have HN := Aside0.mk (show M.lettP p (97 + (i : Int)) (gm + 1) = if p (97 + (i : Int)) = true then (97 + (i : Int)) :: M.lettP p (97 + (i : Int) + 1) gm else M.lettP p (97 + (i : Int) + 1) gm from rfl)
      have hx0 : (0 : Int) ≤ 97 + (i : Int) := by omega
      have hx1 : 97 + (i : Int) < 128 := by omega
      cases hq : p (97 + (i : Int)) with
      | true =>
        rw [hq] at hcall
        have HQ := Aside0.mk hq
        clear hq
        go_wp2_with (first | (go_at_fn g; refine hcall.mono ?_; rintro e w1 ⟨rfl, hb1⟩; have HO1 := Aside0.mk (Kd.R_below HO.out hb1); have HBx := Aside0.mk (HB.out.trans (hb1.mono HB.out.size)); have HWx := Aside0.mk (fun (j : Nat) (hj : j < m) => (hb1.cell (p := ⟨B1, j, none⟩) HLB.out).trans (HW.out j hj)); have HLx := Aside0.mk (Nat.lt_of_lt_of_le HLB.out hb1.size); clear HO HB HW HLB; have HO := HO1; have HB := HBx; have HW := HWx; have HLB := HLx; clear HO1 HBx HWx HLx hb1) | ((with_reducible refine gate_builtin (b := .append) (xs := #[.tmp 20, .tmp 22]) rfl ?_); at_builtin; refine Kd.R_append (Kd.int .u8) (w0 := w) w.heap.size rfl (.tmp 20) (.tmp 22) 22 5 (.int .u8 0) 1 rfl Tryz.underlying22 info5 rfl (by decide) (by omega) u5 xs (97 + (i : Int)) [.int .u8 (97 + (i : Int))] (fun _ => True) (fun _ => False) rfl rfl ?aP (fun _ hk => hk.elim) ?aF ?aO ?aB ?aS ?aL ?_; (case aP => exact rfl); (case aB => exact (by repeat (first | (with_reducible first | exact HB.out | apply below_alloc | apply pw_below_drewN | apply below_drew1) | exact HB.out))); (case aF => exact (fun _ _ => trivial)); (case aO => exact (by (with_reducible repeat (first | apply Kd.R_alloc | apply Kd.R_drewN | apply Kd.R_drew)); exact HO.out)); (case aS => exact (below_size (by repeat (first | (with_reducible first | exact HB.out | apply below_alloc | apply pw_below_drewN | apply below_drew1) | exact HB.out)))); (case aL => have := HLen.out; omega); intro v361 w25 ho hb hg hat; have n0_ := Aside0.mk (hb); have n1_ := Aside0.mk (ho); have HWx := Aside0.mk (fun (j : Nat) (hj : j < m) => (cell_grown hg HLB.out (fun e => HNB.out e.symm) j).trans (HW.out j hj)); have HLx := Aside0.mk (Nat.lt_of_lt_of_le HLB.out hg.size); have HNx := Aside0.mk (own_ne_append hat HNB.out HLB.out); clear HB HO HW HLB HNB; have HB := n0_; have HO := n1_; have HW := HWx; have HLB := HLx; have HNB := HNx; clear n0_ n1_ HWx HLx HNx; clear ho hat hb hg))
        go_roundg gm
        case measure => omega
        case rel => exact ⟨i + 1, xs ++ [97 + (i : Int)], by first | rfl | (simp; done) | (simp [*]; done), ⟨by have := HG.out; omega⟩, ⟨by rw [HX.out, HN.out, if_pos HQ.out, List.append_assoc, show (97 : Int) + ((i + 1 : Nat) : Int) = 97 + (i : Int) + 1 by omega]; rfl⟩, ⟨by have := HLen.out; simp; omega⟩, HO, HB, HW, HNB, HLB⟩
      | false =>
        rw [hq] at hcall
        have HQ := Aside0.mk hq
        clear hq
        go_wp2_with (first | (go_at_fn g; refine hcall.mono ?_; rintro e w1 ⟨rfl, hb1⟩; have HO1 := Aside0.mk (Kd.R_below HO.out hb1); have HBx := Aside0.mk (HB.out.trans (hb1.mono HB.out.size)); have HWx := Aside0.mk (fun (j : Nat) (hj : j < m) => (hb1.cell (p := ⟨B1, j, none⟩) HLB.out).trans (HW.out j hj)); have HLx := Aside0.mk (Nat.lt_of_lt_of_le HLB.out hb1.size); clear HO HB HW HLB; have HO := HO1; have HB := HBx; have HW := HWx; have HLB := HLx; clear HO1 HBx HWx HLx hb1))
        go_roundg gm
        case measure => omega
        case rel => exact ⟨i + 1, xs, by first | rfl | (simp; done) | (simp [*]; done), ⟨by have := HG.out; omega⟩, ⟨by rw [HX.out, HN.out, if_neg (by rw [HQ.out]; simp), show (97 : Int) + ((i + 1 : Nat) : Int) = 97 + (i : Int) + 1 by omega]⟩, ⟨by have := HLen.out; omega⟩, HO, HB, HW, HNB, HLB⟩
    · have c4b0 : decide ((i : Int) < (m : Int)) = false := decide_eq_false (by omega)
      have c5b0 : decide (i < m) = false := decide_eq_false hlt
      have HE := Aside0.mk (show M.lettP p 97 m = xs from by
        have h0 : gk = 0 := by have := HG.out; omega
        rw [HX.out, h0]
        simp [M.lettP])
      have hcv := own_string (P := Tryz.prog) Tryz.underlying22 Tryz.underlying5 Tryz.underlying9 (Kd.own_of_R HO.out)
      clear HX HG HLen
      go_wp2
      go_ret
      exact ⟨by rw [HE.out]; rfl, HB.out⟩
end Go.Proofs.YtcgoaipbfnhjhaaGreatDoor.Pr

/-
  DERIVED: THE SHELF's CONTRACTS AT THIS DUMP, IN PLAIN WORDS (tools/lay-plain.mjs out of 'YtcgoaipbfnhjhaaGreatDoorStrLay.lean', which tools/lay-shelf.mjs wrote): THE SAME DECLARATIONS UNDER THE SAME NAMES: 'import', 'namespace', 'open', 'def', 'theorem' AND NOTHING ELSE: no command of the shelf's: FOR A HAND-IN. Each laying: the table of numbers ('.._ren') and one theorem, a field a fact of the dump's own or the kernel's comparison; each contract: ONE APPLICATION.
-/
namespace Go.Proofs
open Go.Shelf
def Tryz.l137_ren : Go.Shelf.Ren := ⟨fun | 137 => 85 | 217 => 120 | 266 => 131 | n => n, fun | 9 => 9 | 5 => 5 | 3 => 3 | n => n, fun | n => n⟩
theorem Tryz.l137 : Go.Proofs.Lays.n137 Tryz.prog Tryz.l137_ren := {
  mixed := by kernel_rfl
  f137 := Tryz.func85.trans (congrArg some (by kernel_rfl))
  f217 := Tryz.func120.trans (congrArg some (by kernel_rfl))
  f266 := Tryz.func131.trans (congrArg some (by kernel_rfl))
  t3 := Tryz.underlying3
  a3 := Tryz.isAgg3
  z3 := Tryz.sizeOf3
  v3 := Tryz.zeroValue3
  t5 := Tryz.underlying5
  a5 := Tryz.isAgg5
  z5 := Tryz.sizeOf5
  v5 := Tryz.zeroValue5
  t9 := Tryz.underlying9
  a9 := Tryz.isAgg9
  z9 := Tryz.sizeOf9
  v9 := Tryz.zeroValue9 }
def Tryz.l149_ren : Go.Shelf.Ren := ⟨fun | 149 => 84 | 222 => 119 | n => n, fun | 9 => 9 | 5 => 5 | 3 => 3 | 4 => 4 | n => n, fun | n => n⟩
theorem Tryz.l149 : Go.Proofs.Lays.n149 Tryz.prog Tryz.l149_ren := {
  mixed := by kernel_rfl
  f149 := Tryz.func84.trans (congrArg some (by kernel_rfl))
  f222 := Tryz.func119.trans (congrArg some (by kernel_rfl))
  t3 := Tryz.underlying3
  a3 := Tryz.isAgg3
  z3 := Tryz.sizeOf3
  v3 := Tryz.zeroValue3
  t4 := Tryz.underlying4
  a4 := Tryz.isAgg4
  z4 := Tryz.sizeOf4
  v4 := Tryz.zeroValue4
  t5 := Tryz.underlying5
  a5 := Tryz.isAgg5
  z5 := Tryz.sizeOf5
  v5 := Tryz.zeroValue5
  t9 := Tryz.underlying9
  a9 := Tryz.isAgg9
  z9 := Tryz.sizeOf9
  v9 := Tryz.zeroValue9 }
def Tryz.l160_ren : Go.Shelf.Ren := ⟨fun | 160 => 62 | 232 => 101 | 231 => 100 | 227 => 102 | 234 => 104 | 233 => 103 | 236 => 106 | 235 => 105 | 228 => 124 | 271 => 127 | 151 => 126 | 197 => 125 | 120 => 137 | 152 => 136 | 260 => 135 | 137 => 85 | 119 => 143 | 224 => 139 | 225 => 138 | 217 => 120 | 266 => 131 | n => n, fun | 9 => 9 | 4 => 4 | 3 => 3 | 5 => 5 | 117 => 80 | 116 => 79 | 0 => 0 | 124 => 83 | 21 => 21 | 105 => 92 | 46 => 95 | 119 => 106 | 139 => 109 | 138 => 108 | n => n, fun | 3 => 1 | 4 => 2 | n => n⟩
theorem Tryz.l160 : Go.Proofs.Lays.n160 Tryz.prog Tryz.l160_ren := {
  mixed := by kernel_rfl
  f119 := Tryz.func143.trans (congrArg some (by kernel_rfl))
  f120 := Tryz.func137.trans (congrArg some (by kernel_rfl))
  f137 := Tryz.func85.trans (congrArg some (by kernel_rfl))
  f151 := Tryz.func126.trans (congrArg some (by kernel_rfl))
  f152 := Tryz.func136.trans (congrArg some (by kernel_rfl))
  f160 := Tryz.func62.trans (congrArg some (by kernel_rfl))
  f197 := Tryz.func125.trans (congrArg some (by kernel_rfl))
  f217 := Tryz.func120.trans (congrArg some (by kernel_rfl))
  f224 := Tryz.func139.trans (congrArg some (by kernel_rfl))
  f225 := Tryz.func138.trans (congrArg some (by kernel_rfl))
  f227 := Tryz.func102.trans (congrArg some (by kernel_rfl))
  f228 := Tryz.func124.trans (congrArg some (by kernel_rfl))
  f231 := Tryz.func100.trans (congrArg some (by kernel_rfl))
  f232 := Tryz.func101.trans (congrArg some (by kernel_rfl))
  f233 := Tryz.func103.trans (congrArg some (by kernel_rfl))
  f234 := Tryz.func104.trans (congrArg some (by kernel_rfl))
  f235 := Tryz.func105.trans (congrArg some (by kernel_rfl))
  f236 := Tryz.func106.trans (congrArg some (by kernel_rfl))
  f260 := Tryz.func135.trans (congrArg some (by kernel_rfl))
  f266 := Tryz.func131.trans (congrArg some (by kernel_rfl))
  f271 := Tryz.func127.trans (congrArg some (by kernel_rfl))
  t0 := Tryz.underlying0
  a0 := Tryz.isAgg0
  z0 := Tryz.sizeOf0
  v0 := Tryz.zeroValue0
  t3 := Tryz.underlying3
  a3 := Tryz.isAgg3
  z3 := Tryz.sizeOf3
  v3 := Tryz.zeroValue3
  t4 := Tryz.underlying4
  a4 := Tryz.isAgg4
  z4 := Tryz.sizeOf4
  v4 := Tryz.zeroValue4
  t5 := Tryz.underlying5
  a5 := Tryz.isAgg5
  z5 := Tryz.sizeOf5
  v5 := Tryz.zeroValue5
  t9 := Tryz.underlying9
  a9 := Tryz.isAgg9
  z9 := Tryz.sizeOf9
  v9 := Tryz.zeroValue9
  t21 := Tryz.underlying21
  a21 := Tryz.isAgg21
  z21 := Tryz.sizeOf21
  v21 := Tryz.zeroValue21
  t46 := Tryz.underlying95
  a46 := Tryz.isAgg95
  z46 := Tryz.sizeOf95
  v46 := Tryz.zeroValue95
  t105 := Tryz.underlying92
  a105 := Tryz.isAgg92
  z105 := Tryz.sizeOf92
  v105 := Tryz.zeroValue92
  t116 := Tryz.underlying79
  a116 := Tryz.isAgg79
  z116 := Tryz.sizeOf79
  t117 := Tryz.underlying80
  a117 := Tryz.isAgg80
  z117 := Tryz.sizeOf80
  v117 := Tryz.zeroValue80
  t119 := Tryz.underlying106
  a119 := Tryz.isAgg106
  z119 := Tryz.sizeOf106
  t124 := Tryz.underlying83
  a124 := Tryz.isAgg83
  z124 := Tryz.sizeOf83
  v124 := Tryz.zeroValue83
  t138 := Tryz.underlying108
  a138 := Tryz.isAgg108
  z138 := Tryz.sizeOf108
  v138 := Tryz.zeroValue108
  t139 := Tryz.underlying109
  a139 := Tryz.isAgg109
  z139 := Tryz.sizeOf109
  v139 := Tryz.zeroValue109
  g3 := by kernel_rfl
  g4 := by kernel_rfl }
def Tryz.l138_ren : Go.Shelf.Ren := ⟨fun | 138 => 66 | 195 => 108 | 218 => 109 | 143 => 110 | 219 => 128 | 217 => 120 | 225 => 138 | 224 => 139 | 267 => 140 | 266 => 131 | 314 => 144 | n => n, fun | 9 => 9 | 3 => 3 | 4 => 4 | 5 => 5 | 0 => 0 | 46 => 95 | 146 => 112 | 51 => 111 | n => n, fun | 1 => 0 | n => n⟩
theorem Tryz.l138 : Go.Proofs.Lays.n138 Tryz.prog Tryz.l138_ren := {
  mixed := by kernel_rfl
  f138 := Tryz.func66.trans (congrArg some (by kernel_rfl))
  f143 := Tryz.func110.trans (congrArg some (by kernel_rfl))
  f195 := Tryz.func108.trans (congrArg some (by kernel_rfl))
  f217 := Tryz.func120.trans (congrArg some (by kernel_rfl))
  f218 := Tryz.func109.trans (congrArg some (by kernel_rfl))
  f219 := Tryz.func128.trans (congrArg some (by kernel_rfl))
  f224 := Tryz.func139.trans (congrArg some (by kernel_rfl))
  f225 := Tryz.func138.trans (congrArg some (by kernel_rfl))
  f266 := Tryz.func131.trans (congrArg some (by kernel_rfl))
  f267 := Tryz.func140.trans (congrArg some (by kernel_rfl))
  f314 := Tryz.func144.trans (congrArg some (by kernel_rfl))
  t0 := Tryz.underlying0
  a0 := Tryz.isAgg0
  z0 := Tryz.sizeOf0
  v0 := Tryz.zeroValue0
  t3 := Tryz.underlying3
  a3 := Tryz.isAgg3
  z3 := Tryz.sizeOf3
  v3 := Tryz.zeroValue3
  t4 := Tryz.underlying4
  a4 := Tryz.isAgg4
  z4 := Tryz.sizeOf4
  v4 := Tryz.zeroValue4
  t5 := Tryz.underlying5
  a5 := Tryz.isAgg5
  z5 := Tryz.sizeOf5
  v5 := Tryz.zeroValue5
  t9 := Tryz.underlying9
  a9 := Tryz.isAgg9
  z9 := Tryz.sizeOf9
  v9 := Tryz.zeroValue9
  t46 := Tryz.underlying95
  a46 := Tryz.isAgg95
  z46 := Tryz.sizeOf95
  v46 := Tryz.zeroValue95
  t51 := Tryz.underlying111
  a51 := Tryz.isAgg111
  z51 := Tryz.sizeOf111
  v51 := Tryz.zeroValue111
  t146 := Tryz.underlying112
  a146 := Tryz.isAgg112
  z146 := Tryz.sizeOf112
  v146 := Tryz.zeroValue112
  g1 := by kernel_rfl }
def Tryz.l144_ren : Go.Shelf.Ren := ⟨fun | 144 => 99 | 143 => 110 | 219 => 128 | 217 => 120 | 225 => 138 | 224 => 139 | 267 => 140 | 266 => 131 | 314 => 144 | n => n, fun | 9 => 9 | 4 => 4 | 3 => 3 | 5 => 5 | 46 => 95 | 146 => 112 | 51 => 111 | n => n, fun | 1 => 0 | n => n⟩
theorem Tryz.l144 : Go.Proofs.Lays.n144 Tryz.prog Tryz.l144_ren := {
  mixed := by kernel_rfl
  f143 := Tryz.func110.trans (congrArg some (by kernel_rfl))
  f144 := Tryz.func99.trans (congrArg some (by kernel_rfl))
  f217 := Tryz.func120.trans (congrArg some (by kernel_rfl))
  f219 := Tryz.func128.trans (congrArg some (by kernel_rfl))
  f224 := Tryz.func139.trans (congrArg some (by kernel_rfl))
  f225 := Tryz.func138.trans (congrArg some (by kernel_rfl))
  f266 := Tryz.func131.trans (congrArg some (by kernel_rfl))
  f267 := Tryz.func140.trans (congrArg some (by kernel_rfl))
  f314 := Tryz.func144.trans (congrArg some (by kernel_rfl))
  t3 := Tryz.underlying3
  a3 := Tryz.isAgg3
  z3 := Tryz.sizeOf3
  v3 := Tryz.zeroValue3
  t4 := Tryz.underlying4
  a4 := Tryz.isAgg4
  z4 := Tryz.sizeOf4
  v4 := Tryz.zeroValue4
  t5 := Tryz.underlying5
  a5 := Tryz.isAgg5
  z5 := Tryz.sizeOf5
  v5 := Tryz.zeroValue5
  t9 := Tryz.underlying9
  a9 := Tryz.isAgg9
  z9 := Tryz.sizeOf9
  v9 := Tryz.zeroValue9
  t46 := Tryz.underlying95
  a46 := Tryz.isAgg95
  z46 := Tryz.sizeOf95
  v46 := Tryz.zeroValue95
  t51 := Tryz.underlying111
  a51 := Tryz.isAgg111
  z51 := Tryz.sizeOf111
  v51 := Tryz.zeroValue111
  t146 := Tryz.underlying112
  a146 := Tryz.isAgg112
  z146 := Tryz.sizeOf112
  v146 := Tryz.zeroValue112
  g1 := by kernel_rfl }
end Go.Proofs

/- What the library's string functions compute: a byte's first and last place, its number, and a cut at both ends. -/
namespace Go.Proofs.YtcgoaipbfnhjhaaGreatDoor.Pr
open Go.RowKit Go.Proofs.YtcgoaipbfnhjhaaGreatDoorW.PrintWords Go.Proofs.YtcgoaipbfnhjhaaGreatDoorW.PrintLast Go.Proofs.YtcgoaipbfnhjhaaGreatDoorW.PrintMore
set_option linter.unusedVariables false
set_option linter.unusedSimpArgs false

def strings_IndexByte.f (a0 : ByteArray) (a1 : Int) : Option (Int) := some (Lib.indexByte a0.data.toList a1.toNat.toUInt8)
theorem strings_IndexByte.calls (a0 : ByteArray) (a1 : Int) (r : Int) (w : World) (h : strings_IndexByte.f a0 a1 = some r) :
    Calls Tryz.prog 85 #[.string a0, .int .u8 a1] w fun e w' => e = .returned (.int .i64 r) ∧ Drawn0 w w' := by
  obtain rfl := Option.some.inj h
  exact (Any.strings_IndexByte Tryz.l137 a0 a1 w).mono fun e w' ⟨he, hw⟩ => ⟨he, hw ▸ Drawn0.refl _⟩
def strings_LastIndexByte.f (a0 : ByteArray) (a1 : Int) : Option (Int) := if a0.size ≤ 1048576 then some (Lib.lastIndexByte a0 a1) else none
theorem strings_LastIndexByte.calls (a0 : ByteArray) (a1 : Int) (r : Int) (w : World) (h : strings_LastIndexByte.f a0 a1 = some r) :
    Calls Tryz.prog 84 #[.string a0, .int .u8 a1] w fun e w' => e = .returned (.int .i64 r) ∧ Drawn0 w w' := by
  unfold strings_LastIndexByte.f at h
  by_cases hs : a0.size ≤ 1048576
  · rw [if_pos hs] at h
    obtain rfl := Option.some.inj h
    exact (Any.strings_LastIndexByte Tryz.l149 a0 a1 (by omega) w).mono fun e w' ⟨he, hw⟩ => ⟨he, hw ▸ Drawn0.refl _⟩
  · rw [if_neg hs] at h; cases h
/-- A text of one byte. -/
theorem one_byte {s : ByteArray} (h : s.data.toList.length = 1) : s = ⟨#[s.data.toList.headD 0]⟩ := by
  obtain ⟨⟨l⟩⟩ := s
  match l, h with
  | [c], _ => rfl
def strings_Count.f (a0 : ByteArray) (a1 : ByteArray) : Option (Int) := if a1.data.toList.length = 1 then some ((a0.data.toList.count (a1.data.toList.headD 0) : Nat) : Int) else none
theorem strings_Count.calls (a0 : ByteArray) (a1 : ByteArray) (r : Int) (w : World) (h : strings_Count.f a0 a1 = some r) :
    Calls Tryz.prog 66 #[.string a0, .string a1] w fun e w' => e = .returned (.int .i64 r) ∧ Drawn0 w w' := by
  unfold strings_Count.f at h
  by_cases hs : a1.data.toList.length = 1
  · rw [if_pos hs] at h
    obtain rfl := Option.some.inj h
    have e := one_byte hs
    generalize a1.data.toList.headD 0 = c at e ⊢
    subst e
    exact (Any.strings_Count_one Tryz.l138 a0 c w).mono fun e w' ⟨he, hw⟩ => ⟨he, hw ▸ Drawn0.refl _⟩
  · rw [if_neg hs] at h; cases h
def strings_Contains.f (a0 : ByteArray) (a1 : ByteArray) : Option (Bool) := if a1.data.toList.length = 1 then some (decide (0 ≤ Lib.indexByte a0.data.toList (a1.data.toList.headD 0))) else none
theorem strings_Contains.calls (a0 : ByteArray) (a1 : ByteArray) (r : Bool) (w : World) (h : strings_Contains.f a0 a1 = some r) :
    Calls Tryz.prog 99 #[.string a0, .string a1] w fun e w' => e = .returned (.bool r) ∧ Drawn0 w w' := by
  unfold strings_Contains.f at h
  by_cases hs : a1.data.toList.length = 1
  · rw [if_pos hs] at h
    obtain rfl := Option.some.inj h
    have e := one_byte hs
    generalize a1.data.toList.headD 0 = c at e ⊢
    subst e
    exact (Any.strings_Contains_one Tryz.l144 a0 c w).mono fun e w' ⟨he, hw⟩ => ⟨he, hw ▸ Drawn0.refl _⟩
  · rw [if_neg hs] at h; cases h
end Go.Proofs.YtcgoaipbfnhjhaaGreatDoor.Pr

/- How often a text stands in a short one: a small number. -/
namespace Go.Proofs.YtcgoaipbfnhjhaaGreatDoor.Pr
open Go.RowKit Go.Proofs.YtcgoaipbfnhjhaaGreatDoorW.PrintWords Go.Proofs.YtcgoaipbfnhjhaaGreatDoorW.PrintLast Go.Proofs.YtcgoaipbfnhjhaaGreatDoorW.PrintMore
set_option linter.unusedVariables false
set_option linter.unusedSimpArgs false

theorem encode_small {c : Int} (h0 : 0 ≤ c) (h1 : c < 128) : Utf8.encode c = ⟨#[c.toNat.toUInt8]⟩ := by
  have h : ∀ n : Fin 128, Utf8.encode (n.val : Int) = ⟨#[n.val.toUInt8]⟩ := by decide +kernel
  obtain ⟨n, rfl⟩ := Int.eq_ofNat_of_zero_le h0
  exact h ⟨n, by omega⟩
theorem count_small (w : ByteArray) (c : Int) (h0 : 0 ≤ c) (h1 : c < 128) (W : World) :
    Calls Tryz.prog 66 #[.string w, .string (Utf8.encode c)] W fun e w' => e = .returned (.int .i64 ((w.data.toList.count c.toNat.toUInt8 : Nat) : Int)) ∧ Drawn0 W w' := by
  rw [encode_small h0 h1]
  exact strings_Count.calls w _ _ W rfl

end Go.Proofs.YtcgoaipbfnhjhaaGreatDoor.Pr

/- What the program's onward computes . -/
namespace Go.Proofs.YtcgoaipbfnhjhaaGreatDoor.Pr
open Go.RowKit Go.Proofs.YtcgoaipbfnhjhaaGreatDoorW.PrintWords Go.Proofs.YtcgoaipbfnhjhaaGreatDoorW.PrintLast Go.Proofs.YtcgoaipbfnhjhaaGreatDoorW.PrintMore
set_option linter.unusedVariables false
set_option linter.unusedSimpArgs false

/-- Whether a letter's first place is one. -/
def hasB (b : ByteArray) (u : Nat) : Bool := decide (0 ≤ Lib.indexByte b.data.toList ((97 + u : Nat).toUInt8))
/-- How many letters have come, from u on. -/
def usedF (b : ByteArray) : Nat → Nat → Nat
  | 0, u => u
  | d + 1, u => if hasB b u = true then usedF b d (u + 1) else u
theorem usedF_ge (b : ByteArray) : ∀ (d u : Nat), u ≤ usedF b d u ∧ usedF b d u ≤ u + d
  | 0, u => by simp [usedF]
  | d + 1, u => by
    unfold usedF
    have := usedF_ge b d (u + 1)
    split <;> omega
theorem letter_at : ∀ u : Fin 8, (⟨#[97, 98, 99, 100, 101, 102, 103, 104]⟩ : ByteArray).extract u.val (u.val + 1) = ⟨#[(97 + u.val : Nat).toUInt8]⟩ := by decide +kernel
theorem has_at (b : ByteArray) (u : Nat) (hu : u < 8) (W : World) : Calls Tryz.prog 99 #[.string b, .string ((⟨#[97, 98, 99, 100, 101, 102, 103, 104]⟩ : ByteArray).extract u (u + 1))] W fun e w' => e = .returned (.bool (hasB b u)) ∧ Drawn0 W w' := by
  rw [letter_at ⟨u, hu⟩]
  exact strings_Contains.calls b _ _ W rfl
/-- The letters that have come once, with what each counts. -/
def onwL (k : Nat) (b : ByteArray) (x y : Int) : Nat → Nat → List Int → List Int → Option (List Int × List Int)
  | 0, _, ls, cs => some (ls, cs)
  | d + 1, i, ls, cs => if b.data.toList.count ((97 + i : Nat).toUInt8) = 1 then (impl_countOn.f k x y).bind fun v => onwL k b x y d (i + 1) (ls ++ [97 + (i : Int)]) (cs ++ [v]) else onwL k b x y d (i + 1) ls cs
def onwF (k : Nat) (n : Nat) (b : ByteArray) : Option (List Int × List Int) :=
  let u := usedF b n 0
  let o : Int := 2 * (u : Int) - (b.size : Int)
  (onwL k b (o - 1) ((n : Int) - (u : Int)) u 0 [] []).bind fun p => if u < n then (impl_countOn.f k (o + 1) ((n : Int) - (u : Int) - 1)).bind fun v => some (p.1 ++ [97 + (u : Int)], p.2 ++ [v]) else some p

theorem info_int : (Tryz.prog.info? 3).map (fun i => (i.zero, i.size, i.bytes)) = some (some (.int .i64 0), 1, 8) := by kernel_rfl
theorem und_ints : Tryz.prog.underlying 56 = some (.slice 3) := by kernel_rfl
set_option maxHeartbeats 1000000 in
set_option maxRecDepth 100000 in
theorem onward_calls (k : Nat) (n : Nat) (hn : n ≤ 8) (b : ByteArray) (hb : b.size ≤ 16) (ls cs : List Int) (w : World) (h : onwF k n b = some (ls, cs)) :
    Calls Tryz.prog 61 #[.int .i64 n, .string b] w fun e w' => ∃ v1 v2, e = .returned (.tuple #[v1, v2]) ∧ Kd.R (Kd.int .u8) 5 w' w.heap.size (fun _ => True) v1 ls ∧ Kd.R (Kd.int .i64) 3 w' w.heap.size (fun _ => True) v2 cs ∧ Below w.heap.size w w' := by
  have HU := Aside0.mk (show usedF b (n - 0) 0 = usedF b n 0 from rfl)
  obtain ⟨u, hu⟩ : ∃ u, u = usedF b n 0 := ⟨_, rfl⟩
  have hu8 : u ≤ n := by have := usedF_ge b n 0; omega
  unfold onwF at h
  rw [← hu] at h HU
  have HH := Aside0.mk h
  have HB := Aside0.mk (Below.refl w.heap.size w)
  clear h hu
  go_enter Tryz.func61, Tryz.ntmps61
  go_wp2_with fail
  go_loopg [6] n (fun gg v6 w' => ∃ (i : Nat), v6 = .int .i64 i ∧ Aside0 (i + gg = n) ∧ Aside0 (usedF b (n - i) i = u) ∧ Aside0 (Below w.heap.size w w'))
  case atStart => exact ⟨0, rfl, ⟨by omega⟩, HU, HB⟩
  case round =>
    obtain ⟨i, rfl, HG, HU1, HB1⟩ := hrel
    clear HU HB
    by_cases hcont : i < n ∧ hasB b i = true
    · obtain ⟨hp, hh⟩ := hcont
      have c4 : decide ((i : Int) < (n : Int)) = true := decide_eq_true (by omega)
      have c5 : decide (i < n) = true := decide_eq_true hp
      have c6 : IntKind.i64.wrap ((i : Int) + 1) = (i : Int) + 1 := IntWalk.i64_in _ (by omega)
      have c7 : ((i : Int) + 1 ≤ 8) = True := eq_true (by omega)
      have c8 : (0 ≤ (i : Int)) = True := eq_true (by omega)
      have c9 : ((i : Int) ≤ (i : Int) + 1) = True := eq_true (by omega)
      have c10 : ((i : Int) + 1).toNat = i + 1 := by omega
      obtain ⟨gm, rfl⟩ : ∃ gm, gk = gm + 1 := ⟨gk - 1, by have := HG.out; omega⟩
      have HC := Aside0.mk (fun (W : World) => has_at b i (by omega) W)
      rw [hh] at HC
      have hU2 := HU1.out
      rw [show n - i = (n - (i + 1)) + 1 by omega, usedF, if_pos hh] at hU2
      have HU3 := Aside0.mk hU2
      clear hU2 HU1
      go_wp2_with (go_at_call 99; refine (HC.out _).mono ?_; rintro e w1 ⟨rfl, ⟨nd, rfl⟩⟩)
      go_roundg gm
      case measure => omega
      case rel => exact ⟨i + 1, by first | rfl | (simp; done), ⟨by have := HG.out; omega⟩, HU3, ⟨pw_below_drewN HB1.out nd⟩⟩
    · obtain rfl : i = u := by
        have h5 := HU1.out
        by_cases hp : i < n
        · rw [show n - i = (n - (i + 1)) + 1 by omega, usedF, if_neg (fun e => hcont ⟨hp, e⟩)] at h5
          exact h5
        · rw [show n - i = 0 by omega] at h5
          exact h5
      clear HU1
      have HB := HB1
      clear HB1
      have c6 : IntKind.i64.wrap ((i : Int) + 1) = (i : Int) + 1 := IntWalk.i64_in _ (by omega)
      have c8 : (0 ≤ (i : Int)) = True := eq_true (by omega)
      have c9 : ((i : Int) ≤ (i : Int) + 1) = True := eq_true (by omega)
      have c10 : ((i : Int) + 1).toNat = i + 1 := by omega
      have d1 : IntKind.i64.wrap (2 * (i : Int)) = 2 * (i : Int) := IntWalk.i64_in _ (by omega)
      have d2 : IntKind.i64.wrap (2 * (i : Int) - (b.size : Int)) = 2 * (i : Int) - (b.size : Int) := IntWalk.i64_in _ (by omega)
      have d3 : ((i : Int) ≤ 8) = True := eq_true (by omega)
      by_cases hp : i < n
      · have hh : hasB b i = false := by
          cases e : hasB b i with
          | true => exact absurd ⟨hp, e⟩ hcont
          | false => rfl
        have c4 : decide ((i : Int) < (n : Int)) = true := decide_eq_true (by omega)
        have c5 : decide (i < n) = true := decide_eq_true hp
        have c7 : ((i : Int) + 1 ≤ 8) = True := eq_true (by omega)
        have HC := Aside0.mk (fun (W : World) => has_at b i (by omega) W)
        rw [hh] at HC
        go_wp2_with (first | (go_at_call 99; refine (HC.out _).mono ?_; rintro e w1 ⟨rfl, ⟨nd, rfl⟩⟩; have n1_ := Aside0.mk (pw_below_drewN HB.out nd); clear HB; have HB := n1_; clear n1_) | ((with_reducible refine gate_dst (N := 30) rfl ?_); refine Kd.R_lit (Kd.int .u8) _ 5 ?hg (N := 30) ?hd (xs := ([] : List Int)) (inner := []) (ok := fun _ => True) (okp := fun _ => True) ?hr ?hp (fun _ hk => hk) trivial (Below.refl _ _) (Nat.le_refl _) (by simp) ?_; (case hd => rfl); (case hg => rfl); (case hr => first | (go_simp; done) | (go_simp; rfl)); (case hp => exact (Reps.none _ _)); intro v30 w30 ho7 hb7 hg_ hnew_; clear hg_ hnew_; have n0_ := Aside0.mk (Kd.R_lower ho7 (below_size (by repeat (first | (with_reducible first | exact HB.out | apply below_alloc | apply pw_below_drewN | apply below_drew1) | exact HB.out)))); have n1_ := Aside0.mk (below_step (by repeat (first | (with_reducible first | exact HB.out | apply below_alloc | apply pw_below_drewN | apply below_drew1) | exact HB.out)) hb7); clear HB; have HO := n0_; have HB := n1_; clear n0_ n1_ hb7 ho7) | ((with_reducible refine gate_dst (N := 31) rfl ?_); refine Kd.R_lit (Kd.int .i64) _ 3 ?hg (N := 31) ?hd (xs := ([] : List Int)) (inner := []) (ok := fun _ => True) (okp := fun _ => True) ?hr ?hp (fun _ hk => hk) trivial (Below.refl _ _) (Nat.le_refl _) (by simp) ?_; (case hd => rfl); (case hg => rfl); (case hr => first | (go_simp; done) | (go_simp; rfl)); (case hp => exact (Reps.none _ _)); intro v31 w31 ho7 hb7 hg_ hnew_; clear hg_ hnew_; have o_HO := Aside0.mk (Kd.R_below (by (with_reducible repeat (first | apply Kd.R_alloc | apply Kd.R_drewN | apply Kd.R_drew)); exact HO.out) hb7); clear HO; have HO := o_HO; clear o_HO; have n0_ := Aside0.mk (Kd.R_lower ho7 (below_size (by repeat (first | (with_reducible first | exact HB.out | apply below_alloc | apply pw_below_drewN | apply below_drew1) | exact HB.out)))); have n1_ := Aside0.mk (below_step (by repeat (first | (with_reducible first | exact HB.out | apply below_alloc | apply pw_below_drewN | apply below_drew1) | exact HB.out)) hb7); clear HB; have HK := n0_; have HB := n1_; clear n0_ n1_ hb7 ho7))
        rw [print_bytes 9 22 5 Tryz.underlying9 Tryz.underlying22 Tryz.underlying5]
        simp only [Result.andThen]
        rw [Oper.upon_value]
        obtain ⟨hbl, hls⟩ : bytesOf (lettS i) = M.abcL i ∧ (lettS i).size = i := lettS_facts ⟨i, by omega⟩
        rw [show (⟨#[97, 98, 99, 100, 101, 102, 103, 104]⟩ : ByteArray).extract 0 i = lettS i from rfl]
        rw [hls]
        have hc0 := bytes_C w31 5 (lettS i) (by omega)
        rw [hbl, M.abc_length] at hc0
        have HB2 := Aside0.mk (bytes_below HB.out (HB.out.size) 5 (lettS i))
        have HO2 := Aside0.mk (Kd.R_below HO.out (bytes_below (Below.refl _ _) (Nat.le_refl _) 5 (lettS i)))
        have HK2 := Aside0.mk (Kd.R_below HK.out (bytes_below (Below.refl _ _) (Nat.le_refl _) 5 (lettS i)))
        have hn0 : v30.ownBlock ≠ some w31.heap.size := fun e => by
          obtain ⟨inner, ho, _⟩ := HO.out.2
          exact absurd (own_lt ho _ e) (by omega)
        have hn1 : v31.ownBlock ≠ some w31.heap.size := fun e => by
          obtain ⟨inner, ho, _⟩ := HK.out.2
          exact absurd (own_lt ho _ e) (by omega)
        have hlt0 : w31.heap.size < (Lib.bytesWorld w31 5 (lettS i)).heap.size := by
          rw [Lib.bytesWorld_size]
          omega
        clear HO HK HB
        generalize grownCap w31 i 0 5 = cp
        generalize Lib.bytesWorld w31 5 (lettS i) = W1 at hc0 HB2 HO2 HK2 hlt0 ⊢
        generalize w31.heap.size = B1 at hc0 hn0 hn1 hlt0 ⊢
        have HC1 := Aside0.mk (show ∀ j : Nat, j < i → W1.cell? ⟨B1, j, none⟩ = some (.int .u8 (97 + (j : Int))) from fun j hlt => by
          obtain ⟨ad, e1, hc⟩ := hc0.2.2 (by omega)
          injection e1 with e1
          subst e1
          obtain ⟨cs_, h1, h2, h3⟩ := hc j (97 + (j : Int)) (abc_get i j hlt)
          have h4 := h3 0 (.int .u8 (97 + (j : Int))) (by rw [show cs_ = [Value.int .u8 (97 + (j : Int))] from h2]; rfl)
          have ha : (⟨B1, 0, none⟩ : Addr).add (j * (Kd.int .u8).sz + 0) = ⟨B1, j, none⟩ := by
            rw [add_plain]
            show (⟨B1, j * 1 + 0, none⟩ : Addr) = _
            rw [show j * 1 + 0 = j by omega]
          rwa [ha] at h4)
        have HN := Aside0.mk (And.intro hn0 (And.intro hn1 hlt0))
        clear hc0 hn0 hn1 hlt0 hbl hls
        obtain ⟨p, hp1, hp2⟩ := Option.bind_eq_some_iff.mp HH.out
        have HP1 := Aside0.mk (show onwL k b (2 * (i : Int) - (b.size : Int) - 1) ((n : Int) - (i : Int)) (i - 0) 0 [] [] = some p from hp1)
        have HP2 := Aside0.mk hp2
        clear hp1 hp2 HH
        go_wp2_with fail
        clear HC
        have HC := HC1
        clear HC1
        go_loopg [8, 9, 11, 36] i (fun gg v8 v9 v11 v36 w' => ∃ (j : Nat) (ls0 cs0 : List Int), v36 = .int .i64 j ∧ Aside0 (j + gg = i) ∧ Aside0 (onwL k b (2 * (i : Int) - (b.size : Int) - 1) ((n : Int) - (i : Int)) (i - j) j ls0 cs0 = some p) ∧ Aside0 (ls0.length ≤ j ∧ cs0.length ≤ j) ∧ Aside0 (Kd.R (Kd.int .u8) 5 w' w.heap.size (fun _ => True) v8 ls0) ∧ Aside0 (Kd.R (Kd.int .i64) 3 w' w.heap.size (fun _ => True) v9 cs0) ∧ Aside0 (Below w.heap.size w w') ∧ Aside0 (∀ q : Nat, q < i → w'.cell? ⟨B1, q, none⟩ = some (.int .u8 (97 + (q : Int)))) ∧ Aside0 (v8.ownBlock ≠ some B1 ∧ v9.ownBlock ≠ some B1 ∧ B1 < w'.heap.size))
        case atStart => exact ⟨0, [], [], by first | rfl | (simp; done), ⟨by omega⟩, HP1, ⟨by simp⟩, HO2, HK2, HB2, HC, HN⟩
        case round =>
          obtain ⟨j, ls0, cs0, rfl, HG1, HP3, HLen, HO3, HK3, HB3, HW3, HN3⟩ := hrel
          clear HO2 HK2 HB2 HC HN HP1
          have HO := HO3
          have HK := HK3
          have HB := HB3
          have HW := HW3
          have HN := HN3
          clear HO3 HK3 HB3 HW3 HN3
          by_cases hj : j < i
          · have e4 : decide ((j : Int) < (i : Int)) = true := decide_eq_true (by omega)
            have e5 : decide (j < i) = true := decide_eq_true hj
            obtain ⟨gm, rfl⟩ : ∃ gm, gk = gm + 1 := ⟨gk - 1, by have := HG1.out; omega⟩
            have h0 := HW.out j hj
            have hx0 : (0 : Int) ≤ 97 + (j : Int) := by omega
            have hx1 : 97 + (j : Int) < 128 := by omega
            have HCt := Aside0.mk (fun (W : World) => count_small b (97 + (j : Int)) hx0 hx1 W)
            rw [show (97 + (j : Int)).toNat = 97 + j by omega] at HCt
            have hP := HP3.out
            rw [show i - j = (i - (j + 1)) + 1 by omega, onwL] at hP
            by_cases hct : b.data.toList.count ((97 + j : Nat).toUInt8) = 1
            · rw [if_pos hct] at hP
              rw [hct] at HCt
              obtain ⟨vv, hv1, hv2⟩ := Option.bind_eq_some_iff.mp hP
              have HV1 := Aside0.mk (fun (W : World) => impl_countOn.calls k _ _ vv W hv1)
              have HV2 := Aside0.mk hv2
              clear hP hv1 hv2 HP3
              have d4 : IntKind.i64.wrap (2 * (i : Int) - (b.size : Int) - 1) = 2 * (i : Int) - (b.size : Int) - 1 := IntWalk.i64_in _ (by omega)
              have d5 : IntKind.i64.wrap ((n : Int) - (i : Int)) = (n : Int) - (i : Int) := IntWalk.i64_in _ (by omega)
              clear h0
              have h0 : wr.cell? ⟨B1, j, none⟩ = some (.int .u8 (97 + (j : Int))) := HW.out j hj
              go_wp2_with (first | (go_at_call 66; refine (HCt.out _).mono ?_; rintro e w1 ⟨rfl, ⟨nd1, rfl⟩⟩; have n0_ := Aside0.mk (pw_below_drewN HB.out nd1); have n1_ := Aside0.mk (Kd.R_drewN HO.out nd1); have n2_ := Aside0.mk (Kd.R_drewN HK.out nd1); have n3_ := Aside0.mk (show ∀ q : Nat, q < i → (World.drewN _ nd1).cell? ⟨B1, q, none⟩ = some (.int .u8 (97 + (q : Int))) from HW.out); have n4_ := Aside0.mk (show _ ∧ _ ∧ B1 < (World.drewN _ nd1).heap.size from HN.out); clear HB HO HK HW HN; have HB := n0_; have HO := n1_; have HK := n2_; have HW := n3_; have HN := n4_; clear n0_ n1_ n2_ n3_ n4_) | (go_at_call 56; refine (HV1.out _).mono ?_; rintro e w1 ⟨rfl, ⟨nd2, rfl⟩⟩; have n0_ := Aside0.mk (pw_below_drewN HB.out nd2); have n1_ := Aside0.mk (Kd.R_drewN HO.out nd2); have n2_ := Aside0.mk (Kd.R_drewN HK.out nd2); have n3_ := Aside0.mk (show ∀ q : Nat, q < i → (World.drewN _ nd2).cell? ⟨B1, q, none⟩ = some (.int .u8 (97 + (q : Int))) from HW.out); have n4_ := Aside0.mk (show _ ∧ _ ∧ B1 < (World.drewN _ nd2).heap.size from HN.out); clear HB HO HK HW HN; have HB := n0_; have HO := n1_; have HK := n2_; have HW := n3_; have HN := n4_; clear n0_ n1_ n2_ n3_ n4_) | ((with_reducible refine gate_builtin (b := .append) (xs := #[.tmp 46, .tmp 48]) rfl ?_); at_builtin; refine Kd.R_append (Kd.int .u8) (w0 := w) w.heap.size rfl (.tmp 46) (.tmp 48) 22 5 (.int .u8 0) 1 rfl Tryz.underlying22 info5 rfl (by decide) (by omega) u8 ls0 (97 + (j : Int)) [.int .u8 (97 + (j : Int))] (fun _ => True) (fun _ => False) rfl rfl ?aP (fun _ hk => hk.elim) ?aF ?aO ?aB ?aS ?aL ?_; (case aP => exact rfl); (case aB => exact (by repeat (first | (with_reducible first | exact HB.out | apply below_alloc | apply pw_below_drewN | apply below_drew1) | exact HB.out))); (case aF => exact (fun _ _ => trivial)); (case aO => exact (by (with_reducible repeat (first | apply Kd.R_alloc | apply Kd.R_drewN | apply Kd.R_drew)); exact HO.out)); (case aS => exact (below_size (by repeat (first | (with_reducible first | exact HB.out | apply below_alloc | apply pw_below_drewN | apply below_drew1) | exact HB.out)))); (case aL => have := HLen.out; omega); intro v46 w46 ho hb hg hat; have n0_ := Aside0.mk hb; have n1_ := Aside0.mk ho; have n2_ := Aside0.mk (Kd.R_over (by (with_reducible repeat (first | apply Kd.R_alloc | apply Kd.R_drewN | apply Kd.R_drew)); exact HK.out) (by (with_reducible repeat (first | apply Kd.R_alloc | apply Kd.R_drewN | apply Kd.R_drew)); exact HO.out) (by decide) hg); have n3_ := Aside0.mk (fun (q : Nat) (hq : q < i) => (cell_grown hg HN.out.2.2 (fun e => HN.out.1 e.symm) q).trans (HW.out q hq)); have n4_ := Aside0.mk (show v46.ownBlock ≠ some B1 ∧ u9.ownBlock ≠ some B1 ∧ B1 < w46.heap.size from ⟨own_ne_append hat HN.out.1 HN.out.2.2, HN.out.2.1, Nat.lt_of_lt_of_le HN.out.2.2 hg.size⟩); clear HB HO HK HW HN; have HB := n0_; have HO := n1_; have HK := n2_; have HW := n3_; have HN := n4_; clear n0_ n1_ n2_ n3_ n4_ ho hb hg hat) | ((with_reducible refine gate_builtin (b := .append) (xs := #[.tmp 50, .tmp 57]) rfl ?_); at_builtin; refine Kd.R_append (Kd.int .i64) (w0 := w) w.heap.size rfl (.tmp 50) (.tmp 57) 56 3 (.int .i64 0) 8 rfl und_ints info_int rfl (by decide) (by omega) u9 cs0 vv [.int .i64 vv] (fun _ => True) (fun _ => False) rfl rfl ?aP (fun _ hk => hk.elim) ?aF ?aO ?aB ?aS ?aL ?_; (case aP => exact rfl); (case aB => exact (by repeat (first | (with_reducible first | exact HB.out | apply below_alloc | apply pw_below_drewN | apply below_drew1) | exact HB.out))); (case aF => exact (fun _ _ => trivial)); (case aO => exact (by (with_reducible repeat (first | apply Kd.R_alloc | apply Kd.R_drewN | apply Kd.R_drew)); exact HK.out)); (case aS => exact (below_size (by repeat (first | (with_reducible first | exact HB.out | apply below_alloc | apply pw_below_drewN | apply below_drew1) | exact HB.out)))); (case aL => have := HLen.out; omega); intro v50 w50 ho hb hg hat; have n0_ := Aside0.mk hb; have n1_ := Aside0.mk ho; have n2_ := Aside0.mk (Kd.R_over (by (with_reducible repeat (first | apply Kd.R_alloc | apply Kd.R_drewN | apply Kd.R_drew)); exact HO.out) (by (with_reducible repeat (first | apply Kd.R_alloc | apply Kd.R_drewN | apply Kd.R_drew)); exact HK.out) (by decide) hg); have n3_ := Aside0.mk (fun (q : Nat) (hq : q < i) => (cell_grown hg HN.out.2.2 (fun e => HN.out.2.1 e.symm) q).trans (HW.out q hq)); have n4_ := Aside0.mk (show v46.ownBlock ≠ some B1 ∧ v50.ownBlock ≠ some B1 ∧ B1 < w50.heap.size from ⟨HN.out.1, own_ne_append hat HN.out.2.1 HN.out.2.2, Nat.lt_of_lt_of_le HN.out.2.2 hg.size⟩); clear HB HK HO HW HN; have HB := n0_; have HK := n1_; have HO := n2_; have HW := n3_; have HN := n4_; clear n0_ n1_ n2_ n3_ n4_ ho hb hg hat))
              go_roundg gm
              case measure => omega
              case rel => exact ⟨j + 1, ls0 ++ [97 + (j : Int)], cs0 ++ [vv], by first | rfl | (simp; done), ⟨by have := HG1.out; omega⟩, HV2, ⟨by have := HLen.out; simp; omega⟩, HO, HK, HB, HW, HN⟩
            · rw [if_neg hct] at hP
              have HP4 := Aside0.mk hP
              have hq1 : (((b.data.toList.count ((97 + j : Nat).toUInt8) : Nat) : Int) == 1) = false := beq_eq_false_iff_ne.2 (by omega)
              generalize ((b.data.toList.count ((97 + j : Nat).toUInt8) : Nat) : Int) = qq at HCt hq1
              clear hP HP3
              go_wp2_with (go_at_call 66; refine (HCt.out _).mono ?_; rintro e w1 ⟨rfl, ⟨nd, rfl⟩⟩)
              go_roundg gm
              case measure => omega
              case rel => exact ⟨j + 1, ls0, cs0, by first | rfl | (simp; done), ⟨by have := HG1.out; omega⟩, HP4, ⟨by have := HLen.out; omega⟩, ⟨Kd.R_drewN HO.out nd⟩, ⟨Kd.R_drewN HK.out nd⟩, ⟨pw_below_drewN HB.out nd⟩, ⟨HW.out⟩, ⟨HN.out⟩⟩
          · have hji : j ≤ i := by have := HG1.out; omega
            have e4 : decide ((j : Int) < (i : Int)) = false := decide_eq_false (by omega)
            have e5 : decide (j < i) = false := decide_eq_false hj
            obtain rfl : p = (ls0, cs0) := by
              have h5 := HP3.out
              rw [show i - j = 0 by omega] at h5
              exact (Option.some.inj h5).symm
            have hP := HP2.out
            rw [if_pos hp] at hP
            obtain ⟨vv, hv1, hv2⟩ := Option.bind_eq_some_iff.mp hP
            obtain ⟨rfl, rfl⟩ := Prod.mk.inj (Option.some.inj hv2)
            have HV1 := Aside0.mk (fun (W : World) => impl_countOn.calls k _ _ vv W hv1)
            clear hP hv1 hv2 HP3 HP2 HW HN
            have d4 : IntKind.i64.wrap (2 * (i : Int) - (b.size : Int) + 1) = 2 * (i : Int) - (b.size : Int) + 1 := IntWalk.i64_in _ (by omega)
            have d5 : IntKind.i64.wrap ((n : Int) - (i : Int)) = (n : Int) - (i : Int) := IntWalk.i64_in _ (by omega)
            have d6 : IntKind.i64.wrap ((n : Int) - (i : Int) - 1) = (n : Int) - (i : Int) - 1 := IntWalk.i64_in _ (by omega)
            go_wp2_with (first | (go_at_call 56; refine (HV1.out _).mono ?_; rintro e w1 ⟨rfl, ⟨nd2, rfl⟩⟩; have n0_ := Aside0.mk (pw_below_drewN HB.out nd2); have n1_ := Aside0.mk (Kd.R_drewN HO.out nd2); have n2_ := Aside0.mk (Kd.R_drewN HK.out nd2); clear HB HO HK; have HB := n0_; have HO := n1_; have HK := n2_; clear n0_ n1_ n2_) | ((with_reducible refine gate_builtin (b := .append) (xs := #[.tmp 63, .tmp 67]) rfl ?_); at_builtin; refine Kd.R_append (Kd.int .u8) (w0 := w) w.heap.size rfl (.tmp 63) (.tmp 67) 22 5 (.int .u8 0) 1 rfl Tryz.underlying22 info5 rfl (by decide) (by omega) u8 ls0 (97 + (i : Int)) [.int .u8 (97 + (i : Int))] (fun _ => True) (fun _ => False) rfl rfl ?aP (fun _ hk => hk.elim) ?aF ?aO ?aB ?aS ?aL ?_; (case aP => exact rfl); (case aB => exact (by repeat (first | (with_reducible first | exact HB.out | apply below_alloc | apply pw_below_drewN | apply below_drew1) | exact HB.out))); (case aF => exact (fun _ _ => trivial)); (case aO => exact (by (with_reducible repeat (first | apply Kd.R_alloc | apply Kd.R_drewN | apply Kd.R_drew)); exact HO.out)); (case aS => exact (below_size (by repeat (first | (with_reducible first | exact HB.out | apply below_alloc | apply pw_below_drewN | apply below_drew1) | exact HB.out)))); (case aL => have := HLen.out; omega); intro v63 w63 ho hb hg hat; have n0_ := Aside0.mk hb; have n1_ := Aside0.mk ho; have n2_ := Aside0.mk (Kd.R_over (by (with_reducible repeat (first | apply Kd.R_alloc | apply Kd.R_drewN | apply Kd.R_drew)); exact HK.out) (by (with_reducible repeat (first | apply Kd.R_alloc | apply Kd.R_drewN | apply Kd.R_drew)); exact HO.out) (by decide) hg); clear HB HO HK; have HB := n0_; have HO := n1_; have HK := n2_; clear n0_ n1_ n2_ ho hb hg hat) | ((with_reducible refine gate_builtin (b := .append) (xs := #[.tmp 69, .tmp 77]) rfl ?_); at_builtin; refine Kd.R_append (Kd.int .i64) (w0 := w) w.heap.size rfl (.tmp 69) (.tmp 77) 56 3 (.int .i64 0) 8 rfl und_ints info_int rfl (by decide) (by omega) u9 cs0 vv [.int .i64 vv] (fun _ => True) (fun _ => False) rfl rfl ?aP (fun _ hk => hk.elim) ?aF ?aO ?aB ?aS ?aL ?_; (case aP => exact rfl); (case aB => exact (by repeat (first | (with_reducible first | exact HB.out | apply below_alloc | apply pw_below_drewN | apply below_drew1) | exact HB.out))); (case aF => exact (fun _ _ => trivial)); (case aO => exact (by (with_reducible repeat (first | apply Kd.R_alloc | apply Kd.R_drewN | apply Kd.R_drew)); exact HK.out)); (case aS => exact (below_size (by repeat (first | (with_reducible first | exact HB.out | apply below_alloc | apply pw_below_drewN | apply below_drew1) | exact HB.out)))); (case aL => have := HLen.out; omega); intro v69 w69 ho hb hg hat; have n0_ := Aside0.mk hb; have n1_ := Aside0.mk ho; have n2_ := Aside0.mk (Kd.R_over (by (with_reducible repeat (first | apply Kd.R_alloc | apply Kd.R_drewN | apply Kd.R_drew)); exact HO.out) (by (with_reducible repeat (first | apply Kd.R_alloc | apply Kd.R_drewN | apply Kd.R_drew)); exact HK.out) (by decide) hg); clear HB HK HO; have HB := n0_; have HK := n1_; have HO := n2_; clear n0_ n1_ n2_ ho hb hg hat))
            go_ret2
            exact ⟨_, _, rfl, HO.out, HK.out, HB.out⟩
      · have c4 : decide ((i : Int) < (n : Int)) = false := decide_eq_false (by omega)
        have c5 : decide (i < n) = false := decide_eq_false hp
        go_wp2_with (first | ((with_reducible refine gate_dst (N := 30) rfl ?_); refine Kd.R_lit (Kd.int .u8) _ 5 ?hg (N := 30) ?hd (xs := ([] : List Int)) (inner := []) (ok := fun _ => True) (okp := fun _ => True) ?hr ?hp (fun _ hk => hk) trivial (Below.refl _ _) (Nat.le_refl _) (by simp) ?_; (case hd => rfl); (case hg => rfl); (case hr => first | (go_simp; done) | (go_simp; rfl)); (case hp => exact (Reps.none _ _)); intro v30 w30 ho7 hb7 hg_ hnew_; clear hg_ hnew_; have n0_ := Aside0.mk (Kd.R_lower ho7 (below_size (by repeat (first | (with_reducible first | exact HB.out | apply below_alloc | apply pw_below_drewN | apply below_drew1) | exact HB.out)))); have n1_ := Aside0.mk (below_step (by repeat (first | (with_reducible first | exact HB.out | apply below_alloc | apply pw_below_drewN | apply below_drew1) | exact HB.out)) hb7); clear HB; have HO := n0_; have HB := n1_; clear n0_ n1_ hb7 ho7) | ((with_reducible refine gate_dst (N := 31) rfl ?_); refine Kd.R_lit (Kd.int .i64) _ 3 ?hg (N := 31) ?hd (xs := ([] : List Int)) (inner := []) (ok := fun _ => True) (okp := fun _ => True) ?hr ?hp (fun _ hk => hk) trivial (Below.refl _ _) (Nat.le_refl _) (by simp) ?_; (case hd => rfl); (case hg => rfl); (case hr => first | (go_simp; done) | (go_simp; rfl)); (case hp => exact (Reps.none _ _)); intro v31 w31 ho7 hb7 hg_ hnew_; clear hg_ hnew_; have o_HO := Aside0.mk (Kd.R_below (by (with_reducible repeat (first | apply Kd.R_alloc | apply Kd.R_drewN | apply Kd.R_drew)); exact HO.out) hb7); clear HO; have HO := o_HO; clear o_HO; have n0_ := Aside0.mk (Kd.R_lower ho7 (below_size (by repeat (first | (with_reducible first | exact HB.out | apply below_alloc | apply pw_below_drewN | apply below_drew1) | exact HB.out)))); have n1_ := Aside0.mk (below_step (by repeat (first | (with_reducible first | exact HB.out | apply below_alloc | apply pw_below_drewN | apply below_drew1) | exact HB.out)) hb7); clear HB; have HK := n0_; have HB := n1_; clear n0_ n1_ hb7 ho7))
        rw [print_bytes 9 22 5 Tryz.underlying9 Tryz.underlying22 Tryz.underlying5]
        simp only [Result.andThen]
        rw [Oper.upon_value]
        obtain ⟨hbl, hls⟩ : bytesOf (lettS i) = M.abcL i ∧ (lettS i).size = i := lettS_facts ⟨i, by omega⟩
        rw [show (⟨#[97, 98, 99, 100, 101, 102, 103, 104]⟩ : ByteArray).extract 0 i = lettS i from rfl]
        rw [hls]
        have hc0 := bytes_C w31 5 (lettS i) (by omega)
        rw [hbl, M.abc_length] at hc0
        have HB2 := Aside0.mk (bytes_below HB.out (HB.out.size) 5 (lettS i))
        have HO2 := Aside0.mk (Kd.R_below HO.out (bytes_below (Below.refl _ _) (Nat.le_refl _) 5 (lettS i)))
        have HK2 := Aside0.mk (Kd.R_below HK.out (bytes_below (Below.refl _ _) (Nat.le_refl _) 5 (lettS i)))
        have hn0 : v30.ownBlock ≠ some w31.heap.size := fun e => by
          obtain ⟨inner, ho, _⟩ := HO.out.2
          exact absurd (own_lt ho _ e) (by omega)
        have hn1 : v31.ownBlock ≠ some w31.heap.size := fun e => by
          obtain ⟨inner, ho, _⟩ := HK.out.2
          exact absurd (own_lt ho _ e) (by omega)
        have hlt0 : w31.heap.size < (Lib.bytesWorld w31 5 (lettS i)).heap.size := by
          rw [Lib.bytesWorld_size]
          omega
        clear HO HK HB
        generalize grownCap w31 i 0 5 = cp
        generalize Lib.bytesWorld w31 5 (lettS i) = W1 at hc0 HB2 HO2 HK2 hlt0 ⊢
        generalize w31.heap.size = B1 at hc0 hn0 hn1 hlt0 ⊢
        have HC1 := Aside0.mk (show ∀ j : Nat, j < i → W1.cell? ⟨B1, j, none⟩ = some (.int .u8 (97 + (j : Int))) from fun j hlt => by
          obtain ⟨ad, e1, hc⟩ := hc0.2.2 (by omega)
          injection e1 with e1
          subst e1
          obtain ⟨cs_, h1, h2, h3⟩ := hc j (97 + (j : Int)) (abc_get i j hlt)
          have h4 := h3 0 (.int .u8 (97 + (j : Int))) (by rw [show cs_ = [Value.int .u8 (97 + (j : Int))] from h2]; rfl)
          have ha : (⟨B1, 0, none⟩ : Addr).add (j * (Kd.int .u8).sz + 0) = ⟨B1, j, none⟩ := by
            rw [add_plain]
            show (⟨B1, j * 1 + 0, none⟩ : Addr) = _
            rw [show j * 1 + 0 = j by omega]
          rwa [ha] at h4)
        have HN := Aside0.mk (And.intro hn0 (And.intro hn1 hlt0))
        clear hc0 hn0 hn1 hlt0 hbl hls
        obtain ⟨p, hp1, hp2⟩ := Option.bind_eq_some_iff.mp HH.out
        have HP1 := Aside0.mk (show onwL k b (2 * (i : Int) - (b.size : Int) - 1) ((n : Int) - (i : Int)) (i - 0) 0 [] [] = some p from hp1)
        have HP2 := Aside0.mk hp2
        clear hp1 hp2 HH
        go_wp2_with fail
        have HC := HC1
        clear HC1
        go_loopg [8, 9, 11, 36] i (fun gg v8 v9 v11 v36 w' => ∃ (j : Nat) (ls0 cs0 : List Int), v36 = .int .i64 j ∧ Aside0 (j + gg = i) ∧ Aside0 (onwL k b (2 * (i : Int) - (b.size : Int) - 1) ((n : Int) - (i : Int)) (i - j) j ls0 cs0 = some p) ∧ Aside0 (ls0.length ≤ j ∧ cs0.length ≤ j) ∧ Aside0 (Kd.R (Kd.int .u8) 5 w' w.heap.size (fun _ => True) v8 ls0) ∧ Aside0 (Kd.R (Kd.int .i64) 3 w' w.heap.size (fun _ => True) v9 cs0) ∧ Aside0 (Below w.heap.size w w') ∧ Aside0 (∀ q : Nat, q < i → w'.cell? ⟨B1, q, none⟩ = some (.int .u8 (97 + (q : Int)))) ∧ Aside0 (v8.ownBlock ≠ some B1 ∧ v9.ownBlock ≠ some B1 ∧ B1 < w'.heap.size))
        case atStart => exact ⟨0, [], [], by first | rfl | (simp; done), ⟨by omega⟩, HP1, ⟨by simp⟩, HO2, HK2, HB2, HC, HN⟩
        case round =>
          obtain ⟨j, ls0, cs0, rfl, HG1, HP3, HLen, HO3, HK3, HB3, HW3, HN3⟩ := hrel
          clear HO2 HK2 HB2 HC HN HP1
          have HO := HO3
          have HK := HK3
          have HB := HB3
          have HW := HW3
          have HN := HN3
          clear HO3 HK3 HB3 HW3 HN3
          by_cases hj : j < i
          · have e4 : decide ((j : Int) < (i : Int)) = true := decide_eq_true (by omega)
            have e5 : decide (j < i) = true := decide_eq_true hj
            obtain ⟨gm, rfl⟩ : ∃ gm, gk = gm + 1 := ⟨gk - 1, by have := HG1.out; omega⟩
            have h0 := HW.out j hj
            have hx0 : (0 : Int) ≤ 97 + (j : Int) := by omega
            have hx1 : 97 + (j : Int) < 128 := by omega
            have HCt := Aside0.mk (fun (W : World) => count_small b (97 + (j : Int)) hx0 hx1 W)
            rw [show (97 + (j : Int)).toNat = 97 + j by omega] at HCt
            have hP := HP3.out
            rw [show i - j = (i - (j + 1)) + 1 by omega, onwL] at hP
            by_cases hct : b.data.toList.count ((97 + j : Nat).toUInt8) = 1
            · rw [if_pos hct] at hP
              rw [hct] at HCt
              obtain ⟨vv, hv1, hv2⟩ := Option.bind_eq_some_iff.mp hP
              have HV1 := Aside0.mk (fun (W : World) => impl_countOn.calls k _ _ vv W hv1)
              have HV2 := Aside0.mk hv2
              clear hP hv1 hv2 HP3
              have d4 : IntKind.i64.wrap (2 * (i : Int) - (b.size : Int) - 1) = 2 * (i : Int) - (b.size : Int) - 1 := IntWalk.i64_in _ (by omega)
              have d5 : IntKind.i64.wrap ((n : Int) - (i : Int)) = (n : Int) - (i : Int) := IntWalk.i64_in _ (by omega)
              clear h0
              have h0 : wr.cell? ⟨B1, j, none⟩ = some (.int .u8 (97 + (j : Int))) := HW.out j hj
              go_wp2_with (first | (go_at_call 66; refine (HCt.out _).mono ?_; rintro e w1 ⟨rfl, ⟨nd1, rfl⟩⟩; have n0_ := Aside0.mk (pw_below_drewN HB.out nd1); have n1_ := Aside0.mk (Kd.R_drewN HO.out nd1); have n2_ := Aside0.mk (Kd.R_drewN HK.out nd1); have n3_ := Aside0.mk (show ∀ q : Nat, q < i → (World.drewN _ nd1).cell? ⟨B1, q, none⟩ = some (.int .u8 (97 + (q : Int))) from HW.out); have n4_ := Aside0.mk (show _ ∧ _ ∧ B1 < (World.drewN _ nd1).heap.size from HN.out); clear HB HO HK HW HN; have HB := n0_; have HO := n1_; have HK := n2_; have HW := n3_; have HN := n4_; clear n0_ n1_ n2_ n3_ n4_) | (go_at_call 56; refine (HV1.out _).mono ?_; rintro e w1 ⟨rfl, ⟨nd2, rfl⟩⟩; have n0_ := Aside0.mk (pw_below_drewN HB.out nd2); have n1_ := Aside0.mk (Kd.R_drewN HO.out nd2); have n2_ := Aside0.mk (Kd.R_drewN HK.out nd2); have n3_ := Aside0.mk (show ∀ q : Nat, q < i → (World.drewN _ nd2).cell? ⟨B1, q, none⟩ = some (.int .u8 (97 + (q : Int))) from HW.out); have n4_ := Aside0.mk (show _ ∧ _ ∧ B1 < (World.drewN _ nd2).heap.size from HN.out); clear HB HO HK HW HN; have HB := n0_; have HO := n1_; have HK := n2_; have HW := n3_; have HN := n4_; clear n0_ n1_ n2_ n3_ n4_) | ((with_reducible refine gate_builtin (b := .append) (xs := #[.tmp 46, .tmp 48]) rfl ?_); at_builtin; refine Kd.R_append (Kd.int .u8) (w0 := w) w.heap.size rfl (.tmp 46) (.tmp 48) 22 5 (.int .u8 0) 1 rfl Tryz.underlying22 info5 rfl (by decide) (by omega) u8 ls0 (97 + (j : Int)) [.int .u8 (97 + (j : Int))] (fun _ => True) (fun _ => False) rfl rfl ?aP (fun _ hk => hk.elim) ?aF ?aO ?aB ?aS ?aL ?_; (case aP => exact rfl); (case aB => exact (by repeat (first | (with_reducible first | exact HB.out | apply below_alloc | apply pw_below_drewN | apply below_drew1) | exact HB.out))); (case aF => exact (fun _ _ => trivial)); (case aO => exact (by (with_reducible repeat (first | apply Kd.R_alloc | apply Kd.R_drewN | apply Kd.R_drew)); exact HO.out)); (case aS => exact (below_size (by repeat (first | (with_reducible first | exact HB.out | apply below_alloc | apply pw_below_drewN | apply below_drew1) | exact HB.out)))); (case aL => have := HLen.out; omega); intro v46 w46 ho hb hg hat; have n0_ := Aside0.mk hb; have n1_ := Aside0.mk ho; have n2_ := Aside0.mk (Kd.R_over (by (with_reducible repeat (first | apply Kd.R_alloc | apply Kd.R_drewN | apply Kd.R_drew)); exact HK.out) (by (with_reducible repeat (first | apply Kd.R_alloc | apply Kd.R_drewN | apply Kd.R_drew)); exact HO.out) (by decide) hg); have n3_ := Aside0.mk (fun (q : Nat) (hq : q < i) => (cell_grown hg HN.out.2.2 (fun e => HN.out.1 e.symm) q).trans (HW.out q hq)); have n4_ := Aside0.mk (show v46.ownBlock ≠ some B1 ∧ u9.ownBlock ≠ some B1 ∧ B1 < w46.heap.size from ⟨own_ne_append hat HN.out.1 HN.out.2.2, HN.out.2.1, Nat.lt_of_lt_of_le HN.out.2.2 hg.size⟩); clear HB HO HK HW HN; have HB := n0_; have HO := n1_; have HK := n2_; have HW := n3_; have HN := n4_; clear n0_ n1_ n2_ n3_ n4_ ho hb hg hat) | ((with_reducible refine gate_builtin (b := .append) (xs := #[.tmp 50, .tmp 57]) rfl ?_); at_builtin; refine Kd.R_append (Kd.int .i64) (w0 := w) w.heap.size rfl (.tmp 50) (.tmp 57) 56 3 (.int .i64 0) 8 rfl und_ints info_int rfl (by decide) (by omega) u9 cs0 vv [.int .i64 vv] (fun _ => True) (fun _ => False) rfl rfl ?aP (fun _ hk => hk.elim) ?aF ?aO ?aB ?aS ?aL ?_; (case aP => exact rfl); (case aB => exact (by repeat (first | (with_reducible first | exact HB.out | apply below_alloc | apply pw_below_drewN | apply below_drew1) | exact HB.out))); (case aF => exact (fun _ _ => trivial)); (case aO => exact (by (with_reducible repeat (first | apply Kd.R_alloc | apply Kd.R_drewN | apply Kd.R_drew)); exact HK.out)); (case aS => exact (below_size (by repeat (first | (with_reducible first | exact HB.out | apply below_alloc | apply pw_below_drewN | apply below_drew1) | exact HB.out)))); (case aL => have := HLen.out; omega); intro v50 w50 ho hb hg hat; have n0_ := Aside0.mk hb; have n1_ := Aside0.mk ho; have n2_ := Aside0.mk (Kd.R_over (by (with_reducible repeat (first | apply Kd.R_alloc | apply Kd.R_drewN | apply Kd.R_drew)); exact HO.out) (by (with_reducible repeat (first | apply Kd.R_alloc | apply Kd.R_drewN | apply Kd.R_drew)); exact HK.out) (by decide) hg); have n3_ := Aside0.mk (fun (q : Nat) (hq : q < i) => (cell_grown hg HN.out.2.2 (fun e => HN.out.2.1 e.symm) q).trans (HW.out q hq)); have n4_ := Aside0.mk (show v46.ownBlock ≠ some B1 ∧ v50.ownBlock ≠ some B1 ∧ B1 < w50.heap.size from ⟨HN.out.1, own_ne_append hat HN.out.2.1 HN.out.2.2, Nat.lt_of_lt_of_le HN.out.2.2 hg.size⟩); clear HB HK HO HW HN; have HB := n0_; have HK := n1_; have HO := n2_; have HW := n3_; have HN := n4_; clear n0_ n1_ n2_ n3_ n4_ ho hb hg hat))
              go_roundg gm
              case measure => omega
              case rel => exact ⟨j + 1, ls0 ++ [97 + (j : Int)], cs0 ++ [vv], by first | rfl | (simp; done), ⟨by have := HG1.out; omega⟩, HV2, ⟨by have := HLen.out; simp; omega⟩, HO, HK, HB, HW, HN⟩
            · rw [if_neg hct] at hP
              have HP4 := Aside0.mk hP
              have hq1 : (((b.data.toList.count ((97 + j : Nat).toUInt8) : Nat) : Int) == 1) = false := beq_eq_false_iff_ne.2 (by omega)
              generalize ((b.data.toList.count ((97 + j : Nat).toUInt8) : Nat) : Int) = qq at HCt hq1
              clear hP HP3
              go_wp2_with (go_at_call 66; refine (HCt.out _).mono ?_; rintro e w1 ⟨rfl, ⟨nd, rfl⟩⟩)
              go_roundg gm
              case measure => omega
              case rel => exact ⟨j + 1, ls0, cs0, by first | rfl | (simp; done), ⟨by have := HG1.out; omega⟩, HP4, ⟨by have := HLen.out; omega⟩, ⟨Kd.R_drewN HO.out nd⟩, ⟨Kd.R_drewN HK.out nd⟩, ⟨pw_below_drewN HB.out nd⟩, ⟨HW.out⟩, ⟨HN.out⟩⟩
          · have hji : j ≤ i := by have := HG1.out; omega
            have e4 : decide ((j : Int) < (i : Int)) = false := decide_eq_false (by omega)
            have e5 : decide (j < i) = false := decide_eq_false hj
            obtain rfl : p = (ls0, cs0) := by
              have h5 := HP3.out
              rw [show i - j = 0 by omega] at h5
              exact (Option.some.inj h5).symm
            have hP := HP2.out
            rw [if_neg hp] at hP
            obtain ⟨rfl, rfl⟩ := Prod.mk.inj (Option.some.inj hP)
            clear hP HP3 HP2 HW HN
            go_wp2_with fail
            go_ret2
            exact ⟨_, _, rfl, HO.out, HK.out, HB.out⟩
end Go.Proofs.YtcgoaipbfnhjhaaGreatDoor.Pr

/- What the program's onward computes, as the printed texts call it. -/
namespace Go.Proofs.YtcgoaipbfnhjhaaGreatDoor.Pr
open Go.RowKit Go.Proofs.YtcgoaipbfnhjhaaGreatDoorW.PrintWords Go.Proofs.YtcgoaipbfnhjhaaGreatDoorW.PrintLast Go.Proofs.YtcgoaipbfnhjhaaGreatDoorW.PrintMore
set_option linter.unusedVariables false
set_option linter.unusedSimpArgs false

def impl_onward.f (k : Nat) (a0 : Int) (a1 : ByteArray) : Option (List Int × List Int) := if 0 ≤ a0 ∧ a0 ≤ 8 ∧ a1.size ≤ 16 then onwF k a0.toNat a1 else none
theorem onwX_mono (b : ByteArray) (x y : Int) : ∀ (d i : Nat) (ls cs : List Int) (k : Nat), LeO (onwL k b x y d i ls cs) (onwL (k + 1) b x y d i ls cs)
  | 0, _, _, _, _ => LeO.refl _
  | d + 1, i, ls, cs, k => by
    rw [onwL, onwL]
    exact LeO.ite (LeO.bind (impl_countOn.mono _ _ _) (fun _ => onwX_mono b x y d _ _ _ k)) (onwX_mono b x y d _ _ _ k)
theorem impl_onward.mono : ∀ a0 a1 k, LeO (impl_onward.f k a0 a1) (impl_onward.f (k + 1) a0 a1) := by
  intro a0 a1 k
  unfold impl_onward.f
  refine LeO.ite ?_ (LeO.refl _)
  unfold onwF
  exact LeO.bind (onwX_mono _ _ _ _ _ _ _ _) (fun _ => LeO.ite (LeO.bind (impl_countOn.mono _ _ _) (fun _ => LeO.refl _)) (LeO.refl _))
theorem impl_onward.calls (k : Nat) (a0 : Int) (a1 : ByteArray) (r1 : List Int) (r2 : List Int) (w : World) (h : impl_onward.f k a0 a1 = some (r1, r2)) :
    Calls Tryz.prog 61 #[.int .i64 a0, .string a1] w fun e w' => ∃ v0_ v1_ : Value, e = .returned (.tuple #[v0_, v1_]) ∧ Kd.R (Kd.int .u8) 5 w' w.heap.size (fun _ => True) v0_ r1 ∧ Kd.R (Kd.int .i64) 3 w' w.heap.size (fun _ => True) v1_ r2 ∧ Below w.heap.size w w' := by
  unfold impl_onward.f at h
  by_cases hs : 0 ≤ a0 ∧ a0 ≤ 8 ∧ a1.size ≤ 16
  · rw [if_pos hs] at h
    have e := onward_calls k a0.toNat (by omega) a1 hs.2.2 r1 r2 w h
    rw [Int.toNat_of_nonneg hs.1] at e
    exact e
  · rw [if_neg hs] at h; cases h
end Go.Proofs.YtcgoaipbfnhjhaaGreatDoor.Pr

-- Written by a program for this claim.
namespace Go.Proofs.YtcgoaipbfnhjhaaGreatDoor.Pr
open Go.RowKit Go.Proofs.YtcgoaipbfnhjhaaGreatDoorW.PrintWords Go.Proofs.YtcgoaipbfnhjhaaGreatDoorW.PrintLast Go.Proofs.YtcgoaipbfnhjhaaGreatDoorW.PrintMore
attribute [local go_sem] max2_int min2_int max_two min_two max_three min_three max_four min_four   -- for this text's walks alone
set_option linter.unusedVariables false
set_option linter.unusedSimpArgs false

/-! ### impl_loopOfRank: function 57 -/
mutual
def impl_loopOfRank.l0 : Nat → Int → Int → ByteArray → Option (ByteArray)
  | 0, _, _, _ => none
  | k + 1, x0, x1, x5 => if (x5.size : Int) < (wrap64 (2 * x0)) then ((impl_onward.f k x0 x5).bind fun bt137 => (impl_loopOfRank.l1 k x0 x1 x5 bt137.1 bt137.2 0)) else (some x5)
def impl_loopOfRank.l1 : Nat → Int → Int → ByteArray → List Int → List Int → Int → Option (ByteArray)
  | 0, _, _, _, _, _, _ => none
  | k + 1, x0, x1, x5, x6, x7, x8 => if 0 ≤ x8 then (if x8 < (x7.length : Int) then (if x1 ≥ (rd x7 x8) then (impl_loopOfRank.l1 k x0 (wrap64 (x1 - (rd x7 x8))) x5 x6 x7 (wrap64 (x8 + 1))) else (if x8 < (x6.length : Int) then (if x5.size + (Utf8.encode (wrap32 (rd x6 x8))).size ≤ 9223372036854775807 then (impl_loopOfRank.l0 k x0 x1 (x5 ++ (Utf8.encode (wrap32 (rd x6 x8))))) else (none)) else (none))) else (none)) else (none)
end
def impl_loopOfRank.f (k : Nat) (a0 : Int) (a1 : Int) : Option (ByteArray) := impl_loopOfRank.l0 k a0 a1 (⟨#[]⟩ : ByteArray)
theorem impl_loopOfRank.mono_l : ∀ k, (∀ y0 y1 y2, LeO (impl_loopOfRank.l0 k y0 y1 y2) (impl_loopOfRank.l0 (k + 1) y0 y1 y2)) ∧ (∀ y0 y1 y2 y3 y4 y5, LeO (impl_loopOfRank.l1 k y0 y1 y2 y3 y4 y5) (impl_loopOfRank.l1 (k + 1) y0 y1 y2 y3 y4 y5))
  | 0 => ⟨fun _ _ _ r h => by simp [impl_loopOfRank.l0] at h, fun _ _ _ _ _ _ r h => by simp [impl_loopOfRank.l1] at h⟩
  | k + 1 => by
    obtain ⟨ih0, ih1⟩ := impl_loopOfRank.mono_l k
    refine ⟨?_, ?_⟩
    · intro y0 y1 y2
      unfold impl_loopOfRank.l0
      repeat' first
      | (with_reducible exact ih0 _ _ _)
      | (with_reducible exact ih1 _ _ _ _ _ _)
      | (with_reducible exact impl_onward.mono _ _ _)
      | (with_reducible exact LeO.refl _)
      | (with_reducible exact LeO.none _)
      | (with_reducible refine LeO.ite ?_ ?_)
      | (with_reducible refine LeO.bind ?_ (fun _ => ?_))
      | exact ih0 _ _ _
      | exact ih1 _ _ _ _ _ _
      | exact impl_onward.mono _ _ _
      | exact LeO.none _
      | refine LeO.ite ?_ ?_
      | refine LeO.bind ?_ (fun _ => ?_)
    · intro y0 y1 y2 y3 y4 y5
      unfold impl_loopOfRank.l1
      repeat' first
      | (with_reducible exact ih0 _ _ _)
      | (with_reducible exact ih1 _ _ _ _ _ _)
      | (with_reducible exact impl_onward.mono _ _ _)
      | (with_reducible exact LeO.refl _)
      | (with_reducible exact LeO.none _)
      | (with_reducible refine LeO.ite ?_ ?_)
      | (with_reducible refine LeO.bind ?_ (fun _ => ?_))
      | exact ih0 _ _ _
      | exact ih1 _ _ _ _ _ _
      | exact impl_onward.mono _ _ _
      | exact LeO.none _
      | refine LeO.ite ?_ ?_
      | refine LeO.bind ?_ (fun _ => ?_)
theorem impl_loopOfRank.mono : ∀ a0 a1 k, LeO (impl_loopOfRank.f k a0 a1) (impl_loopOfRank.f (k + 1) a0 a1) := by
  intro a0 a1 k
  obtain ⟨ih0, ih1⟩ := impl_loopOfRank.mono_l k
  unfold impl_loopOfRank.f
  repeat' first
      | (with_reducible exact ih0 _ _ _)
      | (with_reducible exact ih1 _ _ _ _ _ _)
      | (with_reducible exact impl_onward.mono _ _ _)
      | (with_reducible exact LeO.refl _)
      | (with_reducible exact LeO.none _)
      | (with_reducible refine LeO.ite ?_ ?_)
      | (with_reducible refine LeO.bind ?_ (fun _ => ?_))
      | exact ih0 _ _ _
      | exact ih1 _ _ _ _ _ _
      | exact impl_onward.mono _ _ _
      | exact LeO.none _
      | refine LeO.ite ?_ ?_
      | refine LeO.bind ?_ (fun _ => ?_)
set_option maxHeartbeats 8000000 in
set_option maxRecDepth 100000 in
theorem impl_loopOfRank.calls (k : Nat) (a0 : Int) (a1 : Int) (r : ByteArray) (w : World) (h : impl_loopOfRank.f k a0 a1 = some r) :
    Calls Tryz.prog 57 #[.int .i64 a0, .int .i64 a1] w fun e w' => e = .returned (.string r) ∧ Below w.heap.size w w' := by
  have HB := Aside0.mk (Below.refl w.heap.size w)
  have H : (impl_loopOfRank.l0 k a0 a1 (⟨#[]⟩ : ByteArray)) = some r := h
  clear h
  have H' := Aside0.mk H
  clear H
  go_enter Tryz.func57, Tryz.ntmps57
  go_wp2
  go_loopg [1, 5] k (fun kq v1 v5 w' => ∃ (x1_1 : Int) (x5_1 : ByteArray), v1 = .int .i64 x1_1 ∧ v5 = .string x5_1 ∧ Aside0 (impl_loopOfRank.l0 kq a0 x1_1 x5_1 = some r) ∧ Aside0 (kq ≤ k) ∧ Aside0 (Below w.heap.size w w'))
  case atStart => exact ⟨(a1), ((⟨#[]⟩ : ByteArray)), (by first | rfl | (simp; done) | (simp [*]; done)), (by first | rfl | (simp; done) | (simp [*]; done)), H', ⟨Nat.le_refl _⟩, ⟨by repeat (first | (with_reducible first | exact HB.out | apply below_alloc | apply pw_below_drewN | apply below_drew1) | exact HB.out)⟩⟩
  case round =>
    clear H'
    try clear p2
    obtain ⟨x1_1, x5_1, rfl, rfl, HA, HK1, HB⟩ := hrel
    cases gk with
    | zero => exact absurd HA.out (by simp [impl_loopOfRank.l0])
    | succ k1 =>
      have H := HA.out
      clear HA
      simp only [impl_loopOfRank.l0] at H
      by_cases c3 : (x5_1.size : Int) < (wrap64 (2 * a0))
      · rw [if_pos c3] at H
        have c3b0 : decide ((x5_1.size : Int) < (wrap64 (2 * a0))) = true := decide_eq_true c3
        clear c3
        replace H := Option.bind_eq_some_iff.mp H
        obtain ⟨⟨t137, t138⟩, A40, H⟩ := H
        replace H : (impl_loopOfRank.l1 k1 a0 x1_1 x5_1 t137 t138 0) = some r := H
        have A4 := Aside0.mk A40
        clear A40
        have H' := Aside0.mk H
        clear H
        go_wp2_with (first | ((with_reducible refine gate_callee (f := 61) rfl ?_); refine goesL_ (some 17) rfl rfl Tryz.func61 (by kernel_rfl) rfl #[.int .i64 a0, .string x5_1] rfl (by (try simp only [List.map_toArray, List.map_cons, List.map_nil]); first | done | rfl | (simp only [List.length_drop, List.length_take]; rfl)) ?_; (with_reducible refine (impl_onward.calls k1 a0 x5_1 t137 t138 _ A4.out).mono ?_); rintro e w5 ⟨v139, v141, rfl, ho0, ho1, hb⟩; refine ⟨_, rfl, ?_⟩; have n0_ := Aside0.mk (Kd.R_lower ho0 (below_size (by repeat (first | (with_reducible first | exact HB.out | apply below_alloc | apply pw_below_drewN | apply below_drew1) | exact HB.out)))); have n1_ := Aside0.mk (Kd.R_lower ho1 (below_size (by repeat (first | (with_reducible first | exact HB.out | apply below_alloc | apply pw_below_drewN | apply below_drew1) | exact HB.out)))); have n2_ := Aside0.mk (below_step (by repeat (first | (with_reducible first | exact HB.out | apply below_alloc | apply pw_below_drewN | apply below_drew1) | exact HB.out)) hb); clear HB; have HO140 := n0_; have HO142 := n1_; have HB := n2_; clear n0_ n1_ n2_; (try clear hb); (try clear hb2); (try clear hk); (try clear hi); (try clear ho0); (try clear ho1)))
        go_loopg [1, 8] k1 (fun kq v1 v8 w' => ∃ (x1_2 : Int) (x8_2 : Int), v1 = .int .i64 x1_2 ∧ v8 = .int .i64 x8_2 ∧ Aside0 (impl_loopOfRank.l1 kq a0 x1_2 x5_1 t137 t138 x8_2 = some r) ∧ Aside0 (kq ≤ k1) ∧ Aside0 (Kd.R (Kd.int .u8) 5 w' w.heap.size (fun _ => True) v139 t137) ∧ Aside0 (Kd.R (Kd.int .i64) 3 w' w.heap.size (fun _ => True) v141 t138) ∧ Aside0 (Below w.heap.size w w'))
        case atStart => exact ⟨(x1_1), (0), (by first | rfl | (simp; done) | (simp [*]; done)), (by first | rfl | (simp; done) | (simp [*]; done)), H', ⟨Nat.le_refl _⟩, ⟨by (with_reducible repeat (first | apply Kd.R_alloc | apply Kd.R_drewN | apply Kd.R_drew)); exact HO140.out⟩, ⟨by (with_reducible repeat (first | apply Kd.R_alloc | apply Kd.R_drewN | apply Kd.R_drew)); exact HO142.out⟩, ⟨by repeat (first | (with_reducible first | exact HB.out | apply below_alloc | apply pw_below_drewN | apply below_drew1) | exact HB.out)⟩⟩
        case round =>
          clear H'
          try clear p2
          try clear c3
          try clear c3b0
          try clear c5
          try clear p2
          obtain ⟨x1_2, x8_2, rfl, rfl, HA, HK2, HO_6, HO_7, HB⟩ := hrel
          cases gk with
          | zero => exact absurd HA.out (by simp [impl_loopOfRank.l1])
          | succ k2 =>
            have H := HA.out
            clear HA
            simp only [impl_loopOfRank.l1] at H
            by_cases c6 : 0 ≤ x8_2
            · rw [if_pos c6] at H
              have c6b0 : decide (0 ≤ x8_2) = true := decide_eq_true c6
              clear c6
              by_cases c7 : x8_2 < (t138.length : Int)
              · rw [if_pos c7] at H
                have c7b0 : decide (x8_2 < (t138.length : Int)) = true := decide_eq_true c7
                clear c7
                by_cases c8 : x1_2 ≥ (rd t138 x8_2)
                · rw [if_pos c8] at H
                  have c8b0 : decide ((rd t138 x8_2) ≤ x1_2) = true := decide_eq_true c8
                  clear c8
                  have H' := Aside0.mk H
                  clear H
                  obtain ⟨Ao9, co9, eo9⟩ := Kd.R_slice HO_7.out
                  subst eo9
                  have p143 : 0 ≤ (x8_2 : Int) := of_decide_eq_true (by first | (with_reducible assumption) | assumption)
                  have q143 : x8_2 < (t138.length : Int) := of_decide_eq_true (by first | (with_reducible assumption) | assumption)
                  obtain ⟨ad143, e143, hx143_0⟩ := Kd.at_int (Kd.R_reads' HO_7.out).2.2 x8_2 p143 q143
                  cases e143
                  replace p143 := eq_true p143
                  replace q143 := eq_true q143
                  have p144 : 0 ≤ (x8_2 : Int) := of_decide_eq_true (by first | (with_reducible assumption) | assumption)
                  have q144 : x8_2 < (t138.length : Int) := of_decide_eq_true (by first | (with_reducible assumption) | assumption)
                  obtain ⟨ad144, e144, hx144_0⟩ := Kd.at_int (Kd.R_reads' HO_7.out).2.2 x8_2 p144 q144
                  obtain rfl : ad143 = ad144 := (by injection e144)
                  replace p144 := eq_true p144
                  replace q144 := eq_true q144
                  go_wp2
                  go_roundg k2
                  case measure => have := HK1.out; have := HK2.out; omega
                  case rel => exact ⟨(wrap64 (x1_2 - (rd t138 x8_2))), (wrap64 (x8_2 + 1)), (by first | rfl | (simp; done) | (simp [*]; done)), (by first | rfl | (simp; done) | (simp [*]; done)), H', ⟨by have := HK1.out; have := HK2.out; omega⟩, ⟨by (with_reducible repeat (first | apply Kd.R_alloc | apply Kd.R_drewN | apply Kd.R_drew)); exact HO_6.out⟩, ⟨by (with_reducible repeat (first | apply Kd.R_alloc | apply Kd.R_drewN | apply Kd.R_drew)); exact HO_7.out⟩, ⟨by repeat (first | (with_reducible first | exact HB.out | apply below_alloc | apply pw_below_drewN | apply below_drew1) | exact HB.out)⟩⟩
                · rw [if_neg c8] at H
                  have c8b0 : decide ((rd t138 x8_2) ≤ x1_2) = false := decide_eq_false c8
                  clear c8
                  by_cases c10 : x8_2 < (t137.length : Int)
                  · rw [if_pos c10] at H
                    have c10b0 : decide (x8_2 < (t137.length : Int)) = true := decide_eq_true c10
                    clear c10
                    by_cases c11 : x5_1.size + (Utf8.encode (wrap32 (rd t137 x8_2))).size ≤ 9223372036854775807
                    · rw [if_pos c11] at H
                      have c11b0 := eq_true c11
                      have c11b1 : decide (x5_1.size + (Utf8.encode (wrap32 (rd t137 x8_2))).size ≤ 9223372036854775807) = true := decide_eq_true c11
                      try have c11b2 : (9223372036854775807 < x5_1.size + (Utf8.encode (wrap32 (rd t137 x8_2))).size) = False := eq_false (Nat.not_lt.2 c11)
                      have H' := Aside0.mk H
                      clear H
                      obtain ⟨Ao12, co12, eo12⟩ := Kd.R_slice HO_7.out
                      subst eo12
                      have p143 : 0 ≤ (x8_2 : Int) := of_decide_eq_true (by first | (with_reducible assumption) | assumption)
                      have q143 : x8_2 < (t138.length : Int) := of_decide_eq_true (by first | (with_reducible assumption) | assumption)
                      obtain ⟨ad143, e143, hx143_0⟩ := Kd.at_int (Kd.R_reads' HO_7.out).2.2 x8_2 p143 q143
                      cases e143
                      replace p143 := eq_true p143
                      replace q143 := eq_true q143
                      obtain ⟨Ao13, co13, eo13⟩ := Kd.R_slice HO_6.out
                      subst eo13
                      have p145 : 0 ≤ (x8_2 : Int) := of_decide_eq_true (by first | (with_reducible assumption) | assumption)
                      have q145 : x8_2 < (t137.length : Int) := of_decide_eq_true (by first | (with_reducible assumption) | assumption)
                      obtain ⟨ad145, e145, hx145_0⟩ := Kd.at_int (Kd.R_reads' HO_6.out).2.2 x8_2 p145 q145
                      cases e145
                      replace p145 := eq_true p145
                      replace q145 := eq_true q145
                      go_wp2
                      go_roundg k2
                      case measure => have := HK1.out; have := HK2.out; omega
                      case rel => exact ⟨(x1_2), (x5_1 ++ (Utf8.encode (wrap32 (rd t137 x8_2)))), (by first | rfl | (simp; done) | (simp [*]; done)), (by first | rfl | (simp; done) | (simp [*]; done)), H', ⟨by have := HK1.out; have := HK2.out; omega⟩, ⟨by repeat (first | (with_reducible first | exact HB.out | apply below_alloc | apply pw_below_drewN | apply below_drew1) | exact HB.out)⟩⟩
                    · rw [if_neg c11] at H
                      exact absurd H (by simp)
                  · rw [if_neg c10] at H
                    exact absurd H (by simp)
              · rw [if_neg c7] at H
                exact absurd H (by simp)
            · rw [if_neg c6] at H
              exact absurd H (by simp)
      · rw [if_neg c3] at H
        have c3b0 : decide ((x5_1.size : Int) < (wrap64 (2 * a0))) = false := decide_eq_false c3
        clear c3
        obtain rfl := Option.some.inj H
        go_wp2
        go_ret
        exact ⟨by first | rfl | (simp [errW_none, errW_some] <;> rfl) | (simp [*, errW_none, errW_some] <;> rfl), by repeat (first | (with_reducible first | exact HB.out | apply below_alloc | apply pw_below_drewN | apply below_drew1) | exact HB.out)⟩

end Go.Proofs.YtcgoaipbfnhjhaaGreatDoor.Pr

-- Written by a program for this claim.
namespace Go.Proofs.YtcgoaipbfnhjhaaGreatDoor.Pr
open Go.RowKit Go.Proofs.YtcgoaipbfnhjhaaGreatDoorW.PrintWords Go.Proofs.YtcgoaipbfnhjhaaGreatDoorW.PrintLast Go.Proofs.YtcgoaipbfnhjhaaGreatDoorW.PrintMore
attribute [local go_sem] max2_int min2_int max_two min_two max_three min_three max_four min_four   -- for this text's walks alone
set_option linter.unusedVariables false
set_option linter.unusedSimpArgs false

/-! ### impl_LoopOfRank: function 7 -/
def impl_LoopOfRank.f (k : Nat) (a0 : Int) (a1 : Int) : Option (ByteArray × Bool) := (impl_isCrossings.f a0).bind fun t146 => (if t146 = true then ((impl_countOn.f k 0 a0).bind fun t147 => ((impl_within.f a1 0 (wrap64 (t147 - 1))).bind fun t148 => (if t148 = true then ((impl_loopOfRank.f k a0 a1).bind fun t149 => (some (t149, true))) else (some ((⟨#[]⟩ : ByteArray), false))))) else (some ((⟨#[]⟩ : ByteArray), false)))
theorem impl_LoopOfRank.mono : ∀ a0 a1 k, LeO (impl_LoopOfRank.f k a0 a1) (impl_LoopOfRank.f (k + 1) a0 a1) := by
  intro a0 a1 k
  unfold impl_LoopOfRank.f
  repeat' first
      | (with_reducible exact impl_countOn.mono _ _ _)
      | (with_reducible exact impl_loopOfRank.mono _ _ _)
      | (with_reducible exact LeO.refl _)
      | (with_reducible exact LeO.none _)
      | (with_reducible refine LeO.ite ?_ ?_)
      | (with_reducible refine LeO.bind ?_ (fun _ => ?_))
      | exact impl_countOn.mono _ _ _
      | exact impl_loopOfRank.mono _ _ _
      | exact LeO.none _
      | refine LeO.ite ?_ ?_
      | refine LeO.bind ?_ (fun _ => ?_)
set_option maxHeartbeats 8000000 in
set_option maxRecDepth 100000 in
theorem impl_LoopOfRank.calls (k : Nat) (a0 : Int) (a1 : Int) (r1 : ByteArray) (r2 : Bool) (w : World) (h : impl_LoopOfRank.f k a0 a1 = some (r1, r2)) :
    Calls Tryz.prog 7 #[.int .i64 a0, .int .i64 a1] w fun e w' => e = .returned (.tuple #[.string r1, .bool r2]) ∧ Below w.heap.size w w' := by
  have HB := Aside0.mk (Below.refl w.heap.size w)
  have H : ((impl_isCrossings.f a0).bind fun t146 => (if t146 = true then ((impl_countOn.f k 0 a0).bind fun t147 => ((impl_within.f a1 0 (wrap64 (t147 - 1))).bind fun t148 => (if t148 = true then ((impl_loopOfRank.f k a0 a1).bind fun t149 => (some (t149, true))) else (some ((⟨#[]⟩ : ByteArray), false))))) else (some ((⟨#[]⟩ : ByteArray), false)))) = some (r1, r2) := h
  clear h
  replace H := Option.bind_eq_some_iff.mp H
  obtain ⟨t146, A30, H⟩ := H
  replace H : (if t146 = true then ((impl_countOn.f k 0 a0).bind fun t147 => ((impl_within.f a1 0 (wrap64 (t147 - 1))).bind fun t148 => (if t148 = true then ((impl_loopOfRank.f k a0 a1).bind fun t149 => (some (t149, true))) else (some ((⟨#[]⟩ : ByteArray), false))))) else (some ((⟨#[]⟩ : ByteArray), false))) = some (r1, r2) := H
  have A3 := Aside0.mk A30
  clear A30
  by_cases c4 : t146 = true
  · subst c4
    have H1 : ((impl_countOn.f k 0 a0).bind fun t147 => ((impl_within.f a1 0 (wrap64 (t147 - 1))).bind fun t148 => (if t148 = true then ((impl_loopOfRank.f k a0 a1).bind fun t149 => (some (t149, true))) else (some ((⟨#[]⟩ : ByteArray), false))))) = some (r1, r2) := by rw [if_pos rfl] at H; exact H
    clear H
    have H := H1
    clear H1
    replace H := Option.bind_eq_some_iff.mp H
    obtain ⟨t147, A50, H⟩ := H
    replace H : ((impl_within.f a1 0 (wrap64 (t147 - 1))).bind fun t148 => (if t148 = true then ((impl_loopOfRank.f k a0 a1).bind fun t149 => (some (t149, true))) else (some ((⟨#[]⟩ : ByteArray), false)))) = some (r1, r2) := H
    have A5 := Aside0.mk A50
    clear A50
    replace H := Option.bind_eq_some_iff.mp H
    obtain ⟨t148, A60, H⟩ := H
    replace H : (if t148 = true then ((impl_loopOfRank.f k a0 a1).bind fun t149 => (some (t149, true))) else (some ((⟨#[]⟩ : ByteArray), false))) = some (r1, r2) := H
    have A6 := Aside0.mk A60
    clear A60
    by_cases c7 : t148 = true
    · subst c7
      have H1 : ((impl_loopOfRank.f k a0 a1).bind fun t149 => (some (t149, true))) = some (r1, r2) := by rw [if_pos rfl] at H; exact H
      clear H
      have H := H1
      clear H1
      replace H := Option.bind_eq_some_iff.mp H
      obtain ⟨t149, A80, H⟩ := H
      replace H : (some (t149, true)) = some (r1, r2) := H
      have A8 := Aside0.mk A80
      clear A80
      simp only [Option.some.injEq, Prod.mk.injEq] at H
      obtain ⟨rfl, rfl⟩ := H
      go_enter Tryz.func7, Tryz.ntmps7
      go_wp2_with (first | ((with_reducible refine gate_callee (f := 54) rfl ?_); refine goesL_ (some 7) rfl rfl Tryz.func54 (by kernel_rfl) rfl #[.int .i64 a0] rfl (by (try simp only [List.map_toArray, List.map_cons, List.map_nil]); first | done | rfl | (simp only [List.length_drop, List.length_take]; rfl)) ?_; (with_reducible refine (impl_isCrossings.calls a0 true _ A3.out).mono ?_); rintro e w' ⟨rfl, ⟨nd, rfl⟩⟩; refine ⟨_, rfl, ?_⟩) | (go_at_call 56; (with_reducible refine (impl_countOn.calls k 0 a0 t147 _ A5.out).mono ?_); rintro e w' ⟨rfl, ⟨nd, rfl⟩⟩) | (go_at_call 55; (with_reducible refine (impl_within.calls a1 0 (wrap64 (t147 - 1)) true _ A6.out).mono ?_); rintro e w' ⟨rfl, ⟨nd, rfl⟩⟩) | ((with_reducible refine gate_callee (f := 57) rfl ?_); refine goesL_ (some 19) rfl rfl Tryz.func57 (by kernel_rfl) rfl #[.int .i64 a0, .int .i64 a1] rfl (by (try simp only [List.map_toArray, List.map_cons, List.map_nil]); first | done | rfl | (simp only [List.length_drop, List.length_take]; rfl)) ?_; (with_reducible refine (impl_loopOfRank.calls k a0 a1 t149 _ A8.out).mono ?_); rintro e w9 ⟨rfl, hb⟩; refine ⟨_, rfl, ?_⟩; have n0_ := Aside0.mk (below_step (by repeat (first | (with_reducible first | exact HB.out | apply below_alloc | apply pw_below_drewN | apply below_drew1) | exact HB.out)) hb); clear HB; have HB := n0_; clear n0_; (try clear hb); (try clear hb2); (try clear hk); (try clear hi)))
      go_ret2
      exact ⟨by first | rfl | (simp [errW_none, errW_some] <;> rfl) | (simp [*, errW_none, errW_some] <;> rfl), by repeat (first | (with_reducible first | exact HB.out | apply below_alloc | apply pw_below_drewN | apply below_drew1) | exact HB.out)⟩
    · replace c7 := Bool.eq_false_iff.mpr c7
      subst c7
      have H1 : (some ((⟨#[]⟩ : ByteArray), false)) = some (r1, r2) := by rw [if_neg (show ¬ (false = true) by decide)] at H; exact H
      clear H
      have H := H1
      clear H1
      simp only [Option.some.injEq, Prod.mk.injEq] at H
      obtain ⟨rfl, rfl⟩ := H
      go_enter Tryz.func7, Tryz.ntmps7
      go_wp2_with (first | ((with_reducible refine gate_callee (f := 54) rfl ?_); refine goesL_ (some 7) rfl rfl Tryz.func54 (by kernel_rfl) rfl #[.int .i64 a0] rfl (by (try simp only [List.map_toArray, List.map_cons, List.map_nil]); first | done | rfl | (simp only [List.length_drop, List.length_take]; rfl)) ?_; (with_reducible refine (impl_isCrossings.calls a0 true _ A3.out).mono ?_); rintro e w' ⟨rfl, ⟨nd, rfl⟩⟩; refine ⟨_, rfl, ?_⟩) | (go_at_call 56; (with_reducible refine (impl_countOn.calls k 0 a0 t147 _ A5.out).mono ?_); rintro e w' ⟨rfl, ⟨nd, rfl⟩⟩) | (go_at_call 55; (with_reducible refine (impl_within.calls a1 0 (wrap64 (t147 - 1)) false _ A6.out).mono ?_); rintro e w' ⟨rfl, ⟨nd, rfl⟩⟩))
      go_ret2
      exact ⟨by first | rfl | (simp [errW_none, errW_some] <;> rfl) | (simp [*, errW_none, errW_some] <;> rfl), by repeat (first | (with_reducible first | exact HB.out | apply below_alloc | apply pw_below_drewN | apply below_drew1) | exact HB.out)⟩
  · replace c4 := Bool.eq_false_iff.mpr c4
    subst c4
    have H1 : (some ((⟨#[]⟩ : ByteArray), false)) = some (r1, r2) := by rw [if_neg (show ¬ (false = true) by decide)] at H; exact H
    clear H
    have H := H1
    clear H1
    simp only [Option.some.injEq, Prod.mk.injEq] at H
    obtain ⟨rfl, rfl⟩ := H
    go_enter Tryz.func7, Tryz.ntmps7
    go_wp2_with (first | ((with_reducible refine gate_callee (f := 54) rfl ?_); refine goesL_ (some 7) rfl rfl Tryz.func54 (by kernel_rfl) rfl #[.int .i64 a0] rfl (by (try simp only [List.map_toArray, List.map_cons, List.map_nil]); first | done | rfl | (simp only [List.length_drop, List.length_take]; rfl)) ?_; (with_reducible refine (impl_isCrossings.calls a0 false _ A3.out).mono ?_); rintro e w' ⟨rfl, ⟨nd, rfl⟩⟩; refine ⟨_, rfl, ?_⟩))
    go_ret2
    exact ⟨by first | rfl | (simp [errW_none, errW_some] <;> rfl) | (simp [*, errW_none, errW_some] <;> rfl), by repeat (first | (with_reducible first | exact HB.out | apply below_alloc | apply pw_below_drewN | apply below_drew1) | exact HB.out)⟩

end Go.Proofs.YtcgoaipbfnhjhaaGreatDoor.Pr

-- Written by a program for this claim.
namespace Go.Proofs.YtcgoaipbfnhjhaaGreatDoor.Pr
open Go.RowKit Go.Proofs.YtcgoaipbfnhjhaaGreatDoorW.PrintWords Go.Proofs.YtcgoaipbfnhjhaaGreatDoorW.PrintLast Go.Proofs.YtcgoaipbfnhjhaaGreatDoorW.PrintMore
attribute [local go_sem] max2_int min2_int max_two min_two max_three min_three max_four min_four   -- for this text's walks alone
set_option linter.unusedVariables false
set_option linter.unusedSimpArgs false

/-! ### spec_l1In: function 58 -/
def spec_l1In.f (a0 : Int) (a1 : Int) (a2 : Int) : Option (Bool) := if a0 ≥ a1 then (some (decide (a0 ≤ a2))) else (some false)
set_option maxHeartbeats 8000000 in
set_option maxRecDepth 100000 in
theorem spec_l1In.calls (a0 : Int) (a1 : Int) (a2 : Int) (r : Bool) (w : World) (h : spec_l1In.f a0 a1 a2 = some r) :
    Calls Tryz.prog 58 #[.int .i64 a0, .int .i64 a1, .int .i64 a2] w fun e w' => e = .returned (.bool r) ∧ Drawn0 w w' := by
  have H : (if a0 ≥ a1 then (some (decide (a0 ≤ a2))) else (some false)) = some r := h
  clear h
  by_cases c4 : a0 ≥ a1
  · rw [if_pos c4] at H
    have c4b0 : decide (a1 ≤ a0) = true := decide_eq_true c4
    clear c4
    obtain rfl := Option.some.inj H
    go_enter Tryz.func58, Tryz.ntmps58
    go_wp2
    go_ret
    exact ⟨by first | rfl | (simp; done) | (simp [*]; done), by repeat (first | exact Drawn0.refl _ | apply Drawn0.step)⟩
  · rw [if_neg c4] at H
    have c4b0 : decide (a1 ≤ a0) = false := decide_eq_false c4
    clear c4
    obtain rfl := Option.some.inj H
    go_enter Tryz.func58, Tryz.ntmps58
    go_wp2
    go_ret
    exact ⟨by first | rfl | (simp; done) | (simp [*]; done), by repeat (first | exact Drawn0.refl _ | apply Drawn0.step)⟩

end Go.Proofs.YtcgoaipbfnhjhaaGreatDoor.Pr

-- Written by a program for this claim.
namespace Go.Proofs.YtcgoaipbfnhjhaaGreatDoor.Pr
open Go.RowKit Go.Proofs.YtcgoaipbfnhjhaaGreatDoorW.PrintWords Go.Proofs.YtcgoaipbfnhjhaaGreatDoorW.PrintLast Go.Proofs.YtcgoaipbfnhjhaaGreatDoorW.PrintMore
attribute [local go_sem] max2_int min2_int max_two min_two max_three min_three max_four min_four   -- for this text's walks alone
set_option linter.unusedVariables false
set_option linter.unusedSimpArgs false

/-! ### spec_loCount: function 59 -/
def spec_loCount.l0 : Nat → Int → Int → Int → Option (Int)
  | 0, _, _, _ => none
  | k + 1, x0, x3, x4 => if x4 ≤ x0 then (spec_loCount.l0 k x0 (wrap64 (x3 * (wrap64 ((wrap64 (2 * x4)) - 1)))) (wrap64 (x4 + 1))) else (some x3)
def spec_loCount.f (k : Nat) (a0 : Int) : Option (Int) := spec_loCount.l0 k a0 1 1
theorem spec_loCount.mono_l : ∀ k, (∀ y0 y1 y2, LeO (spec_loCount.l0 k y0 y1 y2) (spec_loCount.l0 (k + 1) y0 y1 y2))
  | 0 => fun _ _ _ r h => by simp [spec_loCount.l0] at h
  | k + 1 => by
    have ih0 := spec_loCount.mono_l k
    · intro y0 y1 y2
      unfold spec_loCount.l0
      repeat' first
      | (with_reducible exact ih0 _ _ _)
      | (with_reducible exact LeO.refl _)
      | (with_reducible exact LeO.none _)
      | (with_reducible refine LeO.ite ?_ ?_)
      | (with_reducible refine LeO.bind ?_ (fun _ => ?_))
      | exact ih0 _ _ _
      | exact LeO.none _
      | refine LeO.ite ?_ ?_
      | refine LeO.bind ?_ (fun _ => ?_)
theorem spec_loCount.mono : ∀ a0 k, LeO (spec_loCount.f k a0) (spec_loCount.f (k + 1) a0) := by
  intro a0 k
  have ih0 := spec_loCount.mono_l k
  unfold spec_loCount.f
  repeat' first
      | (with_reducible exact ih0 _ _ _)
      | (with_reducible exact LeO.refl _)
      | (with_reducible exact LeO.none _)
      | (with_reducible refine LeO.ite ?_ ?_)
      | (with_reducible refine LeO.bind ?_ (fun _ => ?_))
      | exact ih0 _ _ _
      | exact LeO.none _
      | refine LeO.ite ?_ ?_
      | refine LeO.bind ?_ (fun _ => ?_)
set_option maxHeartbeats 8000000 in
set_option maxRecDepth 100000 in
theorem spec_loCount.calls (k : Nat) (a0 : Int) (r : Int) (w : World) (h : spec_loCount.f k a0 = some r) :
    Calls Tryz.prog 59 #[.int .i64 a0] w fun e w' => e = .returned (.int .i64 r) ∧ Drawn0 w w' := by
  have H : (spec_loCount.l0 k a0 1 1) = some r := h
  clear h
  have H' := Aside0.mk H
  clear H
  go_enter Tryz.func59, Tryz.ntmps59
  go_wp2
  go_loopg [3, 4] k (fun kq v3 v4 w' => ∃ (x3_1 : Int) (x4_1 : Int), v3 = .int .i64 x3_1 ∧ v4 = .int .i64 x4_1 ∧ Aside0 (spec_loCount.l0 kq a0 x3_1 x4_1 = some r) ∧ Aside0 (kq ≤ k) ∧ Drawn0 w w')
  case atStart => exact ⟨(1), (1), (by first | rfl | (simp; done) | (simp [*]; done)), (by first | rfl | (simp; done) | (simp [*]; done)), H', ⟨Nat.le_refl _⟩, by repeat (first | exact Drawn0.refl _ | apply Drawn0.step)⟩
  case round =>
    clear H'
    obtain ⟨x3_1, x4_1, rfl, rfl, HA, HK1, ⟨m1, rfl⟩⟩ := hrel
    cases gk with
    | zero => exact absurd HA.out (by simp [spec_loCount.l0])
    | succ k1 =>
      have H := HA.out
      clear HA
      simp only [spec_loCount.l0] at H
      by_cases c2 : x4_1 ≤ a0
      · rw [if_pos c2] at H
        have c2b0 : decide (x4_1 ≤ a0) = true := decide_eq_true c2
        clear c2
        have H' := Aside0.mk H
        clear H
        go_wp2
        go_roundg k1
        case measure => have := HK1.out; omega
        case rel => exact ⟨(wrap64 (x3_1 * (wrap64 ((wrap64 (2 * x4_1)) - 1)))), (wrap64 (x4_1 + 1)), (by first | rfl | (simp; done) | (simp [*]; done)), (by first | rfl | (simp; done) | (simp [*]; done)), H', ⟨by have := HK1.out; omega⟩, by repeat (first | exact Drawn0.refl _ | apply Drawn0.step)⟩
      · rw [if_neg c2] at H
        have c2b0 : decide (x4_1 ≤ a0) = false := decide_eq_false c2
        clear c2
        obtain rfl := Option.some.inj H
        go_wp2
        go_ret
        exact ⟨by first | rfl | (simp; done) | (simp [*]; done), by repeat (first | exact Drawn0.refl _ | apply Drawn0.step)⟩

end Go.Proofs.YtcgoaipbfnhjhaaGreatDoor.Pr

-- Written by a program for this claim.
namespace Go.Proofs.YtcgoaipbfnhjhaaGreatDoor.Pr
open Go.RowKit Go.Proofs.YtcgoaipbfnhjhaaGreatDoorW.PrintWords Go.Proofs.YtcgoaipbfnhjhaaGreatDoorW.PrintLast Go.Proofs.YtcgoaipbfnhjhaaGreatDoorW.PrintMore
attribute [local go_sem] max2_int min2_int max_two min_two max_three min_three max_four min_four   -- for this text's walks alone
set_option linter.unusedVariables false
set_option linter.unusedSimpArgs false

/-! ### spec_loWays: function 79 -/
mutual
def spec_loWays.j0 : Nat → Int → Int → Bool → Option (Int)
  | 0, _, _, _ => none
  | k + 1, x0, x1, x11 => if x11 = true then (some 1) else (if x0 > 0 then ((spec_loWays.f k (wrap64 (x0 - 1)) x1).bind fun t150 => (if x1 > 0 then ((spec_loWays.f k (wrap64 (x0 + 1)) (wrap64 (x1 - 1))).bind fun t151 => (some (wrap64 ((wrap64 (0 + (wrap64 (x0 * t150)))) + t151)))) else (some (wrap64 (0 + (wrap64 (x0 * t150))))))) else (if x1 > 0 then ((spec_loWays.f k (wrap64 (x0 + 1)) (wrap64 (x1 - 1))).bind fun t152 => (some (wrap64 (0 + t152)))) else (some 0)))
def spec_loWays.f : Nat → Int → Int → Option (Int)
  | 0, _, _ => none
  | k + 1, a0, a1 => if a0 = 0 then (spec_loWays.j0 k a0 a1 (a1 == 0)) else (spec_loWays.j0 k a0 a1 false)
end
theorem spec_loWays.mono_l : ∀ k, (∀ y0 y1, LeO (spec_loWays.f k y0 y1) (spec_loWays.f (k + 1) y0 y1)) ∧ (∀ y0 y1 y2, LeO (spec_loWays.j0 k y0 y1 y2) (spec_loWays.j0 (k + 1) y0 y1 y2))
  | 0 => ⟨fun _ _ r h => by simp [spec_loWays.f] at h, fun _ _ _ r h => by simp [spec_loWays.j0] at h⟩
  | k + 1 => by
    obtain ⟨ih0, ih1⟩ := spec_loWays.mono_l k
    refine ⟨?_, ?_⟩
    · intro y0 y1
      unfold spec_loWays.f
      repeat' first
      | (with_reducible exact ih0 _ _)
      | (with_reducible exact ih1 _ _ _)
      | (with_reducible exact LeO.refl _)
      | (with_reducible exact LeO.none _)
      | (with_reducible refine LeO.ite ?_ ?_)
      | (with_reducible refine LeO.bind ?_ (fun _ => ?_))
      | exact ih0 _ _
      | exact ih1 _ _ _
      | exact LeO.none _
      | refine LeO.ite ?_ ?_
      | refine LeO.bind ?_ (fun _ => ?_)
    · intro y0 y1 y2
      unfold spec_loWays.j0
      repeat' first
      | (with_reducible exact ih0 _ _)
      | (with_reducible exact ih1 _ _ _)
      | (with_reducible exact LeO.refl _)
      | (with_reducible exact LeO.none _)
      | (with_reducible refine LeO.ite ?_ ?_)
      | (with_reducible refine LeO.bind ?_ (fun _ => ?_))
      | exact ih0 _ _
      | exact ih1 _ _ _
      | exact LeO.none _
      | refine LeO.ite ?_ ?_
      | refine LeO.bind ?_ (fun _ => ?_)
theorem spec_loWays.mono : ∀ a0 a1 k, LeO (spec_loWays.f k a0 a1) (spec_loWays.f (k + 1) a0 a1) := by
  intro a0 a1 k
  obtain ⟨ih0, ih1⟩ := spec_loWays.mono_l k
  exact ih0 a0 a1
set_option maxHeartbeats 8000000 in
set_option maxRecDepth 100000 in
theorem spec_loWays.calls (k : Nat) : ∀ (a0 : Int) (a1 : Int) (r : Int) (w : World) (h : spec_loWays.f k a0 a1 = some r),
    Calls Tryz.prog 79 #[.int .i64 a0, .int .i64 a1] w fun e w' => e = .returned (.int .i64 r) ∧ Drawn0 w w' := by
  induction k using Nat.strongRecOn with
  | _ k ih =>
  intro a0 a1 r w h
  cases k with
  | zero => exact absurd h (by simp [spec_loWays.f])
  | succ k =>
  simp only [spec_loWays.f] at h
  have H : (if a0 = 0 then (spec_loWays.j0 k a0 a1 (a1 == 0)) else (spec_loWays.j0 k a0 a1 false)) = some r := h
  clear h
  have HC3 := Aside0.mk H
  clear H
  go_enter Tryz.func79, Tryz.ntmps79
  go_upto_region 1 with (fail)
  go_cut [11] (fun v11 wc => ∃ (kq : Nat) (x11_2 : Bool), v11 = .bool x11_2 ∧ Aside0 (spec_loWays.j0 kq a0 a1 x11_2 = some r) ∧ Aside0 (kq ≤ k) ∧ Drawn0 w wc)
  case first =>
    have H := HC3.out
    clear HC3
    by_cases c4 : a0 = 0
    · rw [if_pos c4] at H
      have c4b0 : (a0 == 0) = true := beq_iff_eq.mpr c4
      have c4b1 : (a0 != 0) = false := bne_eq_false_iff_eq.mpr c4
      clear c4
      (first | rw [c4b0] | (simp only [i64_w, i32_w]; rw [c4b0]) | skip)
      have H' := Aside0.mk H
      clear H
      go_wp2
      go_meet
      case rel => exact ⟨_, ((a1 == 0)), (by first | rfl | (simp; done) | (simp [*]; done)), H', ⟨by first | omega | exact Nat.le_refl _⟩, by repeat (first | exact Drawn0.refl _ | apply Drawn0.step)⟩
    · rw [if_neg c4] at H
      have c4b0 : (a0 == 0) = false := beq_eq_false_iff_ne.mpr c4
      have c4b1 : (a0 != 0) = true := bne_iff_ne.mpr c4
      (first | rw [c4b0] | (simp only [i64_w, i32_w]; rw [c4b0]) | skip)
      have H' := Aside0.mk H
      clear H
      go_wp2
      go_meet
      case rel => exact ⟨_, (false), (by first | rfl | (simp; done) | (simp [*]; done)), H', ⟨by first | omega | exact Nat.le_refl _⟩, by repeat (first | exact Drawn0.refl _ | apply Drawn0.step)⟩
  case rest =>
    clear HC3
    try clear p2
    try clear c4
    try clear c4b0
    try clear c4b1
    obtain ⟨kq, x11_2, rfl, HA, HJ2, ⟨mc2, rfl⟩⟩ := hcut
    cases kq with
    | zero => exact absurd HA.out (by simp [spec_loWays.j0])
    | succ kj2 =>
      have H := HA.out
      clear HA
      simp only [spec_loWays.j0] at H
      by_cases c5 : x11_2 = true
      · subst c5
        have H1 : (some 1) = some r := by rw [if_pos rfl] at H; exact H
        clear H
        have H := H1
        clear H1
        obtain rfl := Option.some.inj H
        go_wp2
        go_ret
        exact ⟨by first | rfl | (simp; done) | (simp [*]; done), by repeat (first | exact Drawn0.refl _ | apply Drawn0.step)⟩
      · replace c5 := Bool.eq_false_iff.mpr c5
        subst c5
        have H1 : (if a0 > 0 then ((spec_loWays.f kj2 (wrap64 (a0 - 1)) a1).bind fun t150 => (if a1 > 0 then ((spec_loWays.f kj2 (wrap64 (a0 + 1)) (wrap64 (a1 - 1))).bind fun t151 => (some (wrap64 ((wrap64 (0 + (wrap64 (a0 * t150)))) + t151)))) else (some (wrap64 (0 + (wrap64 (a0 * t150))))))) else (if a1 > 0 then ((spec_loWays.f kj2 (wrap64 (a0 + 1)) (wrap64 (a1 - 1))).bind fun t152 => (some (wrap64 (0 + t152)))) else (some 0))) = some r := by rw [if_neg (show ¬ (false = true) by decide)] at H; exact H
        clear H
        have H := H1
        clear H1
        by_cases c6 : a0 > 0
        · rw [if_pos c6] at H
          have c6b0 : decide (0 < a0) = true := decide_eq_true c6
          clear c6
          replace H := Option.bind_eq_some_iff.mp H
          obtain ⟨t150, A70, H⟩ := H
          replace H : (if a1 > 0 then ((spec_loWays.f kj2 (wrap64 (a0 + 1)) (wrap64 (a1 - 1))).bind fun t151 => (some (wrap64 ((wrap64 (0 + (wrap64 (a0 * t150)))) + t151)))) else (some (wrap64 (0 + (wrap64 (a0 * t150)))))) = some r := H
          have A7 := Aside0.mk A70
          clear A70
          by_cases c8 : a1 > 0
          · rw [if_pos c8] at H
            have c8b0 : decide (0 < a1) = true := decide_eq_true c8
            clear c8
            replace H := Option.bind_eq_some_iff.mp H
            obtain ⟨t151, A90, H⟩ := H
            replace H : (some (wrap64 ((wrap64 (0 + (wrap64 (a0 * t150)))) + t151))) = some r := H
            have A9 := Aside0.mk A90
            clear A90
            obtain rfl := Option.some.inj H
            go_wp2_with (first | ((with_reducible refine gate_callee (f := 79) rfl ?_); refine goesL_ (some 19) rfl rfl Tryz.func79 (by kernel_rfl) rfl #[.int .i64 (wrap64 (a0 - 1)), .int .i64 a1] rfl (by (try simp only [List.map_toArray, List.map_cons, List.map_nil]); first | done | rfl | (simp only [List.length_drop, List.length_take]; rfl)) ?_; (with_reducible refine (ih kj2 (by have := HJ2.out; omega) (wrap64 (a0 - 1)) a1 t150 _ A7.out).mono ?_); rintro e w' ⟨rfl, ⟨nd, rfl⟩⟩; refine ⟨_, rfl, ?_⟩) | ((with_reducible refine gate_callee (f := 79) rfl ?_); refine goesL_ (some 29) rfl rfl Tryz.func79 (by kernel_rfl) rfl #[.int .i64 (wrap64 (a0 + 1)), .int .i64 (wrap64 (a1 - 1))] rfl (by (try simp only [List.map_toArray, List.map_cons, List.map_nil]); first | done | rfl | (simp only [List.length_drop, List.length_take]; rfl)) ?_; (with_reducible refine (ih kj2 (by have := HJ2.out; omega) (wrap64 (a0 + 1)) (wrap64 (a1 - 1)) t151 _ A9.out).mono ?_); rintro e w' ⟨rfl, ⟨nd, rfl⟩⟩; refine ⟨_, rfl, ?_⟩))
            go_ret
            exact ⟨by first | rfl | (simp; done) | (simp [*]; done), by repeat (first | exact Drawn0.refl _ | apply Drawn0.step)⟩
          · rw [if_neg c8] at H
            have c8b0 : decide (0 < a1) = false := decide_eq_false c8
            clear c8
            obtain rfl := Option.some.inj H
            go_wp2_with (first | ((with_reducible refine gate_callee (f := 79) rfl ?_); refine goesL_ (some 19) rfl rfl Tryz.func79 (by kernel_rfl) rfl #[.int .i64 (wrap64 (a0 - 1)), .int .i64 a1] rfl (by (try simp only [List.map_toArray, List.map_cons, List.map_nil]); first | done | rfl | (simp only [List.length_drop, List.length_take]; rfl)) ?_; (with_reducible refine (ih kj2 (by have := HJ2.out; omega) (wrap64 (a0 - 1)) a1 t150 _ A7.out).mono ?_); rintro e w' ⟨rfl, ⟨nd, rfl⟩⟩; refine ⟨_, rfl, ?_⟩))
            go_ret
            exact ⟨by first | rfl | (simp; done) | (simp [*]; done), by repeat (first | exact Drawn0.refl _ | apply Drawn0.step)⟩
        · rw [if_neg c6] at H
          have c6b0 : decide (0 < a0) = false := decide_eq_false c6
          clear c6
          by_cases c10 : a1 > 0
          · rw [if_pos c10] at H
            have c10b0 : decide (0 < a1) = true := decide_eq_true c10
            clear c10
            replace H := Option.bind_eq_some_iff.mp H
            obtain ⟨t152, A110, H⟩ := H
            replace H : (some (wrap64 (0 + t152))) = some r := H
            have A11 := Aside0.mk A110
            clear A110
            obtain rfl := Option.some.inj H
            go_wp2_with (first | ((with_reducible refine gate_callee (f := 79) rfl ?_); refine goesL_ (some 29) rfl rfl Tryz.func79 (by kernel_rfl) rfl #[.int .i64 (wrap64 (a0 + 1)), .int .i64 (wrap64 (a1 - 1))] rfl (by (try simp only [List.map_toArray, List.map_cons, List.map_nil]); first | done | rfl | (simp only [List.length_drop, List.length_take]; rfl)) ?_; (with_reducible refine (ih kj2 (by have := HJ2.out; omega) (wrap64 (a0 + 1)) (wrap64 (a1 - 1)) t152 _ A11.out).mono ?_); rintro e w' ⟨rfl, ⟨nd, rfl⟩⟩; refine ⟨_, rfl, ?_⟩))
            go_ret
            exact ⟨by first | rfl | (simp; done) | (simp [*]; done), by repeat (first | exact Drawn0.refl _ | apply Drawn0.step)⟩
          · rw [if_neg c10] at H
            have c10b0 : decide (0 < a1) = false := decide_eq_false c10
            clear c10
            obtain rfl := Option.some.inj H
            go_wp2
            go_ret
            exact ⟨by first | rfl | (simp; done) | (simp [*]; done), by repeat (first | exact Drawn0.refl _ | apply Drawn0.step)⟩

end Go.Proofs.YtcgoaipbfnhjhaaGreatDoor.Pr

-- Written by a program for this claim.
namespace Go.Proofs.YtcgoaipbfnhjhaaGreatDoor.Pr
open Go.RowKit Go.Proofs.YtcgoaipbfnhjhaaGreatDoorW.PrintWords Go.Proofs.YtcgoaipbfnhjhaaGreatDoorW.PrintLast Go.Proofs.YtcgoaipbfnhjhaaGreatDoorW.PrintMore
attribute [local go_sem] max2_int min2_int max_two min_two max_three min_three max_four min_four   -- for this text's walks alone
set_option linter.unusedVariables false
set_option linter.unusedSimpArgs false

/-! ### spec_loRanked: function 60 -/
mutual
def spec_loRanked.l0 : Nat → Int → Int → ByteArray → ByteArray → Int → Option (ByteArray)
  | 0, _, _, _, _, _ => none
  | k + 1, x0, x1, x5, x6, x7 => if (x5.size : Int) < (wrap64 (2 * x0)) then (spec_loRanked.l1 k x0 x1 x5 x6 x7 false 0) else (some x5)
def spec_loRanked.l1 : Nat → Int → Int → ByteArray → ByteArray → Int → Bool → Int → Option (ByteArray)
  | 0, _, _, _, _, _, _, _ => none
  | k + 1, x0, x1, x5, x6, x7, x8, x9 => if x9 < (x6.size : Int) then (spec_loRanked.j2 k x0 x1 x5 x6 x7 x8 x9 (!x8)) else (spec_loRanked.j2 k x0 x1 x5 x6 x7 x8 x9 false)
def spec_loRanked.j2 : Nat → Int → Int → ByteArray → ByteArray → Int → Bool → Int → Bool → Option (ByteArray)
  | 0, _, _, _, _, _, _, _, _ => none
  | k + 1, x0, x1, x5, x6, x7, x8, x9, x24 => if x24 = true then ((spec_loWays.f k (wrap64 ((x6.size : Int) - 1)) (wrap64 (x0 - x7))).bind fun t153 => (if x1 < t153 then (if 0 ≤ x9 then (if x9 ≤ (wrap64 (x9 + 1)) then (if (wrap64 (x9 + 1)) ≤ (x6.size : Int) then (if x5.size + (x6.extract (x9 : Int).toNat ((wrap64 (x9 + 1)) : Int).toNat).size ≤ 9223372036854775807 then (if x9 ≤ (x6.size : Int) then (if 0 ≤ (wrap64 (x9 + 1)) then (if (x6.extract 0 (x9 : Int).toNat).size + (x6.extract ((wrap64 (x9 + 1)) : Int).toNat x6.size).size ≤ 9223372036854775807 then (spec_loRanked.l1 k x0 x1 (x5 ++ (x6.extract (x9 : Int).toNat ((wrap64 (x9 + 1)) : Int).toNat)) ((x6.extract 0 (x9 : Int).toNat) ++ (x6.extract ((wrap64 (x9 + 1)) : Int).toNat x6.size)) x7 true (wrap64 (x9 + 1))) else (none)) else (none)) else (none)) else (none)) else (none)) else (none)) else (none)) else (spec_loRanked.l1 k x0 (wrap64 (x1 - t153)) x5 x6 x7 x8 (wrap64 (x9 + 1))))) else (if x8 = true then (spec_loRanked.l0 k x0 x1 x5 x6 x7) else (if 0 ≤ x7 then (if x7 ≤ (wrap64 (x7 + 1)) then (if (wrap64 (x7 + 1)) ≤ 16 then (if x5.size + ((⟨#[97, 98, 99, 100, 101, 102, 103, 104, 105, 106, 107, 108, 109, 110, 111, 112]⟩ : ByteArray).extract (x7 : Int).toNat ((wrap64 (x7 + 1)) : Int).toNat).size ≤ 9223372036854775807 then (if x6.size + ((⟨#[97, 98, 99, 100, 101, 102, 103, 104, 105, 106, 107, 108, 109, 110, 111, 112]⟩ : ByteArray).extract (x7 : Int).toNat ((wrap64 (x7 + 1)) : Int).toNat).size ≤ 9223372036854775807 then (spec_loRanked.l0 k x0 x1 (x5 ++ ((⟨#[97, 98, 99, 100, 101, 102, 103, 104, 105, 106, 107, 108, 109, 110, 111, 112]⟩ : ByteArray).extract (x7 : Int).toNat ((wrap64 (x7 + 1)) : Int).toNat)) (x6 ++ ((⟨#[97, 98, 99, 100, 101, 102, 103, 104, 105, 106, 107, 108, 109, 110, 111, 112]⟩ : ByteArray).extract (x7 : Int).toNat ((wrap64 (x7 + 1)) : Int).toNat)) (wrap64 (x7 + 1))) else (none)) else (none)) else (none)) else (none)) else (none)))
end
def spec_loRanked.f (k : Nat) (a0 : Int) (a1 : Int) : Option (ByteArray) := spec_loRanked.l0 k a0 a1 (⟨#[]⟩ : ByteArray) (⟨#[]⟩ : ByteArray) 0
theorem spec_loRanked.mono_l : ∀ k, (∀ y0 y1 y2 y3 y4, LeO (spec_loRanked.l0 k y0 y1 y2 y3 y4) (spec_loRanked.l0 (k + 1) y0 y1 y2 y3 y4)) ∧ (∀ y0 y1 y2 y3 y4 y5 y6, LeO (spec_loRanked.l1 k y0 y1 y2 y3 y4 y5 y6) (spec_loRanked.l1 (k + 1) y0 y1 y2 y3 y4 y5 y6)) ∧ (∀ y0 y1 y2 y3 y4 y5 y6 y7, LeO (spec_loRanked.j2 k y0 y1 y2 y3 y4 y5 y6 y7) (spec_loRanked.j2 (k + 1) y0 y1 y2 y3 y4 y5 y6 y7))
  | 0 => ⟨fun _ _ _ _ _ r h => by simp [spec_loRanked.l0] at h, fun _ _ _ _ _ _ _ r h => by simp [spec_loRanked.l1] at h, fun _ _ _ _ _ _ _ _ r h => by simp [spec_loRanked.j2] at h⟩
  | k + 1 => by
    obtain ⟨ih0, ih1, ih2⟩ := spec_loRanked.mono_l k
    refine ⟨?_, ?_, ?_⟩
    · intro y0 y1 y2 y3 y4
      unfold spec_loRanked.l0
      repeat' first
      | (with_reducible exact ih0 _ _ _ _ _)
      | (with_reducible exact ih1 _ _ _ _ _ _ _)
      | (with_reducible exact ih2 _ _ _ _ _ _ _ _)
      | (with_reducible exact spec_loWays.mono _ _ _)
      | (with_reducible exact LeO.refl _)
      | (with_reducible exact LeO.none _)
      | (with_reducible refine LeO.ite ?_ ?_)
      | (with_reducible refine LeO.bind ?_ (fun _ => ?_))
      | exact ih0 _ _ _ _ _
      | exact ih1 _ _ _ _ _ _ _
      | exact ih2 _ _ _ _ _ _ _ _
      | exact spec_loWays.mono _ _ _
      | exact LeO.none _
      | refine LeO.ite ?_ ?_
      | refine LeO.bind ?_ (fun _ => ?_)
    · intro y0 y1 y2 y3 y4 y5 y6
      unfold spec_loRanked.l1
      repeat' first
      | (with_reducible exact ih0 _ _ _ _ _)
      | (with_reducible exact ih1 _ _ _ _ _ _ _)
      | (with_reducible exact ih2 _ _ _ _ _ _ _ _)
      | (with_reducible exact spec_loWays.mono _ _ _)
      | (with_reducible exact LeO.refl _)
      | (with_reducible exact LeO.none _)
      | (with_reducible refine LeO.ite ?_ ?_)
      | (with_reducible refine LeO.bind ?_ (fun _ => ?_))
      | exact ih0 _ _ _ _ _
      | exact ih1 _ _ _ _ _ _ _
      | exact ih2 _ _ _ _ _ _ _ _
      | exact spec_loWays.mono _ _ _
      | exact LeO.none _
      | refine LeO.ite ?_ ?_
      | refine LeO.bind ?_ (fun _ => ?_)
    · intro y0 y1 y2 y3 y4 y5 y6 y7
      unfold spec_loRanked.j2
      repeat' first
      | (with_reducible exact ih0 _ _ _ _ _)
      | (with_reducible exact ih1 _ _ _ _ _ _ _)
      | (with_reducible exact ih2 _ _ _ _ _ _ _ _)
      | (with_reducible exact spec_loWays.mono _ _ _)
      | (with_reducible exact LeO.refl _)
      | (with_reducible exact LeO.none _)
      | (with_reducible refine LeO.ite ?_ ?_)
      | (with_reducible refine LeO.bind ?_ (fun _ => ?_))
      | exact ih0 _ _ _ _ _
      | exact ih1 _ _ _ _ _ _ _
      | exact ih2 _ _ _ _ _ _ _ _
      | exact spec_loWays.mono _ _ _
      | exact LeO.none _
      | refine LeO.ite ?_ ?_
      | refine LeO.bind ?_ (fun _ => ?_)
theorem spec_loRanked.mono : ∀ a0 a1 k, LeO (spec_loRanked.f k a0 a1) (spec_loRanked.f (k + 1) a0 a1) := by
  intro a0 a1 k
  obtain ⟨ih0, ih1, ih2⟩ := spec_loRanked.mono_l k
  unfold spec_loRanked.f
  repeat' first
      | (with_reducible exact ih0 _ _ _ _ _)
      | (with_reducible exact ih1 _ _ _ _ _ _ _)
      | (with_reducible exact ih2 _ _ _ _ _ _ _ _)
      | (with_reducible exact spec_loWays.mono _ _ _)
      | (with_reducible exact LeO.refl _)
      | (with_reducible exact LeO.none _)
      | (with_reducible refine LeO.ite ?_ ?_)
      | (with_reducible refine LeO.bind ?_ (fun _ => ?_))
      | exact ih0 _ _ _ _ _
      | exact ih1 _ _ _ _ _ _ _
      | exact ih2 _ _ _ _ _ _ _ _
      | exact spec_loWays.mono _ _ _
      | exact LeO.none _
      | refine LeO.ite ?_ ?_
      | refine LeO.bind ?_ (fun _ => ?_)
set_option maxHeartbeats 8000000 in
set_option maxRecDepth 100000 in
theorem spec_loRanked.calls (k : Nat) (a0 : Int) (a1 : Int) (r : ByteArray) (w : World) (h : spec_loRanked.f k a0 a1 = some r) :
    Calls Tryz.prog 60 #[.int .i64 a0, .int .i64 a1] w fun e w' => e = .returned (.string r) ∧ Drawn0 w w' := by
  have H : (spec_loRanked.l0 k a0 a1 (⟨#[]⟩ : ByteArray) (⟨#[]⟩ : ByteArray) 0) = some r := h
  clear h
  have H' := Aside0.mk H
  clear H
  go_enter Tryz.func60, Tryz.ntmps60
  go_wp2
  repeat (go_quiet (fail); try go_wp2)
  go_loopg [1, 5, 6, 7] k (fun kq v1 v5 v6 v7 w' => ∃ (x1_1 : Int) (x5_1 : ByteArray) (x6_1 : ByteArray) (x7_1 : Int), v1 = .int .i64 x1_1 ∧ v5 = .string x5_1 ∧ v6 = .string x6_1 ∧ v7 = .int .i64 x7_1 ∧ Aside0 (spec_loRanked.l0 kq a0 x1_1 x5_1 x6_1 x7_1 = some r) ∧ Aside0 (kq ≤ k) ∧ Drawn0 w w')
  case atStart => exact ⟨(a1), ((⟨#[]⟩ : ByteArray)), ((⟨#[]⟩ : ByteArray)), (0), (by first | rfl | (simp; done) | (simp [*]; done)), (by first | rfl | (simp; done) | (simp [*]; done)), (by first | rfl | (simp; done) | (simp [*]; done)), (by first | rfl | (simp; done) | (simp [*]; done)), H', ⟨Nat.le_refl _⟩, by repeat (first | exact Drawn0.refl _ | apply Drawn0.step)⟩
  case round =>
    clear H'
    try clear p2
    obtain ⟨x1_1, x5_1, x6_1, x7_1, rfl, rfl, rfl, rfl, HA, HK1, ⟨m1, rfl⟩⟩ := hrel
    cases gk with
    | zero => exact absurd HA.out (by simp [spec_loRanked.l0])
    | succ k1 =>
      have H := HA.out
      clear HA
      simp only [spec_loRanked.l0] at H
      by_cases c3 : (x5_1.size : Int) < (wrap64 (2 * a0))
      · rw [if_pos c3] at H
        have c3b0 : decide ((x5_1.size : Int) < (wrap64 (2 * a0))) = true := decide_eq_true c3
        clear c3
        have H' := Aside0.mk H
        clear H
        go_wp2
        repeat (go_quiet (fail); try go_wp2)
        go_loopg [1, 5, 6, 8, 9] k1 (fun kq v1 v5 v6 v8 v9 w' => ∃ (x1_2 : Int) (x5_2 : ByteArray) (x6_2 : ByteArray) (x8_2 : Bool) (x9_2 : Int), v1 = .int .i64 x1_2 ∧ v5 = .string x5_2 ∧ v6 = .string x6_2 ∧ v8 = .bool x8_2 ∧ v9 = .int .i64 x9_2 ∧ Aside0 (spec_loRanked.l1 kq a0 x1_2 x5_2 x6_2 x7_1 x8_2 x9_2 = some r) ∧ Aside0 (kq ≤ k1) ∧ Drawn0 w w')
        case atStart => exact ⟨(x1_1), (x5_1), (x6_1), (false), (0), (by first | rfl | (simp; done) | (simp [*]; done)), (by first | rfl | (simp; done) | (simp [*]; done)), (by first | rfl | (simp; done) | (simp [*]; done)), (by first | rfl | (simp; done) | (simp [*]; done)), (by first | rfl | (simp; done) | (simp [*]; done)), H', ⟨Nat.le_refl _⟩, by repeat (first | exact Drawn0.refl _ | apply Drawn0.step)⟩
        case round =>
          clear H'
          try clear p2
          try clear c3
          try clear c3b0
          try clear p2
          obtain ⟨x1_2, x5_2, x6_2, x8_2, x9_2, rfl, rfl, rfl, rfl, rfl, HA, HK2, ⟨m2, rfl⟩⟩ := hrel
          cases gk with
          | zero => exact absurd HA.out (by simp [spec_loRanked.l1])
          | succ k2 =>
            have H := HA.out
            clear HA
            simp only [spec_loRanked.l1] at H
            have HC4 := Aside0.mk H
            clear H
            go_upto_region 7 with (fail)
            repeat (go_quiet (fail); go_upto_region 7 with (fail))
            go_cut [24] (fun v24 wc => ∃ (kq : Nat) (x24_3 : Bool), v24 = .bool x24_3 ∧ Aside0 (spec_loRanked.j2 kq a0 x1_2 x5_2 x6_2 x7_1 x8_2 x9_2 x24_3 = some r) ∧ Aside0 (kq ≤ k2) ∧ Drawn0 w wc)
            case first =>
              have H := HC4.out
              clear HC4
              by_cases c5 : x9_2 < (x6_2.size : Int)
              · rw [if_pos c5] at H
                have c5b0 : decide (x9_2 < (x6_2.size : Int)) = true := decide_eq_true c5
                clear c5
                (first | rw [c5b0] | (simp only [i64_w, i32_w]; rw [c5b0]) | skip)
                have H' := Aside0.mk H
                clear H
                go_wp2
                repeat (go_quiet (fail); try go_wp2)
                go_meet
                case rel => exact ⟨_, (!x8_2), (by first | rfl | (simp; done) | (simp [*]; done)), H', ⟨by have := HK1.out; have := HK2.out; first | omega | exact Nat.le_refl _⟩, by repeat (first | exact Drawn0.refl _ | apply Drawn0.step)⟩
              · rw [if_neg c5] at H
                have c5b0 : decide (x9_2 < (x6_2.size : Int)) = false := decide_eq_false c5
                clear c5
                (first | rw [c5b0] | (simp only [i64_w, i32_w]; rw [c5b0]) | skip)
                have H' := Aside0.mk H
                clear H
                go_wp2
                repeat (go_quiet (fail); try go_wp2)
                go_meet
                case rel => exact ⟨_, (false), (by first | rfl | (simp; done) | (simp [*]; done)), H', ⟨by have := HK1.out; have := HK2.out; first | omega | exact Nat.le_refl _⟩, by repeat (first | exact Drawn0.refl _ | apply Drawn0.step)⟩
            case rest =>
              clear HC4
              try clear p2
              try clear c3
              try clear c3b0
              try clear c5
              try clear c5b0
              try clear p2
              obtain ⟨kq, x24_3, rfl, HA, HJ3, ⟨mc3, rfl⟩⟩ := hcut
              cases kq with
              | zero => exact absurd HA.out (by simp [spec_loRanked.j2])
              | succ kj3 =>
                have H := HA.out
                clear HA
                simp only [spec_loRanked.j2] at H
                by_cases c6 : x24_3 = true
                · subst c6
                  have H1 : ((spec_loWays.f kj3 (wrap64 ((x6_2.size : Int) - 1)) (wrap64 (a0 - x7_1))).bind fun t153 => (if x1_2 < t153 then (if 0 ≤ x9_2 then (if x9_2 ≤ (wrap64 (x9_2 + 1)) then (if (wrap64 (x9_2 + 1)) ≤ (x6_2.size : Int) then (if x5_2.size + (x6_2.extract (x9_2 : Int).toNat ((wrap64 (x9_2 + 1)) : Int).toNat).size ≤ 9223372036854775807 then (if x9_2 ≤ (x6_2.size : Int) then (if 0 ≤ (wrap64 (x9_2 + 1)) then (if (x6_2.extract 0 (x9_2 : Int).toNat).size + (x6_2.extract ((wrap64 (x9_2 + 1)) : Int).toNat x6_2.size).size ≤ 9223372036854775807 then (spec_loRanked.l1 kj3 a0 x1_2 (x5_2 ++ (x6_2.extract (x9_2 : Int).toNat ((wrap64 (x9_2 + 1)) : Int).toNat)) ((x6_2.extract 0 (x9_2 : Int).toNat) ++ (x6_2.extract ((wrap64 (x9_2 + 1)) : Int).toNat x6_2.size)) x7_1 true (wrap64 (x9_2 + 1))) else (none)) else (none)) else (none)) else (none)) else (none)) else (none)) else (none)) else (spec_loRanked.l1 kj3 a0 (wrap64 (x1_2 - t153)) x5_2 x6_2 x7_1 x8_2 (wrap64 (x9_2 + 1))))) = some r := by rw [if_pos rfl] at H; exact H
                  clear H
                  have H := H1
                  clear H1
                  replace H := Option.bind_eq_some_iff.mp H
                  obtain ⟨t153, A70, H⟩ := H
                  replace H : (if x1_2 < t153 then (if 0 ≤ x9_2 then (if x9_2 ≤ (wrap64 (x9_2 + 1)) then (if (wrap64 (x9_2 + 1)) ≤ (x6_2.size : Int) then (if x5_2.size + (x6_2.extract (x9_2 : Int).toNat ((wrap64 (x9_2 + 1)) : Int).toNat).size ≤ 9223372036854775807 then (if x9_2 ≤ (x6_2.size : Int) then (if 0 ≤ (wrap64 (x9_2 + 1)) then (if (x6_2.extract 0 (x9_2 : Int).toNat).size + (x6_2.extract ((wrap64 (x9_2 + 1)) : Int).toNat x6_2.size).size ≤ 9223372036854775807 then (spec_loRanked.l1 kj3 a0 x1_2 (x5_2 ++ (x6_2.extract (x9_2 : Int).toNat ((wrap64 (x9_2 + 1)) : Int).toNat)) ((x6_2.extract 0 (x9_2 : Int).toNat) ++ (x6_2.extract ((wrap64 (x9_2 + 1)) : Int).toNat x6_2.size)) x7_1 true (wrap64 (x9_2 + 1))) else (none)) else (none)) else (none)) else (none)) else (none)) else (none)) else (none)) else (spec_loRanked.l1 kj3 a0 (wrap64 (x1_2 - t153)) x5_2 x6_2 x7_1 x8_2 (wrap64 (x9_2 + 1)))) = some r := H
                  have A7 := Aside0.mk A70
                  clear A70
                  by_cases c8 : x1_2 < t153
                  · rw [if_pos c8] at H
                    have c8b0 : decide (x1_2 < t153) = true := decide_eq_true c8
                    clear c8
                    by_cases c9 : 0 ≤ x9_2
                    · rw [if_pos c9] at H
                      have c9b0 := eq_true c9
                      have c9b1 : decide (0 ≤ x9_2) = true := decide_eq_true c9
                      clear c9
                      by_cases c10 : x9_2 ≤ (wrap64 (x9_2 + 1))
                      · rw [if_pos c10] at H
                        have c10b0 := eq_true c10
                        have c10b1 : decide (x9_2 ≤ (wrap64 (x9_2 + 1))) = true := decide_eq_true c10
                        by_cases c11 : (wrap64 (x9_2 + 1)) ≤ (x6_2.size : Int)
                        · rw [if_pos c11] at H
                          have c11b0 := eq_true c11
                          have c11b1 : decide ((wrap64 (x9_2 + 1)) ≤ (x6_2.size : Int)) = true := decide_eq_true c11
                          by_cases c12 : x5_2.size + (x6_2.extract (x9_2 : Int).toNat ((wrap64 (x9_2 + 1)) : Int).toNat).size ≤ 9223372036854775807
                          · rw [if_pos c12] at H
                            have c12b0 := eq_true c12
                            have c12b1 : decide (x5_2.size + (x6_2.extract (x9_2 : Int).toNat ((wrap64 (x9_2 + 1)) : Int).toNat).size ≤ 9223372036854775807) = true := decide_eq_true c12
                            try have c12b2 : (9223372036854775807 < x5_2.size + (x6_2.extract (x9_2 : Int).toNat ((wrap64 (x9_2 + 1)) : Int).toNat).size) = False := eq_false (Nat.not_lt.2 c12)
                            have c13b0 := eq_true (of_decide_eq_true (by first | (with_reducible assumption) | assumption) : 0 ≤ x9_2)
                            by_cases c14 : x9_2 ≤ (x6_2.size : Int)
                            · rw [if_pos c14] at H
                              have c14b0 := eq_true c14
                              have c14b1 : decide (x9_2 ≤ (x6_2.size : Int)) = true := decide_eq_true c14
                              clear c14
                              obtain ⟨ji15, hji15⟩ : ∃ j_ : Int, (wrap64 (x9_2 + 1)) = j_ := ⟨_, rfl⟩
                              replace H : (if 0 ≤ (ji15) then (if (x6_2.extract 0 (x9_2 : Int).toNat).size + (x6_2.extract ((ji15) : Int).toNat x6_2.size).size ≤ 9223372036854775807 then (spec_loRanked.l1 kj3 a0 x1_2 (x5_2 ++ (x6_2.extract (x9_2 : Int).toNat ((ji15) : Int).toNat)) ((x6_2.extract 0 (x9_2 : Int).toNat) ++ (x6_2.extract ((ji15) : Int).toNat x6_2.size)) x7_1 true ji15) else (none)) else (none)) = some r := by first | (rw [hji15] at H; exact H) | (simp only [hji15] at H ⊢; exact H)
                              (try rw [hji15] at c10b0)
                              (try rw [hji15] at c10b1)
                              (try rw [hji15] at c10)
                              (try rw [hji15] at c11b0)
                              (try rw [hji15] at c11b1)
                              (try rw [hji15] at c11)
                              (try rw [hji15] at c12b0)
                              (try rw [hji15] at c12b1)
                              (try rw [hji15] at c12)
                              (try rw [hji15] at A7)
                              have hji15w : (IntKind.i64.wrap (x9_2 + 1)) = ji15 := (i64_w _).trans hji15
                              by_cases c16 : 0 ≤ (ji15)
                              · rw [if_pos c16] at H
                                have c16b0 := eq_true c16
                                have c16b1 : decide (0 ≤ (ji15)) = true := decide_eq_true c16
                                clear c16
                                have c17b0 := eq_true (of_decide_eq_true (by first | (with_reducible assumption) | assumption) : (ji15) ≤ (x6_2.size : Int))
                                by_cases c18 : (x6_2.extract 0 (x9_2 : Int).toNat).size + (x6_2.extract ((ji15) : Int).toNat x6_2.size).size ≤ 9223372036854775807
                                · rw [if_pos c18] at H
                                  have c18b0 := eq_true c18
                                  have c18b1 : decide ((x6_2.extract 0 (x9_2 : Int).toNat).size + (x6_2.extract ((ji15) : Int).toNat x6_2.size).size ≤ 9223372036854775807) = true := decide_eq_true c18
                                  try have c18b2 : (9223372036854775807 < (x6_2.extract 0 (x9_2 : Int).toNat).size + (x6_2.extract ((ji15) : Int).toNat x6_2.size).size) = False := eq_false (Nat.not_lt.2 c18)
                                  have H' := Aside0.mk H
                                  clear H
                                  go_wp2_with (first | (go_at_call 79; (with_reducible refine (spec_loWays.calls kj3 (wrap64 ((x6_2.size : Int) - 1)) (wrap64 (a0 - x7_1)) t153 _ A7.out).mono ?_); rintro e w' ⟨rfl, ⟨nd, rfl⟩⟩; (try first | exact ⟨rfl, _, World.drewN_drewN _ _ _⟩ | exact ⟨rfl, _, Eq.trans (World.drewN_drewN _ _ _) (congrArg (World.drewN _) (Nat.add_assoc _ _ _))⟩)))
                                  repeat (go_quiet (first | (go_at_call 79; (with_reducible refine (spec_loWays.calls kj3 (wrap64 ((x6_2.size : Int) - 1)) (wrap64 (a0 - x7_1)) t153 _ A7.out).mono ?_); rintro e w' ⟨rfl, ⟨nd, rfl⟩⟩; (try first | exact ⟨rfl, _, World.drewN_drewN _ _ _⟩ | exact ⟨rfl, _, Eq.trans (World.drewN_drewN _ _ _) (congrArg (World.drewN _) (Nat.add_assoc _ _ _))⟩))); try go_wp2_with (first | (go_at_call 79; (with_reducible refine (spec_loWays.calls kj3 (wrap64 ((x6_2.size : Int) - 1)) (wrap64 (a0 - x7_1)) t153 _ A7.out).mono ?_); rintro e w' ⟨rfl, ⟨nd, rfl⟩⟩; (try first | exact ⟨rfl, _, World.drewN_drewN _ _ _⟩ | exact ⟨rfl, _, Eq.trans (World.drewN_drewN _ _ _) (congrArg (World.drewN _) (Nat.add_assoc _ _ _))⟩))))
                                  go_roundg kj3
                                  case measure => have := HK1.out; have := HK2.out; have := HJ3.out; omega
                                  case rel => exact ⟨(x1_2), (x5_2 ++ (x6_2.extract (x9_2 : Int).toNat ((ji15) : Int).toNat)), ((x6_2.extract 0 (x9_2 : Int).toNat) ++ (x6_2.extract ((ji15) : Int).toNat x6_2.size)), (true), (ji15), (by first | rfl | (simp; done) | (simp [*]; done)), (by first | rfl | (simp; done) | (simp only [← hji15] <;> (first | rfl | simp)) | (simp [*]; done)), (by first | rfl | (simp; done) | (simp only [← hji15] <;> (first | rfl | simp)) | (simp [*]; done)), (by first | rfl | (simp; done) | (simp [*]; done)), (by first | rfl | (simp; done) | (simp only [← hji15] <;> (first | rfl | simp)) | (simp [*]; done)), H', ⟨by have := HK1.out; have := HK2.out; have := HJ3.out; omega⟩, by repeat (first | exact Drawn0.refl _ | apply Drawn0.step)⟩
                                · rw [if_neg c18] at H
                                  exact absurd H (by simp)
                              · rw [if_neg c16] at H
                                exact absurd H (by simp)
                            · rw [if_neg c14] at H
                              exact absurd H (by simp)
                          · rw [if_neg c12] at H
                            exact absurd H (by simp)
                        · rw [if_neg c11] at H
                          exact absurd H (by simp)
                      · rw [if_neg c10] at H
                        exact absurd H (by simp)
                    · rw [if_neg c9] at H
                      exact absurd H (by simp)
                  · rw [if_neg c8] at H
                    have c8b0 : decide (x1_2 < t153) = false := decide_eq_false c8
                    clear c8
                    have H' := Aside0.mk H
                    clear H
                    go_wp2_with (first | (go_at_call 79; (with_reducible refine (spec_loWays.calls kj3 (wrap64 ((x6_2.size : Int) - 1)) (wrap64 (a0 - x7_1)) t153 _ A7.out).mono ?_); rintro e w' ⟨rfl, ⟨nd, rfl⟩⟩; (try first | exact ⟨rfl, _, World.drewN_drewN _ _ _⟩ | exact ⟨rfl, _, Eq.trans (World.drewN_drewN _ _ _) (congrArg (World.drewN _) (Nat.add_assoc _ _ _))⟩)))
                    repeat (go_quiet (first | (go_at_call 79; (with_reducible refine (spec_loWays.calls kj3 (wrap64 ((x6_2.size : Int) - 1)) (wrap64 (a0 - x7_1)) t153 _ A7.out).mono ?_); rintro e w' ⟨rfl, ⟨nd, rfl⟩⟩; (try first | exact ⟨rfl, _, World.drewN_drewN _ _ _⟩ | exact ⟨rfl, _, Eq.trans (World.drewN_drewN _ _ _) (congrArg (World.drewN _) (Nat.add_assoc _ _ _))⟩))); try go_wp2_with (first | (go_at_call 79; (with_reducible refine (spec_loWays.calls kj3 (wrap64 ((x6_2.size : Int) - 1)) (wrap64 (a0 - x7_1)) t153 _ A7.out).mono ?_); rintro e w' ⟨rfl, ⟨nd, rfl⟩⟩; (try first | exact ⟨rfl, _, World.drewN_drewN _ _ _⟩ | exact ⟨rfl, _, Eq.trans (World.drewN_drewN _ _ _) (congrArg (World.drewN _) (Nat.add_assoc _ _ _))⟩))))
                    go_roundg kj3
                    case measure => have := HK1.out; have := HK2.out; have := HJ3.out; omega
                    case rel => exact ⟨(wrap64 (x1_2 - t153)), (x5_2), (x6_2), (x8_2), (wrap64 (x9_2 + 1)), (by first | rfl | (simp; done) | (simp [*]; done)), (by first | rfl | (simp; done) | (simp [*]; done)), (by first | rfl | (simp; done) | (simp [*]; done)), (by first | rfl | (simp; done) | (simp [*]; done)), (by first | rfl | (simp; done) | (simp [*]; done)), H', ⟨by have := HK1.out; have := HK2.out; have := HJ3.out; omega⟩, by repeat (first | exact Drawn0.refl _ | apply Drawn0.step)⟩
                · replace c6 := Bool.eq_false_iff.mpr c6
                  subst c6
                  have H1 : (if x8_2 = true then (spec_loRanked.l0 kj3 a0 x1_2 x5_2 x6_2 x7_1) else (if 0 ≤ x7_1 then (if x7_1 ≤ (wrap64 (x7_1 + 1)) then (if (wrap64 (x7_1 + 1)) ≤ 16 then (if x5_2.size + ((⟨#[97, 98, 99, 100, 101, 102, 103, 104, 105, 106, 107, 108, 109, 110, 111, 112]⟩ : ByteArray).extract (x7_1 : Int).toNat ((wrap64 (x7_1 + 1)) : Int).toNat).size ≤ 9223372036854775807 then (if x6_2.size + ((⟨#[97, 98, 99, 100, 101, 102, 103, 104, 105, 106, 107, 108, 109, 110, 111, 112]⟩ : ByteArray).extract (x7_1 : Int).toNat ((wrap64 (x7_1 + 1)) : Int).toNat).size ≤ 9223372036854775807 then (spec_loRanked.l0 kj3 a0 x1_2 (x5_2 ++ ((⟨#[97, 98, 99, 100, 101, 102, 103, 104, 105, 106, 107, 108, 109, 110, 111, 112]⟩ : ByteArray).extract (x7_1 : Int).toNat ((wrap64 (x7_1 + 1)) : Int).toNat)) (x6_2 ++ ((⟨#[97, 98, 99, 100, 101, 102, 103, 104, 105, 106, 107, 108, 109, 110, 111, 112]⟩ : ByteArray).extract (x7_1 : Int).toNat ((wrap64 (x7_1 + 1)) : Int).toNat)) (wrap64 (x7_1 + 1))) else (none)) else (none)) else (none)) else (none)) else (none))) = some r := by rw [if_neg (show ¬ (false = true) by decide)] at H; exact H
                  clear H
                  have H := H1
                  clear H1
                  by_cases c19 : x8_2 = true
                  · subst c19
                    have H1 : (spec_loRanked.l0 kj3 a0 x1_2 x5_2 x6_2 x7_1) = some r := by rw [if_pos rfl] at H; exact H
                    clear H
                    have H := H1
                    clear H1
                    have H' := Aside0.mk H
                    clear H
                    go_wp2
                    repeat (go_quiet (fail); try go_wp2)
                    go_roundg kj3
                    case measure => have := HK1.out; have := HK2.out; have := HJ3.out; omega
                    case rel => exact ⟨(x1_2), (x5_2), (x6_2), (x7_1), (by first | rfl | (simp; done) | (simp [*]; done)), (by first | rfl | (simp; done) | (simp [*]; done)), (by first | rfl | (simp; done) | (simp [*]; done)), (by first | rfl | (simp; done) | (simp [*]; done)), H', ⟨by have := HK1.out; have := HK2.out; have := HJ3.out; omega⟩, by repeat (first | exact Drawn0.refl _ | apply Drawn0.step)⟩
                  · replace c19 := Bool.eq_false_iff.mpr c19
                    subst c19
                    have H1 : (if 0 ≤ x7_1 then (if x7_1 ≤ (wrap64 (x7_1 + 1)) then (if (wrap64 (x7_1 + 1)) ≤ 16 then (if x5_2.size + ((⟨#[97, 98, 99, 100, 101, 102, 103, 104, 105, 106, 107, 108, 109, 110, 111, 112]⟩ : ByteArray).extract (x7_1 : Int).toNat ((wrap64 (x7_1 + 1)) : Int).toNat).size ≤ 9223372036854775807 then (if x6_2.size + ((⟨#[97, 98, 99, 100, 101, 102, 103, 104, 105, 106, 107, 108, 109, 110, 111, 112]⟩ : ByteArray).extract (x7_1 : Int).toNat ((wrap64 (x7_1 + 1)) : Int).toNat).size ≤ 9223372036854775807 then (spec_loRanked.l0 kj3 a0 x1_2 (x5_2 ++ ((⟨#[97, 98, 99, 100, 101, 102, 103, 104, 105, 106, 107, 108, 109, 110, 111, 112]⟩ : ByteArray).extract (x7_1 : Int).toNat ((wrap64 (x7_1 + 1)) : Int).toNat)) (x6_2 ++ ((⟨#[97, 98, 99, 100, 101, 102, 103, 104, 105, 106, 107, 108, 109, 110, 111, 112]⟩ : ByteArray).extract (x7_1 : Int).toNat ((wrap64 (x7_1 + 1)) : Int).toNat)) (wrap64 (x7_1 + 1))) else (none)) else (none)) else (none)) else (none)) else (none)) = some r := by rw [if_neg (show ¬ (false = true) by decide)] at H; exact H
                    clear H
                    have H := H1
                    clear H1
                    by_cases c20 : 0 ≤ x7_1
                    · rw [if_pos c20] at H
                      have c20b0 := eq_true c20
                      have c20b1 : decide (0 ≤ x7_1) = true := decide_eq_true c20
                      clear c20
                      by_cases c21 : x7_1 ≤ (wrap64 (x7_1 + 1))
                      · rw [if_pos c21] at H
                        have c21b0 := eq_true c21
                        have c21b1 : decide (x7_1 ≤ (wrap64 (x7_1 + 1))) = true := decide_eq_true c21
                        by_cases c22 : (wrap64 (x7_1 + 1)) ≤ 16
                        · rw [if_pos c22] at H
                          have c22b0 := eq_true c22
                          have c22b1 : decide ((wrap64 (x7_1 + 1)) ≤ 16) = true := decide_eq_true c22
                          by_cases c23 : x5_2.size + ((⟨#[97, 98, 99, 100, 101, 102, 103, 104, 105, 106, 107, 108, 109, 110, 111, 112]⟩ : ByteArray).extract (x7_1 : Int).toNat ((wrap64 (x7_1 + 1)) : Int).toNat).size ≤ 9223372036854775807
                          · rw [if_pos c23] at H
                            have c23b0 := eq_true c23
                            have c23b1 : decide (x5_2.size + ((⟨#[97, 98, 99, 100, 101, 102, 103, 104, 105, 106, 107, 108, 109, 110, 111, 112]⟩ : ByteArray).extract (x7_1 : Int).toNat ((wrap64 (x7_1 + 1)) : Int).toNat).size ≤ 9223372036854775807) = true := decide_eq_true c23
                            try have c23b2 : (9223372036854775807 < x5_2.size + ((⟨#[97, 98, 99, 100, 101, 102, 103, 104, 105, 106, 107, 108, 109, 110, 111, 112]⟩ : ByteArray).extract (x7_1 : Int).toNat ((wrap64 (x7_1 + 1)) : Int).toNat).size) = False := eq_false (Nat.not_lt.2 c23)
                            by_cases c24 : x6_2.size + ((⟨#[97, 98, 99, 100, 101, 102, 103, 104, 105, 106, 107, 108, 109, 110, 111, 112]⟩ : ByteArray).extract (x7_1 : Int).toNat ((wrap64 (x7_1 + 1)) : Int).toNat).size ≤ 9223372036854775807
                            · rw [if_pos c24] at H
                              have c24b0 := eq_true c24
                              have c24b1 : decide (x6_2.size + ((⟨#[97, 98, 99, 100, 101, 102, 103, 104, 105, 106, 107, 108, 109, 110, 111, 112]⟩ : ByteArray).extract (x7_1 : Int).toNat ((wrap64 (x7_1 + 1)) : Int).toNat).size ≤ 9223372036854775807) = true := decide_eq_true c24
                              try have c24b2 : (9223372036854775807 < x6_2.size + ((⟨#[97, 98, 99, 100, 101, 102, 103, 104, 105, 106, 107, 108, 109, 110, 111, 112]⟩ : ByteArray).extract (x7_1 : Int).toNat ((wrap64 (x7_1 + 1)) : Int).toNat).size) = False := eq_false (Nat.not_lt.2 c24)
                              have H' := Aside0.mk H
                              clear H
                              go_wp2
                              repeat (go_quiet (fail); try go_wp2)
                              go_roundg kj3
                              case measure => have := HK1.out; have := HK2.out; have := HJ3.out; omega
                              case rel => exact ⟨(x1_2), (x5_2 ++ ((⟨#[97, 98, 99, 100, 101, 102, 103, 104, 105, 106, 107, 108, 109, 110, 111, 112]⟩ : ByteArray).extract (x7_1 : Int).toNat ((wrap64 (x7_1 + 1)) : Int).toNat)), (x6_2 ++ ((⟨#[97, 98, 99, 100, 101, 102, 103, 104, 105, 106, 107, 108, 109, 110, 111, 112]⟩ : ByteArray).extract (x7_1 : Int).toNat ((wrap64 (x7_1 + 1)) : Int).toNat)), (wrap64 (x7_1 + 1)), (by first | rfl | (simp; done) | (simp [*]; done)), (by first | rfl | (simp; done) | (simp [*]; done)), (by first | rfl | (simp; done) | (simp [*]; done)), (by first | rfl | (simp; done) | (simp [*]; done)), H', ⟨by have := HK1.out; have := HK2.out; have := HJ3.out; omega⟩, by repeat (first | exact Drawn0.refl _ | apply Drawn0.step)⟩
                            · rw [if_neg c24] at H
                              exact absurd H (by simp)
                          · rw [if_neg c23] at H
                            exact absurd H (by simp)
                        · rw [if_neg c22] at H
                          exact absurd H (by simp)
                      · rw [if_neg c21] at H
                        exact absurd H (by simp)
                    · rw [if_neg c20] at H
                      exact absurd H (by simp)
      · rw [if_neg c3] at H
        have c3b0 : decide ((x5_1.size : Int) < (wrap64 (2 * a0))) = false := decide_eq_false c3
        clear c3
        obtain rfl := Option.some.inj H
        go_wp2
        repeat (go_quiet (fail); try go_wp2)
        go_ret
        exact ⟨by first | rfl | (simp; done) | (simp [*]; done), by repeat (first | exact Drawn0.refl _ | apply Drawn0.step)⟩

end Go.Proofs.YtcgoaipbfnhjhaaGreatDoor.Pr

-- Written by a program for this claim.
namespace Go.Proofs.YtcgoaipbfnhjhaaGreatDoor.Pr
open Go.RowKit Go.Proofs.YtcgoaipbfnhjhaaGreatDoorW.PrintWords Go.Proofs.YtcgoaipbfnhjhaaGreatDoorW.PrintLast Go.Proofs.YtcgoaipbfnhjhaaGreatDoorW.PrintMore
attribute [local go_sem] max2_int min2_int max_two min_two max_three min_three max_four min_four   -- for this text's walks alone
set_option linter.unusedVariables false
set_option linter.unusedSimpArgs false

/-! ### spec_LoopOfRank: function 8 -/
def spec_LoopOfRank.f (k : Nat) (a0 : Int) (a1 : Int) : Option (ByteArray × Bool) := (spec_l1In.f a0 0 8).bind fun t154 => (if t154 = true then ((spec_loCount.f k a0).bind fun t155 => ((spec_l1In.f a1 0 (wrap64 (t155 - 1))).bind fun t156 => (if t156 = true then ((spec_loRanked.f k a0 a1).bind fun t157 => (some (t157, true))) else (some ((⟨#[]⟩ : ByteArray), false))))) else (some ((⟨#[]⟩ : ByteArray), false)))
theorem spec_LoopOfRank.mono : ∀ a0 a1 k, LeO (spec_LoopOfRank.f k a0 a1) (spec_LoopOfRank.f (k + 1) a0 a1) := by
  intro a0 a1 k
  unfold spec_LoopOfRank.f
  repeat' first
      | (with_reducible exact spec_loCount.mono _ _)
      | (with_reducible exact spec_loRanked.mono _ _ _)
      | (with_reducible exact LeO.refl _)
      | (with_reducible exact LeO.none _)
      | (with_reducible refine LeO.ite ?_ ?_)
      | (with_reducible refine LeO.bind ?_ (fun _ => ?_))
      | exact spec_loCount.mono _ _
      | exact spec_loRanked.mono _ _ _
      | exact LeO.none _
      | refine LeO.ite ?_ ?_
      | refine LeO.bind ?_ (fun _ => ?_)
set_option maxHeartbeats 8000000 in
set_option maxRecDepth 100000 in
theorem spec_LoopOfRank.calls (k : Nat) (a0 : Int) (a1 : Int) (r1 : ByteArray) (r2 : Bool) (w : World) (h : spec_LoopOfRank.f k a0 a1 = some (r1, r2)) :
    Calls Tryz.prog 8 #[.int .i64 a0, .int .i64 a1] w fun e w' => e = .returned (.tuple #[.string r1, .bool r2]) ∧ Drawn0 w w' := by
  have H : ((spec_l1In.f a0 0 8).bind fun t154 => (if t154 = true then ((spec_loCount.f k a0).bind fun t155 => ((spec_l1In.f a1 0 (wrap64 (t155 - 1))).bind fun t156 => (if t156 = true then ((spec_loRanked.f k a0 a1).bind fun t157 => (some (t157, true))) else (some ((⟨#[]⟩ : ByteArray), false))))) else (some ((⟨#[]⟩ : ByteArray), false)))) = some (r1, r2) := h
  clear h
  replace H := Option.bind_eq_some_iff.mp H
  obtain ⟨t154, A30, H⟩ := H
  replace H : (if t154 = true then ((spec_loCount.f k a0).bind fun t155 => ((spec_l1In.f a1 0 (wrap64 (t155 - 1))).bind fun t156 => (if t156 = true then ((spec_loRanked.f k a0 a1).bind fun t157 => (some (t157, true))) else (some ((⟨#[]⟩ : ByteArray), false))))) else (some ((⟨#[]⟩ : ByteArray), false))) = some (r1, r2) := H
  have A3 := Aside0.mk A30
  clear A30
  by_cases c4 : t154 = true
  · subst c4
    have H1 : ((spec_loCount.f k a0).bind fun t155 => ((spec_l1In.f a1 0 (wrap64 (t155 - 1))).bind fun t156 => (if t156 = true then ((spec_loRanked.f k a0 a1).bind fun t157 => (some (t157, true))) else (some ((⟨#[]⟩ : ByteArray), false))))) = some (r1, r2) := by rw [if_pos rfl] at H; exact H
    clear H
    have H := H1
    clear H1
    replace H := Option.bind_eq_some_iff.mp H
    obtain ⟨t155, A50, H⟩ := H
    replace H : ((spec_l1In.f a1 0 (wrap64 (t155 - 1))).bind fun t156 => (if t156 = true then ((spec_loRanked.f k a0 a1).bind fun t157 => (some (t157, true))) else (some ((⟨#[]⟩ : ByteArray), false)))) = some (r1, r2) := H
    have A5 := Aside0.mk A50
    clear A50
    replace H := Option.bind_eq_some_iff.mp H
    obtain ⟨t156, A60, H⟩ := H
    replace H : (if t156 = true then ((spec_loRanked.f k a0 a1).bind fun t157 => (some (t157, true))) else (some ((⟨#[]⟩ : ByteArray), false))) = some (r1, r2) := H
    have A6 := Aside0.mk A60
    clear A60
    by_cases c7 : t156 = true
    · subst c7
      have H1 : ((spec_loRanked.f k a0 a1).bind fun t157 => (some (t157, true))) = some (r1, r2) := by rw [if_pos rfl] at H; exact H
      clear H
      have H := H1
      clear H1
      replace H := Option.bind_eq_some_iff.mp H
      obtain ⟨t157, A80, H⟩ := H
      replace H : (some (t157, true)) = some (r1, r2) := H
      have A8 := Aside0.mk A80
      clear A80
      simp only [Option.some.injEq, Prod.mk.injEq] at H
      obtain ⟨rfl, rfl⟩ := H
      go_enter Tryz.func8, Tryz.ntmps8
      go_wp2_with (first | ((with_reducible refine gate_callee (f := 58) rfl ?_); refine goesL_ (some 7) rfl rfl Tryz.func58 (by kernel_rfl) rfl #[.int .i64 a0, .int .i64 0, .int .i64 8] rfl (by (try simp only [List.map_toArray, List.map_cons, List.map_nil]); first | done | rfl | (simp only [List.length_drop, List.length_take]; rfl)) ?_; (with_reducible refine (spec_l1In.calls a0 0 8 true _ A3.out).mono ?_); rintro e w' ⟨rfl, ⟨nd, rfl⟩⟩; refine ⟨_, rfl, ?_⟩) | (go_at_call 59; (with_reducible refine (spec_loCount.calls k a0 t155 _ A5.out).mono ?_); rintro e w' ⟨rfl, ⟨nd, rfl⟩⟩) | (go_at_call 58; (with_reducible refine (spec_l1In.calls a1 0 (wrap64 (t155 - 1)) true _ A6.out).mono ?_); rintro e w' ⟨rfl, ⟨nd, rfl⟩⟩) | ((with_reducible refine gate_callee (f := 60) rfl ?_); refine goesL_ (some 19) rfl rfl Tryz.func60 (by kernel_rfl) rfl #[.int .i64 a0, .int .i64 a1] rfl (by (try simp only [List.map_toArray, List.map_cons, List.map_nil]); first | done | rfl | (simp only [List.length_drop, List.length_take]; rfl)) ?_; (with_reducible refine (spec_loRanked.calls k a0 a1 t157 _ A8.out).mono ?_); rintro e w' ⟨rfl, ⟨nd, rfl⟩⟩; refine ⟨_, rfl, ?_⟩))
      go_ret2
      exact ⟨by first | rfl | (simp; done) | (simp [*]; done), by repeat (first | exact Drawn0.refl _ | apply Drawn0.step)⟩
    · replace c7 := Bool.eq_false_iff.mpr c7
      subst c7
      have H1 : (some ((⟨#[]⟩ : ByteArray), false)) = some (r1, r2) := by rw [if_neg (show ¬ (false = true) by decide)] at H; exact H
      clear H
      have H := H1
      clear H1
      simp only [Option.some.injEq, Prod.mk.injEq] at H
      obtain ⟨rfl, rfl⟩ := H
      go_enter Tryz.func8, Tryz.ntmps8
      go_wp2_with (first | ((with_reducible refine gate_callee (f := 58) rfl ?_); refine goesL_ (some 7) rfl rfl Tryz.func58 (by kernel_rfl) rfl #[.int .i64 a0, .int .i64 0, .int .i64 8] rfl (by (try simp only [List.map_toArray, List.map_cons, List.map_nil]); first | done | rfl | (simp only [List.length_drop, List.length_take]; rfl)) ?_; (with_reducible refine (spec_l1In.calls a0 0 8 true _ A3.out).mono ?_); rintro e w' ⟨rfl, ⟨nd, rfl⟩⟩; refine ⟨_, rfl, ?_⟩) | (go_at_call 59; (with_reducible refine (spec_loCount.calls k a0 t155 _ A5.out).mono ?_); rintro e w' ⟨rfl, ⟨nd, rfl⟩⟩) | (go_at_call 58; (with_reducible refine (spec_l1In.calls a1 0 (wrap64 (t155 - 1)) false _ A6.out).mono ?_); rintro e w' ⟨rfl, ⟨nd, rfl⟩⟩))
      go_ret2
      exact ⟨by first | rfl | (simp; done) | (simp [*]; done), by repeat (first | exact Drawn0.refl _ | apply Drawn0.step)⟩
  · replace c4 := Bool.eq_false_iff.mpr c4
    subst c4
    have H1 : (some ((⟨#[]⟩ : ByteArray), false)) = some (r1, r2) := by rw [if_neg (show ¬ (false = true) by decide)] at H; exact H
    clear H
    have H := H1
    clear H1
    simp only [Option.some.injEq, Prod.mk.injEq] at H
    obtain ⟨rfl, rfl⟩ := H
    go_enter Tryz.func8, Tryz.ntmps8
    go_wp2_with (first | ((with_reducible refine gate_callee (f := 58) rfl ?_); refine goesL_ (some 7) rfl rfl Tryz.func58 (by kernel_rfl) rfl #[.int .i64 a0, .int .i64 0, .int .i64 8] rfl (by (try simp only [List.map_toArray, List.map_cons, List.map_nil]); first | done | rfl | (simp only [List.length_drop, List.length_take]; rfl)) ?_; (with_reducible refine (spec_l1In.calls a0 0 8 false _ A3.out).mono ?_); rintro e w' ⟨rfl, ⟨nd, rfl⟩⟩; refine ⟨_, rfl, ?_⟩))
    go_ret2
    exact ⟨by first | rfl | (simp; done) | (simp [*]; done), by repeat (first | exact Drawn0.refl _ | apply Drawn0.step)⟩

end Go.Proofs.YtcgoaipbfnhjhaaGreatDoor.Pr

-- Written by a program for this claim.
namespace Go.Proofs.YtcgoaipbfnhjhaaGreatDoor.Pr
open Go.RowKit Go.Proofs.YtcgoaipbfnhjhaaGreatDoorW.PrintWords Go.Proofs.YtcgoaipbfnhjhaaGreatDoorW.PrintLast Go.Proofs.YtcgoaipbfnhjhaaGreatDoorW.PrintMore
attribute [local go_sem] max2_int min2_int max_two min_two max_three min_three max_four min_four   -- for this text's walks alone
set_option linter.unusedVariables false
set_option linter.unusedSimpArgs false

/-! ### impl_CountLoops: function 9 -/
def impl_CountLoops.f (k : Nat) (a0 : Int) : Option (Int × Bool) := (impl_isCrossings.f a0).bind fun t158 => (if t158 = true then ((impl_countOn.f k 0 a0).bind fun t159 => (some (t159, true))) else (some (0, false)))
theorem impl_CountLoops.mono : ∀ a0 k, LeO (impl_CountLoops.f k a0) (impl_CountLoops.f (k + 1) a0) := by
  intro a0 k
  unfold impl_CountLoops.f
  repeat' first
      | (with_reducible exact impl_countOn.mono _ _ _)
      | (with_reducible exact LeO.refl _)
      | (with_reducible exact LeO.none _)
      | (with_reducible refine LeO.ite ?_ ?_)
      | (with_reducible refine LeO.bind ?_ (fun _ => ?_))
      | exact impl_countOn.mono _ _ _
      | exact LeO.none _
      | refine LeO.ite ?_ ?_
      | refine LeO.bind ?_ (fun _ => ?_)
set_option maxHeartbeats 8000000 in
set_option maxRecDepth 100000 in
theorem impl_CountLoops.calls (k : Nat) (a0 : Int) (r1 : Int) (r2 : Bool) (w : World) (h : impl_CountLoops.f k a0 = some (r1, r2)) :
    Calls Tryz.prog 9 #[.int .i64 a0] w fun e w' => e = .returned (.tuple #[.int .i64 r1, .bool r2]) ∧ Drawn0 w w' := by
  have H : ((impl_isCrossings.f a0).bind fun t158 => (if t158 = true then ((impl_countOn.f k 0 a0).bind fun t159 => (some (t159, true))) else (some (0, false)))) = some (r1, r2) := h
  clear h
  replace H := Option.bind_eq_some_iff.mp H
  obtain ⟨t158, A20, H⟩ := H
  replace H : (if t158 = true then ((impl_countOn.f k 0 a0).bind fun t159 => (some (t159, true))) else (some (0, false))) = some (r1, r2) := H
  have A2 := Aside0.mk A20
  clear A20
  by_cases c3 : t158 = true
  · subst c3
    have H1 : ((impl_countOn.f k 0 a0).bind fun t159 => (some (t159, true))) = some (r1, r2) := by rw [if_pos rfl] at H; exact H
    clear H
    have H := H1
    clear H1
    replace H := Option.bind_eq_some_iff.mp H
    obtain ⟨t159, A40, H⟩ := H
    replace H : (some (t159, true)) = some (r1, r2) := H
    have A4 := Aside0.mk A40
    clear A40
    simp only [Option.some.injEq, Prod.mk.injEq] at H
    obtain ⟨rfl, rfl⟩ := H
    go_enter Tryz.func9, Tryz.ntmps9
    go_wp2_with (first | ((with_reducible refine gate_callee (f := 54) rfl ?_); refine goesL_ (some 5) rfl rfl Tryz.func54 (by kernel_rfl) rfl #[.int .i64 a0] rfl (by (try simp only [List.map_toArray, List.map_cons, List.map_nil]); first | done | rfl | (simp only [List.length_drop, List.length_take]; rfl)) ?_; (with_reducible refine (impl_isCrossings.calls a0 true _ A2.out).mono ?_); rintro e w' ⟨rfl, ⟨nd, rfl⟩⟩; refine ⟨_, rfl, ?_⟩) | ((with_reducible refine gate_callee (f := 56) rfl ?_); refine goesL_ (some 8) rfl rfl Tryz.func56 (by kernel_rfl) rfl #[.int .i64 0, .int .i64 a0] rfl (by (try simp only [List.map_toArray, List.map_cons, List.map_nil]); first | done | rfl | (simp only [List.length_drop, List.length_take]; rfl)) ?_; (with_reducible refine (impl_countOn.calls k 0 a0 t159 _ A4.out).mono ?_); rintro e w' ⟨rfl, ⟨nd, rfl⟩⟩; refine ⟨_, rfl, ?_⟩))
    go_ret2
    exact ⟨by first | rfl | (simp; done) | (simp [*]; done), by repeat (first | exact Drawn0.refl _ | apply Drawn0.step)⟩
  · replace c3 := Bool.eq_false_iff.mpr c3
    subst c3
    have H1 : (some (0, false)) = some (r1, r2) := by rw [if_neg (show ¬ (false = true) by decide)] at H; exact H
    clear H
    have H := H1
    clear H1
    simp only [Option.some.injEq, Prod.mk.injEq] at H
    obtain ⟨rfl, rfl⟩ := H
    go_enter Tryz.func9, Tryz.ntmps9
    go_wp2_with (first | ((with_reducible refine gate_callee (f := 54) rfl ?_); refine goesL_ (some 5) rfl rfl Tryz.func54 (by kernel_rfl) rfl #[.int .i64 a0] rfl (by (try simp only [List.map_toArray, List.map_cons, List.map_nil]); first | done | rfl | (simp only [List.length_drop, List.length_take]; rfl)) ?_; (with_reducible refine (impl_isCrossings.calls a0 false _ A2.out).mono ?_); rintro e w' ⟨rfl, ⟨nd, rfl⟩⟩; refine ⟨_, rfl, ?_⟩))
    go_ret2
    exact ⟨by first | rfl | (simp; done) | (simp [*]; done), by repeat (first | exact Drawn0.refl _ | apply Drawn0.step)⟩

end Go.Proofs.YtcgoaipbfnhjhaaGreatDoor.Pr

-- Written by a program for this claim.
namespace Go.Proofs.YtcgoaipbfnhjhaaGreatDoor.Pr
open Go.RowKit Go.Proofs.YtcgoaipbfnhjhaaGreatDoorW.PrintWords Go.Proofs.YtcgoaipbfnhjhaaGreatDoorW.PrintLast Go.Proofs.YtcgoaipbfnhjhaaGreatDoorW.PrintMore
attribute [local go_sem] max2_int min2_int max_two min_two max_three min_three max_four min_four   -- for this text's walks alone
set_option linter.unusedVariables false
set_option linter.unusedSimpArgs false

/-! ### spec_CountLoops: function 10 -/
def spec_CountLoops.f (k : Nat) (a0 : Int) : Option (Int × Bool) := (spec_l1In.f a0 0 8).bind fun t160 => (if t160 = true then ((spec_loCount.f k a0).bind fun t161 => (some (t161, true))) else (some (0, false)))
theorem spec_CountLoops.mono : ∀ a0 k, LeO (spec_CountLoops.f k a0) (spec_CountLoops.f (k + 1) a0) := by
  intro a0 k
  unfold spec_CountLoops.f
  repeat' first
      | (with_reducible exact spec_loCount.mono _ _)
      | (with_reducible exact LeO.refl _)
      | (with_reducible exact LeO.none _)
      | (with_reducible refine LeO.ite ?_ ?_)
      | (with_reducible refine LeO.bind ?_ (fun _ => ?_))
      | exact spec_loCount.mono _ _
      | exact LeO.none _
      | refine LeO.ite ?_ ?_
      | refine LeO.bind ?_ (fun _ => ?_)
set_option maxHeartbeats 8000000 in
set_option maxRecDepth 100000 in
theorem spec_CountLoops.calls (k : Nat) (a0 : Int) (r1 : Int) (r2 : Bool) (w : World) (h : spec_CountLoops.f k a0 = some (r1, r2)) :
    Calls Tryz.prog 10 #[.int .i64 a0] w fun e w' => e = .returned (.tuple #[.int .i64 r1, .bool r2]) ∧ Drawn0 w w' := by
  have H : ((spec_l1In.f a0 0 8).bind fun t160 => (if t160 = true then ((spec_loCount.f k a0).bind fun t161 => (some (t161, true))) else (some (0, false)))) = some (r1, r2) := h
  clear h
  replace H := Option.bind_eq_some_iff.mp H
  obtain ⟨t160, A20, H⟩ := H
  replace H : (if t160 = true then ((spec_loCount.f k a0).bind fun t161 => (some (t161, true))) else (some (0, false))) = some (r1, r2) := H
  have A2 := Aside0.mk A20
  clear A20
  by_cases c3 : t160 = true
  · subst c3
    have H1 : ((spec_loCount.f k a0).bind fun t161 => (some (t161, true))) = some (r1, r2) := by rw [if_pos rfl] at H; exact H
    clear H
    have H := H1
    clear H1
    replace H := Option.bind_eq_some_iff.mp H
    obtain ⟨t161, A40, H⟩ := H
    replace H : (some (t161, true)) = some (r1, r2) := H
    have A4 := Aside0.mk A40
    clear A40
    simp only [Option.some.injEq, Prod.mk.injEq] at H
    obtain ⟨rfl, rfl⟩ := H
    go_enter Tryz.func10, Tryz.ntmps10
    go_wp2_with (first | ((with_reducible refine gate_callee (f := 58) rfl ?_); refine goesL_ (some 5) rfl rfl Tryz.func58 (by kernel_rfl) rfl #[.int .i64 a0, .int .i64 0, .int .i64 8] rfl (by (try simp only [List.map_toArray, List.map_cons, List.map_nil]); first | done | rfl | (simp only [List.length_drop, List.length_take]; rfl)) ?_; (with_reducible refine (spec_l1In.calls a0 0 8 true _ A2.out).mono ?_); rintro e w' ⟨rfl, ⟨nd, rfl⟩⟩; refine ⟨_, rfl, ?_⟩) | ((with_reducible refine gate_callee (f := 59) rfl ?_); refine goesL_ (some 8) rfl rfl Tryz.func59 (by kernel_rfl) rfl #[.int .i64 a0] rfl (by (try simp only [List.map_toArray, List.map_cons, List.map_nil]); first | done | rfl | (simp only [List.length_drop, List.length_take]; rfl)) ?_; (with_reducible refine (spec_loCount.calls k a0 t161 _ A4.out).mono ?_); rintro e w' ⟨rfl, ⟨nd, rfl⟩⟩; refine ⟨_, rfl, ?_⟩))
    go_ret2
    exact ⟨by first | rfl | (simp; done) | (simp [*]; done), by repeat (first | exact Drawn0.refl _ | apply Drawn0.step)⟩
  · replace c3 := Bool.eq_false_iff.mpr c3
    subst c3
    have H1 : (some (0, false)) = some (r1, r2) := by rw [if_neg (show ¬ (false = true) by decide)] at H; exact H
    clear H
    have H := H1
    clear H1
    simp only [Option.some.injEq, Prod.mk.injEq] at H
    obtain ⟨rfl, rfl⟩ := H
    go_enter Tryz.func10, Tryz.ntmps10
    go_wp2_with (first | ((with_reducible refine gate_callee (f := 58) rfl ?_); refine goesL_ (some 5) rfl rfl Tryz.func58 (by kernel_rfl) rfl #[.int .i64 a0, .int .i64 0, .int .i64 8] rfl (by (try simp only [List.map_toArray, List.map_cons, List.map_nil]); first | done | rfl | (simp only [List.length_drop, List.length_take]; rfl)) ?_; (with_reducible refine (spec_l1In.calls a0 0 8 false _ A2.out).mono ?_); rintro e w' ⟨rfl, ⟨nd, rfl⟩⟩; refine ⟨_, rfl, ?_⟩))
    go_ret2
    exact ⟨by first | rfl | (simp; done) | (simp [*]; done), by repeat (first | exact Drawn0.refl _ | apply Drawn0.step)⟩

end Go.Proofs.YtcgoaipbfnhjhaaGreatDoor.Pr

-- Written by a program for this claim.
namespace Go.Proofs.YtcgoaipbfnhjhaaGreatDoor.Pr
open Go.RowKit Go.Proofs.YtcgoaipbfnhjhaaGreatDoorW.PrintWords Go.Proofs.YtcgoaipbfnhjhaaGreatDoorW.PrintLast Go.Proofs.YtcgoaipbfnhjhaaGreatDoorW.PrintMore
attribute [local go_sem] max2_int min2_int max_two min_two max_three min_three max_four min_four   -- for this text's walks alone
set_option linter.unusedVariables false
set_option linter.unusedSimpArgs false

/-! ### spec_DrawAllLoops: function 13 -/
def spec_DrawAllLoops.f (l0 : List Int) : Option (Int) := (spec_l1Cur_among.f l0 0 0 (([0, 1, 2, 3, 4, 5, (-1)] : List Int))).bind fun bt231 => (some bt231.1)
set_option maxHeartbeats 8000000 in
set_option maxRecDepth 100000 in
theorem spec_DrawAllLoops.calls (A0 : Option Addr) (c0 : Nat) (l0 : List Int) (r : Int) (w : World) (hr0 : Kd.C (Kd.int .u8) w A0 l0.length l0) (hc0 : l0.length ≤ c0) (h : spec_DrawAllLoops.f l0 = some r) :
    Calls Tryz.prog 13 #[.slice A0 l0.length c0] w fun e w' => e = .returned (.int .i64 r) ∧ Below w.heap.size w w' := by
  have hu54 := Tryz.underlying54
  have HR0 := Aside0.mk hr0
  have HC0 := Aside0.mk hc0
  clear hr0 hc0
  have HB := Aside0.mk (Below.refl w.heap.size w)
  have H : ((spec_l1Cur_among.f l0 0 0 (([0, 1, 2, 3, 4, 5, (-1)] : List Int))).bind fun bt231 => (some bt231.1)) = some r := h
  clear h
  obtain ⟨y228, hy228⟩ : ∃ y_ : List Int, y_ = (([0, 1, 2, 3, 4, 5, (-1)] : List Int)) := ⟨_, rfl⟩
  replace H : ((spec_l1Cur_among.f l0 0 0 y228).bind fun bt231 => (some bt231.1)) = some r := by first | (rw [hy228]; with_reducible exact H) | (have H2_ := (Option.bind_some _ _).symm.trans H; rw [hy228]; with_reducible exact H2_) | (have H2_ := (Option.bind_some _ _).symm.trans H; with_reducible exact H2_) | with_reducible exact H | (rw [hy228]; exact H) | exact H
  have Ny228 := Aside0.mk hy228
  clear hy228
  replace H := Option.bind_eq_some_iff.mp H
  obtain ⟨⟨t231, t232, t233⟩, A20, H⟩ := H
  replace H : (some t231) = some r := H
  have A2 := Aside0.mk A20
  clear A20
  obtain rfl := Option.some.inj H
  go_enter Tryz.func13, Tryz.ntmps13
  go_wp2_with (first | ((with_reducible refine gate_dst (N := 6) rfl ?_); refine box_event ?hg (N := 6) ?hd (cs := #[.slice A0 l0.length c0, .int .i64 0, .int .u64 0]) (t := 54) ?hr ?_; (case hd => rfl); (case hg => rfl); (case hr => first | (go_simp; done) | (go_simp; rfl)); intro gb227 hg w3 hbox hb; have n0_ := Aside0.mk (below_step (by repeat (first | (with_reducible first | exact HB.out | apply below_alloc | apply pw_below_drewN | apply below_drew1) | exact HB.out)) hb); have n1_ := Aside0.mk ((by rw [hg]; exact (below_size (by repeat (first | (with_reducible first | exact HB.out | apply below_alloc | apply pw_below_drewN | apply below_drew1) | exact HB.out))) : w.heap.size ≤ gb227)); have n2_ := Aside0.mk ((by rw [hg]; exact (below_size (by repeat (first | (with_reducible first | exact HB.out | apply below_alloc | apply pw_below_drewN | apply below_drew1) | exact HB.out))) : w.heap.size ≤ gb227)); have n3_ := Aside0.mk ((show IsS54 w _ gb227 l0 0 0 from ⟨_, _, hbox, (by rw [hg]; exact (below_size (by repeat (first | (with_reducible first | exact HB.out | apply below_alloc | apply pw_below_drewN | apply below_drew1) | exact HB.out))) : w.heap.size ≤ gb227), HR0.out⟩)); clear HB; have HB := n0_; have GW227 := n1_; have GE227 := n2_; have HI227 := n3_; clear n0_ n1_ n2_ n3_; clear hb hbox hg) | ((with_reducible refine gate_dst (N := 8) rfl ?_); refine Kd.R_lit (Kd.int .i64) _ 3 ?hg (N := 8) ?hd (xs := ([0, 1, 2, 3, 4, 5, (-1)] : List Int)) (inner := [.int .i64 0, .int .i64 1, .int .i64 2, .int .i64 3, .int .i64 4, .int .i64 5, .int .i64 (-1)]) (ok := fun _ => True) (okp := fun _ => True) ?hr ?hp (fun _ hk => hk) trivial (Below.refl _ _) (Nat.le_refl _) (by simp) ?_; (case hd => rfl); (case hg => rfl); (case hr => first | (go_simp; done) | (go_simp; rfl)); (case hp => exact (Reps.one (show Kd.M (Kd.int .i64) _ _ _ 0 [.int .i64 0] from rfl) (Reps.one (show Kd.M (Kd.int .i64) _ _ _ 1 [.int .i64 1] from rfl) (Reps.one (show Kd.M (Kd.int .i64) _ _ _ 2 [.int .i64 2] from rfl) (Reps.one (show Kd.M (Kd.int .i64) _ _ _ 3 [.int .i64 3] from rfl) (Reps.one (show Kd.M (Kd.int .i64) _ _ _ 4 [.int .i64 4] from rfl) (Reps.one (show Kd.M (Kd.int .i64) _ _ _ 5 [.int .i64 5] from rfl) (Reps.one (show Kd.M (Kd.int .i64) _ _ _ (-1) [.int .i64 (-1)] from rfl) (Reps.none _ _))))))))); intro v229 w4 ho5 hb hg_ hnew_; clear hg_ hnew_; (first | rw [← Ny228.out] at ho5 | (simp only [Int.reduceToNat] at ho5; rw [← Ny228.out] at ho5)); have n0_ := Aside0.mk (Kd.R_lower ho5 (below_size (by repeat (first | (with_reducible first | exact HB.out | apply below_alloc | apply pw_below_drewN | apply below_drew1 | refine below_set ?_ (IsS54.ge HI227.out)) | exact HB.out)))); have n1_ := Aside0.mk (IsS54.below (by repeat (first | (with_reducible first | exact HI227.out | apply IsS54.alloc | apply IsS54.drewN | apply IsS54.drew | apply IsS54.set_1 | apply IsS54.set_2) | exact HI227.out)) hb); have n2_ := Aside0.mk (below_step (by repeat (first | (with_reducible first | exact HB.out | apply below_alloc | apply pw_below_drewN | apply below_drew1 | refine below_set ?_ (IsS54.ge HI227.out)) | exact HB.out)) hb); clear HI227; clear HB; have HO230 := n0_; have HI227 := n1_; have HB := n2_; clear n0_ n1_ n2_; clear hb ho5; obtain ⟨Ao6, co6, eo6⟩ := Kd.R_slice HO230.out; subst eo6) | ((with_reducible refine gate_callee (f := 53) rfl ?_); refine goesL_ (some 9) rfl rfl Tryz.func53 (by kernel_rfl) rfl #[.pointer (some ⟨gb227, 0, none⟩), .slice Ao6 y228.length co6] rfl (by (try simp only [List.map_toArray, List.map_cons, List.map_nil]); first | done | rfl | (simp only [List.length_drop, List.length_take]; rfl)) ?_; (with_reducible refine (spec_l1Cur_among.calls gb227 l0 0 0 _ _ y228 t231 t232 t233 w _ ?side1 ?side2 ?side3 ?side4 ?side5 A2.out).mono ?_); (case side1 => repeat (first | (with_reducible first | exact HI227.out | apply IsS54.alloc | apply IsS54.drewN | apply IsS54.drew | apply IsS54.set_1 | apply IsS54.set_2) | exact HI227.out)); (case side2 => repeat (first | (with_reducible first | exact HB.out | apply below_alloc | apply pw_below_drewN | apply below_drew1 | refine below_set ?_ (IsS54.ge HI227.out)) | exact HB.out)); (case side3 => repeat (first | exact (Kd.R_reads' HO230.out).2.2 | (with_reducible refine Kd.C_alloc ?_ _) | (with_reducible refine Kd.C_drewN ?_ _) | (with_reducible refine Kd.C_drew ?_))); (case side4 => exact (Kd.R_reads' HO230.out).2.1); (case side5 => exact far_slice (IsS54.own_ne HI227.out HO230.out (by decide))); rintro e w7 ⟨rfl, hi, hb, hk⟩; refine ⟨_, rfl, ?_⟩; have n0_ := Aside0.mk (Kd.R_mono (Kd.R_keep (IsS54.apart (show IsS54 w _ gb227 l0 0 0 from by repeat (first | (with_reducible first | exact HI227.out | apply IsS54.alloc | apply IsS54.drewN | apply IsS54.drew | apply IsS54.set_1 | apply IsS54.set_2) | exact HI227.out)) (by (with_reducible repeat (first | apply Kd.R_alloc | apply Kd.R_drewN | apply Kd.R_drew)); exact HO230.out) (by decide)) hk (fun _ h => h.2)) (fun _ h => h.1)); have n1_ := Aside0.mk (hb); have n2_ := Aside0.mk (hi); clear HO230; clear HB; clear HI227; have HO230 := n0_; have HB := n1_; have HI227 := n2_; clear n0_ n1_ n2_; (try clear hb); (try clear hb2); (try clear hk); (try clear hi)))
  go_ret
  exact ⟨by first | rfl | (simp [errW_none, errW_some] <;> rfl) | (simp [*, errW_none, errW_some] <;> rfl), by repeat (first | (with_reducible first | exact HB.out | apply below_alloc | apply pw_below_drewN | apply below_drew1 | refine below_set ?_ (IsS54.ge HI227.out)) | exact HB.out)⟩

end Go.Proofs.YtcgoaipbfnhjhaaGreatDoor.Pr

-- Written by a program for this claim.
namespace Go.Proofs.YtcgoaipbfnhjhaaGreatDoor.Pr
open Go.RowKit Go.Proofs.YtcgoaipbfnhjhaaGreatDoorW.PrintWords Go.Proofs.YtcgoaipbfnhjhaaGreatDoorW.PrintLast Go.Proofs.YtcgoaipbfnhjhaaGreatDoorW.PrintMore
attribute [local go_sem] max2_int min2_int max_two min_two max_three min_three max_four min_four   -- for this text's walks alone
set_option linter.unusedVariables false
set_option linter.unusedSimpArgs false

/-! ### impl_allLoops: function 67 -/
def impl_allLoops.l0 : Nat → Int → List ByteArray → Int → Int → Option (List ByteArray)
  | 0, _, _, _, _ => none
  | k + 1, x0, x3, x7, x8 => if x8 < x7 then ((impl_loopOfRank.f k x0 x8).bind fun t166 => (if x3.length < 8796093022208 then (impl_allLoops.l0 k x0 (x3 ++ [t166]) x7 (wrap64 (x8 + 1))) else (none))) else (some x3)
def impl_allLoops.f (k : Nat) (a0 : Int) : Option (List ByteArray) := (impl_countOn.f k 0 a0).bind fun t165 => (impl_allLoops.l0 k a0 (([] : List ByteArray)) t165 0)
theorem impl_allLoops.mono_l : ∀ k, (∀ y0 y1 y2 y3, LeO (impl_allLoops.l0 k y0 y1 y2 y3) (impl_allLoops.l0 (k + 1) y0 y1 y2 y3))
  | 0 => fun _ _ _ _ r h => by simp [impl_allLoops.l0] at h
  | k + 1 => by
    have ih0 := impl_allLoops.mono_l k
    · intro y0 y1 y2 y3
      unfold impl_allLoops.l0
      repeat' first
      | (with_reducible exact ih0 _ _ _ _)
      | (with_reducible exact impl_countOn.mono _ _ _)
      | (with_reducible exact impl_loopOfRank.mono _ _ _)
      | (with_reducible exact LeO.refl _)
      | (with_reducible exact LeO.none _)
      | (with_reducible refine LeO.ite ?_ ?_)
      | (with_reducible refine LeO.bind ?_ (fun _ => ?_))
      | exact ih0 _ _ _ _
      | exact impl_countOn.mono _ _ _
      | exact impl_loopOfRank.mono _ _ _
      | exact LeO.none _
      | refine LeO.ite ?_ ?_
      | refine LeO.bind ?_ (fun _ => ?_)
theorem impl_allLoops.mono : ∀ a0 k, LeO (impl_allLoops.f k a0) (impl_allLoops.f (k + 1) a0) := by
  intro a0 k
  have ih0 := impl_allLoops.mono_l k
  unfold impl_allLoops.f
  repeat' first
      | (with_reducible exact ih0 _ _ _ _)
      | (with_reducible exact impl_countOn.mono _ _ _)
      | (with_reducible exact impl_loopOfRank.mono _ _ _)
      | (with_reducible exact LeO.refl _)
      | (with_reducible exact LeO.none _)
      | (with_reducible refine LeO.ite ?_ ?_)
      | (with_reducible refine LeO.bind ?_ (fun _ => ?_))
      | exact ih0 _ _ _ _
      | exact impl_countOn.mono _ _ _
      | exact impl_loopOfRank.mono _ _ _
      | exact LeO.none _
      | refine LeO.ite ?_ ?_
      | refine LeO.bind ?_ (fun _ => ?_)
set_option maxHeartbeats 8000000 in
set_option maxRecDepth 100000 in
theorem impl_allLoops.calls (k : Nat) (a0 : Int) (r : List ByteArray) (w : World) (h : impl_allLoops.f k a0 = some r) :
    Calls Tryz.prog 67 #[.int .i64 a0] w fun e w' => ∃ v0_ : Value, e = .returned (v0_) ∧ Kd.R Kd.string 9 w' w.heap.size (fun _ => True) v0_ r ∧ Below w.heap.size w w' := by
  have HB := Aside0.mk (Below.refl w.heap.size w)
  have H : ((impl_countOn.f k 0 a0).bind fun t165 => (impl_allLoops.l0 k a0 (([] : List ByteArray)) t165 0)) = some r := h
  clear h
  obtain ⟨y162, hy162⟩ : ∃ y_ : List ByteArray, y_ = (([] : List ByteArray)) := ⟨_, rfl⟩
  replace H : ((impl_countOn.f k 0 a0).bind fun t165 => (impl_allLoops.l0 k a0 y162 t165 0)) = some r := by first | (rw [hy162]; with_reducible exact H) | (have H2_ := (Option.bind_some _ _).symm.trans H; rw [hy162]; with_reducible exact H2_) | (have H2_ := (Option.bind_some _ _).symm.trans H; with_reducible exact H2_) | with_reducible exact H | (rw [hy162]; exact H) | exact H
  have Ny162 := Aside0.mk hy162
  clear hy162
  replace H := Option.bind_eq_some_iff.mp H
  obtain ⟨t165, A20, H⟩ := H
  replace H : (impl_allLoops.l0 k a0 y162 t165 0) = some r := H
  have A2 := Aside0.mk A20
  clear A20
  have H' := Aside0.mk H
  clear H
  go_enter Tryz.func67, Tryz.ntmps67
  go_wp2_with (first | ((with_reducible refine gate_dst (N := 5) rfl ?_); refine Kd.R_lit Kd.string _ 9 ?hg (N := 5) ?hd (xs := ([] : List ByteArray)) (inner := []) (ok := fun _ => True) (okp := fun _ => True) ?hr ?hp (fun _ hk => hk) trivial (Below.refl _ _) (Nat.le_refl _) (by simp) ?_; (case hd => rfl); (case hg => rfl); (case hr => first | (go_simp; done) | (go_simp; rfl)); (case hp => exact (Reps.none _ _)); intro v163 w3 ho4 hb hg_ hnew_; clear hg_ hnew_; (first | rw [← Ny162.out] at ho4 | (simp only [Int.reduceToNat] at ho4; rw [← Ny162.out] at ho4)); have n0_ := Aside0.mk (Kd.R_lower ho4 (below_size (by repeat (first | (with_reducible first | exact HB.out | apply below_alloc | apply pw_below_drewN | apply below_drew1) | exact HB.out)))); have n1_ := Aside0.mk (below_step (by repeat (first | (with_reducible first | exact HB.out | apply below_alloc | apply pw_below_drewN | apply below_drew1) | exact HB.out)) hb); clear HB; have HO164 := n0_; have HB := n1_; clear n0_ n1_; clear hb ho4) | ((with_reducible refine gate_callee (f := 56) rfl ?_); refine goesL_ (some 7) rfl rfl Tryz.func56 (by kernel_rfl) rfl #[.int .i64 0, .int .i64 a0] rfl (by (try simp only [List.map_toArray, List.map_cons, List.map_nil]); first | done | rfl | (simp only [List.length_drop, List.length_take]; rfl)) ?_; (with_reducible refine (impl_countOn.calls k 0 a0 t165 _ A2.out).mono ?_); rintro e w' ⟨rfl, ⟨nd, rfl⟩⟩; refine ⟨_, rfl, ?_⟩))
  go_loopg [3, 8] k (fun kq v3 v8 w' => ∃ (x3_1 : List ByteArray) (x8_1 : Int), v8 = .int .i64 x8_1 ∧ Aside0 (impl_allLoops.l0 kq a0 x3_1 t165 x8_1 = some r) ∧ Aside0 (kq ≤ k) ∧ Aside0 (Kd.R Kd.string 9 w' w.heap.size (fun _ => True) v3 x3_1) ∧ Aside0 (Below w.heap.size w w'))
  case atStart => exact ⟨(y162), (0), (by first | rfl | (simp; done) | (simp [*]; done)), H', ⟨Nat.le_refl _⟩, ⟨by (with_reducible repeat (first | apply Kd.R_alloc | apply Kd.R_drewN | apply Kd.R_drew)); exact HO164.out⟩, ⟨by repeat (first | (with_reducible first | exact HB.out | apply below_alloc | apply pw_below_drewN | apply below_drew1) | exact HB.out)⟩⟩
  case round =>
    clear H'
    try clear p2
    obtain ⟨x3_1, x8_1, rfl, HA, HK1, HO_3, HB⟩ := hrel
    cases gk with
    | zero => exact absurd HA.out (by simp [impl_allLoops.l0])
    | succ k1 =>
      have H := HA.out
      clear HA
      simp only [impl_allLoops.l0] at H
      by_cases c5 : x8_1 < t165
      · rw [if_pos c5] at H
        have c5b0 : decide (x8_1 < t165) = true := decide_eq_true c5
        clear c5
        replace H := Option.bind_eq_some_iff.mp H
        obtain ⟨t166, A60, H⟩ := H
        replace H : (if x3_1.length < 8796093022208 then (impl_allLoops.l0 k1 a0 (x3_1 ++ [t166]) t165 (wrap64 (x8_1 + 1))) else (none)) = some r := H
        have A6 := Aside0.mk A60
        clear A60
        by_cases c7 : x3_1.length < 8796093022208
        · rw [if_pos c7] at H
          have LMc7 := Aside0.mk c7
          clear c7
          obtain ⟨y167, hy167⟩ : ∃ y_ : List ByteArray, y_ = (x3_1 ++ [t166]) := ⟨_, rfl⟩
          replace H : (impl_allLoops.l0 k1 a0 y167 t165 (wrap64 (x8_1 + 1))) = some r := by first | (rw [hy167]; with_reducible exact H) | (have H2_ := (Option.bind_some _ _).symm.trans H; rw [hy167]; with_reducible exact H2_) | (have H2_ := (Option.bind_some _ _).symm.trans H; with_reducible exact H2_) | with_reducible exact H | (rw [hy167]; exact H) | exact H
          have Ny167 := Aside0.mk hy167
          clear hy167
          have H' := Aside0.mk H
          clear H
          go_wp2_with (first | ((with_reducible refine gate_callee (f := 57) rfl ?_); refine goesL_ (some 14) rfl rfl Tryz.func57 (by kernel_rfl) rfl #[.int .i64 a0, .int .i64 x8_1] rfl (by (try simp only [List.map_toArray, List.map_cons, List.map_nil]); first | done | rfl | (simp only [List.length_drop, List.length_take]; rfl)) ?_; (with_reducible refine (impl_loopOfRank.calls k1 a0 x8_1 t166 _ A6.out).mono ?_); rintro e w8 ⟨rfl, hb⟩; refine ⟨_, rfl, ?_⟩; have n0_ := Aside0.mk (Kd.R_below (by (with_reducible repeat (first | apply Kd.R_alloc | apply Kd.R_drewN | apply Kd.R_drew)); exact HO_3.out) hb); have n1_ := Aside0.mk (below_step (by repeat (first | (with_reducible first | exact HB.out | apply below_alloc | apply pw_below_drewN | apply below_drew1) | exact HB.out)) hb); clear HO_3; clear HB; have HO_3 := n0_; have HB := n1_; clear n0_ n1_; (try clear hb); (try clear hb2); (try clear hk); (try clear hi)) | ((with_reducible refine gate_builtin (b := .append) (xs := #[.tmp 11, .tmp 15]) rfl ?_); at_builtin; refine Kd.R_append Kd.string (w0 := w) w.heap.size rfl (.tmp 11) (.tmp 15) 33 9 (.string ⟨#[]⟩) 16 rfl Tryz.underlying33 info9 rfl (by decide) (by omega) u3 x3_1 t166 [.string t166] (fun _ => True) (fun _ => False) rfl rfl ?aP (fun _ hk => hk.elim) ?aF ?aO ?aB ?aS ?aL ?_; (case aP => exact rfl); (case aB => exact (by repeat (first | (with_reducible first | exact HB.out | apply below_alloc | apply pw_below_drewN | apply below_drew1) | exact HB.out))); (case aF => exact (fun _ _ => trivial)); (case aO => exact (by (with_reducible repeat (first | apply Kd.R_alloc | apply Kd.R_drewN | apply Kd.R_drew)); exact HO_3.out)); (case aS => exact (below_size (by repeat (first | (with_reducible first | exact HB.out | apply below_alloc | apply pw_below_drewN | apply below_drew1) | exact HB.out)))); (case aL => have := LMc7.out; omega); intro v168 w9 ho hb hg hat; rw [← Ny167.out] at ho; have n0_ := Aside0.mk (hb); have n1_ := Aside0.mk (ho); clear HB; clear HO_3; have HB := n0_; have HO169 := n1_; clear n0_ n1_; clear ho hb hg hat))
          go_roundg k1
          case measure => have := HK1.out; omega
          case rel => exact ⟨(y167), (wrap64 (x8_1 + 1)), (by first | rfl | (simp; done) | (simp [*]; done)), H', ⟨by have := HK1.out; omega⟩, ⟨by (with_reducible repeat (first | apply Kd.R_alloc | apply Kd.R_drewN | apply Kd.R_drew)); exact HO169.out⟩, ⟨by repeat (first | (with_reducible first | exact HB.out | apply below_alloc | apply pw_below_drewN | apply below_drew1) | exact HB.out)⟩⟩
        · rw [if_neg c7] at H
          exact absurd H (by simp)
      · rw [if_neg c5] at H
        have c5b0 : decide (x8_1 < t165) = false := decide_eq_false c5
        clear c5
        obtain rfl := Option.some.inj H
        go_wp2
        go_ret
        exact ⟨_, by first | rfl | (simp [errW_none, errW_some] <;> rfl) | (simp [*, errW_none, errW_some] <;> rfl), by (with_reducible repeat (first | apply Kd.R_alloc | apply Kd.R_drewN | apply Kd.R_drew)); exact HO_3.out, by repeat (first | (with_reducible first | exact HB.out | apply below_alloc | apply pw_below_drewN | apply below_drew1) | exact HB.out)⟩

end Go.Proofs.YtcgoaipbfnhjhaaGreatDoor.Pr

-- Written by a program for this claim.
namespace Go.Proofs.YtcgoaipbfnhjhaaGreatDoor.Pr
open Go.RowKit Go.Proofs.YtcgoaipbfnhjhaaGreatDoorW.PrintWords Go.Proofs.YtcgoaipbfnhjhaaGreatDoorW.PrintLast Go.Proofs.YtcgoaipbfnhjhaaGreatDoorW.PrintMore
attribute [local go_sem] max2_int min2_int max_two min_two max_three min_three max_four min_four   -- for this text's walks alone
set_option linter.unusedVariables false
set_option linter.unusedSimpArgs false

/-! ### impl_AllLoops: function 14 -/
def impl_AllLoops.f (k : Nat) (a0 : Int) : Option (List ByteArray × Bool) := (impl_within.f a0 0 4).bind fun t170 => (if t170 = true then ((impl_allLoops.f k a0).bind fun t171 => (some (t171, true))) else (some (([] : List ByteArray), false)))
theorem impl_AllLoops.mono : ∀ a0 k, LeO (impl_AllLoops.f k a0) (impl_AllLoops.f (k + 1) a0) := by
  intro a0 k
  unfold impl_AllLoops.f
  repeat' first
      | (with_reducible exact impl_allLoops.mono _ _)
      | (with_reducible exact LeO.refl _)
      | (with_reducible exact LeO.none _)
      | (with_reducible refine LeO.ite ?_ ?_)
      | (with_reducible refine LeO.bind ?_ (fun _ => ?_))
      | exact impl_allLoops.mono _ _
      | exact LeO.none _
      | refine LeO.ite ?_ ?_
      | refine LeO.bind ?_ (fun _ => ?_)
set_option maxHeartbeats 8000000 in
set_option maxRecDepth 100000 in
theorem impl_AllLoops.calls (k : Nat) (a0 : Int) (r1 : List ByteArray) (r2 : Bool) (w : World) (h : impl_AllLoops.f k a0 = some (r1, r2)) :
    Calls Tryz.prog 14 #[.int .i64 a0] w fun e w' => ∃ v0_ : Value, e = .returned (.tuple #[v0_, .bool r2]) ∧ Kd.R Kd.string 9 w' w.heap.size (fun _ => True) v0_ r1 ∧ Below w.heap.size w w' := by
  have HB := Aside0.mk (Below.refl w.heap.size w)
  have H : ((impl_within.f a0 0 4).bind fun t170 => (if t170 = true then ((impl_allLoops.f k a0).bind fun t171 => (some (t171, true))) else (some (([] : List ByteArray), false)))) = some (r1, r2) := h
  clear h
  replace H := Option.bind_eq_some_iff.mp H
  obtain ⟨t170, A20, H⟩ := H
  replace H : (if t170 = true then ((impl_allLoops.f k a0).bind fun t171 => (some (t171, true))) else (some (([] : List ByteArray), false))) = some (r1, r2) := H
  have A2 := Aside0.mk A20
  clear A20
  by_cases c3 : t170 = true
  · subst c3
    have H1 : ((impl_allLoops.f k a0).bind fun t171 => (some (t171, true))) = some (r1, r2) := by rw [if_pos rfl] at H; exact H
    clear H
    have H := H1
    clear H1
    replace H := Option.bind_eq_some_iff.mp H
    obtain ⟨t171, A40, H⟩ := H
    replace H : (some (t171, true)) = some (r1, r2) := H
    have A4 := Aside0.mk A40
    clear A40
    simp only [Option.some.injEq, Prod.mk.injEq] at H
    obtain ⟨rfl, rfl⟩ := H
    go_enter Tryz.func14, Tryz.ntmps14
    go_wp2_with (first | ((with_reducible refine gate_callee (f := 55) rfl ?_); refine goesL_ (some 5) rfl rfl Tryz.func55 (by kernel_rfl) rfl #[.int .i64 a0, .int .i64 0, .int .i64 4] rfl (by (try simp only [List.map_toArray, List.map_cons, List.map_nil]); first | done | rfl | (simp only [List.length_drop, List.length_take]; rfl)) ?_; (with_reducible refine (impl_within.calls a0 0 4 true _ A2.out).mono ?_); rintro e w' ⟨rfl, ⟨nd, rfl⟩⟩; refine ⟨_, rfl, ?_⟩) | ((with_reducible refine gate_callee (f := 67) rfl ?_); refine goesL_ (some 8) rfl rfl Tryz.func67 (by kernel_rfl) rfl #[.int .i64 a0] rfl (by (try simp only [List.map_toArray, List.map_cons, List.map_nil]); first | done | rfl | (simp only [List.length_drop, List.length_take]; rfl)) ?_; (with_reducible refine (impl_allLoops.calls k a0 t171 _ A4.out).mono ?_); rintro e w5 ⟨v172, rfl, ho0, hb⟩; refine ⟨_, rfl, ?_⟩; have n0_ := Aside0.mk (Kd.R_lower ho0 (below_size (by repeat (first | (with_reducible first | exact HB.out | apply below_alloc | apply pw_below_drewN | apply below_drew1) | exact HB.out)))); have n1_ := Aside0.mk (below_step (by repeat (first | (with_reducible first | exact HB.out | apply below_alloc | apply pw_below_drewN | apply below_drew1) | exact HB.out)) hb); clear HB; have HO173 := n0_; have HB := n1_; clear n0_ n1_; (try clear hb); (try clear hb2); (try clear hk); (try clear hi); (try clear ho0)))
    go_ret2
    exact ⟨_, by first | rfl | (simp [errW_none, errW_some] <;> rfl) | (simp [*, errW_none, errW_some] <;> rfl), by (with_reducible repeat (first | apply Kd.R_alloc | apply Kd.R_drewN | apply Kd.R_drew)); exact HO173.out, by repeat (first | (with_reducible first | exact HB.out | apply below_alloc | apply pw_below_drewN | apply below_drew1) | exact HB.out)⟩
  · replace c3 := Bool.eq_false_iff.mpr c3
    subst c3
    have H1 : (some (([] : List ByteArray), false)) = some (r1, r2) := by rw [if_neg (show ¬ (false = true) by decide)] at H; exact H
    clear H
    have H := H1
    clear H1
    simp only [Option.some.injEq, Prod.mk.injEq] at H
    obtain ⟨rfl, rfl⟩ := H
    go_enter Tryz.func14, Tryz.ntmps14
    go_wp2_with (first | ((with_reducible refine gate_callee (f := 55) rfl ?_); refine goesL_ (some 5) rfl rfl Tryz.func55 (by kernel_rfl) rfl #[.int .i64 a0, .int .i64 0, .int .i64 4] rfl (by (try simp only [List.map_toArray, List.map_cons, List.map_nil]); first | done | rfl | (simp only [List.length_drop, List.length_take]; rfl)) ?_; (with_reducible refine (impl_within.calls a0 0 4 false _ A2.out).mono ?_); rintro e w' ⟨rfl, ⟨nd, rfl⟩⟩; refine ⟨_, rfl, ?_⟩))
    go_ret2
    exact ⟨_, by first | rfl | (simp [errW_none, errW_some] <;> rfl) | (simp [*, errW_none, errW_some] <;> rfl), by first | exact Kd.R_nil _ _ _ _ _ | exact Kd.N_nil _ _ _ _ _ | exact Kd.V_nil _ _ _ _ _ | exact Kd.Q_nil _ _ _ _ _ | exact Kd.S_nil _ _ _ _ _, by repeat (first | (with_reducible first | exact HB.out | apply below_alloc | apply pw_below_drewN | apply below_drew1) | exact HB.out)⟩

end Go.Proofs.YtcgoaipbfnhjhaaGreatDoor.Pr

-- Written by a program for this claim.
namespace Go.Proofs.YtcgoaipbfnhjhaaGreatDoor.Pr
open Go.RowKit Go.Proofs.YtcgoaipbfnhjhaaGreatDoorW.PrintWords Go.Proofs.YtcgoaipbfnhjhaaGreatDoorW.PrintLast Go.Proofs.YtcgoaipbfnhjhaaGreatDoorW.PrintMore
attribute [local go_sem] max2_int min2_int max_two min_two max_three min_three max_four min_four   -- for this text's walks alone
set_option linter.unusedVariables false
set_option linter.unusedSimpArgs false

/-! ### spec_AllLoops: function 15 -/
def spec_AllLoops.l0 : Nat → Int → List ByteArray → Int → Option (List ByteArray × Bool)
  | 0, _, _, _ => none
  | k + 1, x0, x4, x5 => (spec_loCount.f k x0).bind fun t175 => (if x5 < t175 then ((spec_loRanked.f k x0 x5).bind fun t176 => (if x4.length < 8796093022208 then (spec_AllLoops.l0 k x0 (x4 ++ [t176]) (wrap64 (x5 + 1))) else (none))) else (some (x4, true)))
def spec_AllLoops.f (k : Nat) (a0 : Int) : Option (List ByteArray × Bool) := (spec_l1In.f a0 0 4).bind fun t174 => (if t174 = true then (spec_AllLoops.l0 k a0 ([] : List ByteArray) 0) else (some (([] : List ByteArray), false)))
theorem spec_AllLoops.mono_l : ∀ k, (∀ y0 y1 y2, LeO (spec_AllLoops.l0 k y0 y1 y2) (spec_AllLoops.l0 (k + 1) y0 y1 y2))
  | 0 => fun _ _ _ r h => by simp [spec_AllLoops.l0] at h
  | k + 1 => by
    have ih0 := spec_AllLoops.mono_l k
    · intro y0 y1 y2
      unfold spec_AllLoops.l0
      repeat' first
      | (with_reducible exact ih0 _ _ _)
      | (with_reducible exact spec_loCount.mono _ _)
      | (with_reducible exact spec_loRanked.mono _ _ _)
      | (with_reducible exact LeO.refl _)
      | (with_reducible exact LeO.none _)
      | (with_reducible refine LeO.ite ?_ ?_)
      | (with_reducible refine LeO.bind ?_ (fun _ => ?_))
      | exact ih0 _ _ _
      | exact spec_loCount.mono _ _
      | exact spec_loRanked.mono _ _ _
      | exact LeO.none _
      | refine LeO.ite ?_ ?_
      | refine LeO.bind ?_ (fun _ => ?_)
theorem spec_AllLoops.mono : ∀ a0 k, LeO (spec_AllLoops.f k a0) (spec_AllLoops.f (k + 1) a0) := by
  intro a0 k
  have ih0 := spec_AllLoops.mono_l k
  unfold spec_AllLoops.f
  repeat' first
      | (with_reducible exact ih0 _ _ _)
      | (with_reducible exact spec_loCount.mono _ _)
      | (with_reducible exact spec_loRanked.mono _ _ _)
      | (with_reducible exact LeO.refl _)
      | (with_reducible exact LeO.none _)
      | (with_reducible refine LeO.ite ?_ ?_)
      | (with_reducible refine LeO.bind ?_ (fun _ => ?_))
      | exact ih0 _ _ _
      | exact spec_loCount.mono _ _
      | exact spec_loRanked.mono _ _ _
      | exact LeO.none _
      | refine LeO.ite ?_ ?_
      | refine LeO.bind ?_ (fun _ => ?_)
set_option maxHeartbeats 8000000 in
set_option maxRecDepth 100000 in
theorem spec_AllLoops.calls (k : Nat) (a0 : Int) (r1 : List ByteArray) (r2 : Bool) (w : World) (h : spec_AllLoops.f k a0 = some (r1, r2)) :
    Calls Tryz.prog 15 #[.int .i64 a0] w fun e w' => ∃ v0_ : Value, e = .returned (.tuple #[v0_, .bool r2]) ∧ Kd.R Kd.string 9 w' w.heap.size (fun _ => True) v0_ r1 ∧ Below w.heap.size w w' := by
  have HB := Aside0.mk (Below.refl w.heap.size w)
  have H : ((spec_l1In.f a0 0 4).bind fun t174 => (if t174 = true then (spec_AllLoops.l0 k a0 ([] : List ByteArray) 0) else (some (([] : List ByteArray), false)))) = some (r1, r2) := h
  clear h
  replace H := Option.bind_eq_some_iff.mp H
  obtain ⟨t174, A20, H⟩ := H
  replace H : (if t174 = true then (spec_AllLoops.l0 k a0 ([] : List ByteArray) 0) else (some (([] : List ByteArray), false))) = some (r1, r2) := H
  have A2 := Aside0.mk A20
  clear A20
  by_cases c3 : t174 = true
  · subst c3
    have H1 : (spec_AllLoops.l0 k a0 ([] : List ByteArray) 0) = some (r1, r2) := by rw [if_pos rfl] at H; exact H
    clear H
    have H := H1
    clear H1
    have H' := Aside0.mk H
    clear H
    go_enter Tryz.func15, Tryz.ntmps15
    go_wp2_with (first | ((with_reducible refine gate_callee (f := 58) rfl ?_); refine goesL_ (some 7) rfl rfl Tryz.func58 (by kernel_rfl) rfl #[.int .i64 a0, .int .i64 0, .int .i64 4] rfl (by (try simp only [List.map_toArray, List.map_cons, List.map_nil]); first | done | rfl | (simp only [List.length_drop, List.length_take]; rfl)) ?_; (with_reducible refine (spec_l1In.calls a0 0 4 true _ A2.out).mono ?_); rintro e w' ⟨rfl, ⟨nd, rfl⟩⟩; refine ⟨_, rfl, ?_⟩))
    go_loopg [4, 5] k (fun kq v4 v5 w' => ∃ (x4_1 : List ByteArray) (x5_1 : Int), v5 = .int .i64 x5_1 ∧ Aside0 (spec_AllLoops.l0 kq a0 x4_1 x5_1 = some (r1, r2)) ∧ Aside0 (kq ≤ k) ∧ Aside0 (Kd.R Kd.string 9 w' w.heap.size (fun _ => True) v4 x4_1) ∧ Aside0 (Below w.heap.size w w'))
    case atStart => exact ⟨(([] : List ByteArray)), (0), (by first | rfl | (simp; done) | (simp [*]; done)), H', ⟨Nat.le_refl _⟩, ⟨by first | exact Kd.R_nil _ _ _ _ _ | exact Kd.N_nil _ _ _ _ _ | exact Kd.V_nil _ _ _ _ _ | exact Kd.Q_nil _ _ _ _ _ | exact Kd.S_nil _ _ _ _ _⟩, ⟨by repeat (first | (with_reducible first | exact HB.out | apply below_alloc | apply pw_below_drewN | apply below_drew1) | exact HB.out)⟩⟩
    case round =>
      clear H'
      try clear c1
      try clear p2
      try clear c3
      obtain ⟨x4_1, x5_1, rfl, HA, HK1, HO_4, HB⟩ := hrel
      cases gk with
      | zero => exact absurd HA.out (by simp [spec_AllLoops.l0])
      | succ k1 =>
        have H := HA.out
        clear HA
        simp only [spec_AllLoops.l0] at H
        replace H := Option.bind_eq_some_iff.mp H
        obtain ⟨t175, A40, H⟩ := H
        replace H : (if x5_1 < t175 then ((spec_loRanked.f k1 a0 x5_1).bind fun t176 => (if x4_1.length < 8796093022208 then (spec_AllLoops.l0 k1 a0 (x4_1 ++ [t176]) (wrap64 (x5_1 + 1))) else (none))) else (some (x4_1, true))) = some (r1, r2) := H
        have A4 := Aside0.mk A40
        clear A40
        by_cases c5 : x5_1 < t175
        · rw [if_pos c5] at H
          have c5b0 : decide (x5_1 < t175) = true := decide_eq_true c5
          clear c5
          replace H := Option.bind_eq_some_iff.mp H
          obtain ⟨t176, A60, H⟩ := H
          replace H : (if x4_1.length < 8796093022208 then (spec_AllLoops.l0 k1 a0 (x4_1 ++ [t176]) (wrap64 (x5_1 + 1))) else (none)) = some (r1, r2) := H
          have A6 := Aside0.mk A60
          clear A60
          by_cases c7 : x4_1.length < 8796093022208
          · rw [if_pos c7] at H
            have LMc7 := Aside0.mk c7
            clear c7
            obtain ⟨y177, hy177⟩ : ∃ y_ : List ByteArray, y_ = (x4_1 ++ [t176]) := ⟨_, rfl⟩
            replace H : (spec_AllLoops.l0 k1 a0 y177 (wrap64 (x5_1 + 1))) = some (r1, r2) := by first | (rw [hy177]; with_reducible exact H) | (have H2_ := (Option.bind_some _ _).symm.trans H; rw [hy177]; with_reducible exact H2_) | (have H2_ := (Option.bind_some _ _).symm.trans H; with_reducible exact H2_) | with_reducible exact H | (rw [hy177]; exact H) | exact H
            have Ny177 := Aside0.mk hy177
            clear hy177
            have H' := Aside0.mk H
            clear H
            go_wp2_with (first | ((with_reducible refine gate_callee (f := 59) rfl ?_); refine goesL_ (some 11) rfl rfl Tryz.func59 (by kernel_rfl) rfl #[.int .i64 a0] rfl (by (try simp only [List.map_toArray, List.map_cons, List.map_nil]); first | done | rfl | (simp only [List.length_drop, List.length_take]; rfl)) ?_; (with_reducible refine (spec_loCount.calls k1 a0 t175 _ A4.out).mono ?_); rintro e w' ⟨rfl, ⟨nd, rfl⟩⟩; refine ⟨_, rfl, ?_⟩) | ((with_reducible refine gate_callee (f := 60) rfl ?_); refine goesL_ (some 18) rfl rfl Tryz.func60 (by kernel_rfl) rfl #[.int .i64 a0, .int .i64 x5_1] rfl (by (try simp only [List.map_toArray, List.map_cons, List.map_nil]); first | done | rfl | (simp only [List.length_drop, List.length_take]; rfl)) ?_; (with_reducible refine (spec_loRanked.calls k1 a0 x5_1 t176 _ A6.out).mono ?_); rintro e w' ⟨rfl, ⟨nd, rfl⟩⟩; refine ⟨_, rfl, ?_⟩) | ((with_reducible refine gate_builtin (b := .append) (xs := #[.tmp 15, .tmp 19]) rfl ?_); at_builtin; refine Kd.R_append Kd.string (w0 := w) w.heap.size rfl (.tmp 15) (.tmp 19) 33 9 (.string ⟨#[]⟩) 16 rfl Tryz.underlying33 info9 rfl (by decide) (by omega) u4 x4_1 t176 [.string t176] (fun _ => True) (fun _ => False) rfl rfl ?aP (fun _ hk => hk.elim) ?aF ?aO ?aB ?aS ?aL ?_; (case aP => exact rfl); (case aB => exact (by repeat (first | (with_reducible first | exact HB.out | apply below_alloc | apply pw_below_drewN | apply below_drew1) | exact HB.out))); (case aF => exact (fun _ _ => trivial)); (case aO => exact (by (with_reducible repeat (first | apply Kd.R_alloc | apply Kd.R_drewN | apply Kd.R_drew)); exact HO_4.out)); (case aS => exact (below_size (by repeat (first | (with_reducible first | exact HB.out | apply below_alloc | apply pw_below_drewN | apply below_drew1) | exact HB.out)))); (case aL => have := LMc7.out; omega); intro v178 w8 ho hb hg hat; rw [← Ny177.out] at ho; have n0_ := Aside0.mk (hb); have n1_ := Aside0.mk (ho); clear HB; clear HO_4; have HB := n0_; have HO179 := n1_; clear n0_ n1_; clear ho hb hg hat))
            go_roundg k1
            case measure => have := HK1.out; omega
            case rel => exact ⟨(y177), (wrap64 (x5_1 + 1)), (by first | rfl | (simp; done) | (simp [*]; done)), H', ⟨by have := HK1.out; omega⟩, ⟨by (with_reducible repeat (first | apply Kd.R_alloc | apply Kd.R_drewN | apply Kd.R_drew)); exact HO179.out⟩, ⟨by repeat (first | (with_reducible first | exact HB.out | apply below_alloc | apply pw_below_drewN | apply below_drew1) | exact HB.out)⟩⟩
          · rw [if_neg c7] at H
            exact absurd H (by simp)
        · rw [if_neg c5] at H
          have c5b0 : decide (x5_1 < t175) = false := decide_eq_false c5
          clear c5
          simp only [Option.some.injEq, Prod.mk.injEq] at H
          obtain ⟨rfl, rfl⟩ := H
          go_wp2_with (first | ((with_reducible refine gate_callee (f := 59) rfl ?_); refine goesL_ (some 11) rfl rfl Tryz.func59 (by kernel_rfl) rfl #[.int .i64 a0] rfl (by (try simp only [List.map_toArray, List.map_cons, List.map_nil]); first | done | rfl | (simp only [List.length_drop, List.length_take]; rfl)) ?_; (with_reducible refine (spec_loCount.calls k1 a0 t175 _ A4.out).mono ?_); rintro e w' ⟨rfl, ⟨nd, rfl⟩⟩; refine ⟨_, rfl, ?_⟩))
          go_ret2
          exact ⟨_, by first | rfl | (simp [errW_none, errW_some] <;> rfl) | (simp [*, errW_none, errW_some] <;> rfl), by (with_reducible repeat (first | apply Kd.R_alloc | apply Kd.R_drewN | apply Kd.R_drew)); exact HO_4.out, by repeat (first | (with_reducible first | exact HB.out | apply below_alloc | apply pw_below_drewN | apply below_drew1) | exact HB.out)⟩
  · replace c3 := Bool.eq_false_iff.mpr c3
    subst c3
    have H1 : (some (([] : List ByteArray), false)) = some (r1, r2) := by rw [if_neg (show ¬ (false = true) by decide)] at H; exact H
    clear H
    have H := H1
    clear H1
    simp only [Option.some.injEq, Prod.mk.injEq] at H
    obtain ⟨rfl, rfl⟩ := H
    go_enter Tryz.func15, Tryz.ntmps15
    go_wp2_with (first | ((with_reducible refine gate_callee (f := 58) rfl ?_); refine goesL_ (some 7) rfl rfl Tryz.func58 (by kernel_rfl) rfl #[.int .i64 a0, .int .i64 0, .int .i64 4] rfl (by (try simp only [List.map_toArray, List.map_cons, List.map_nil]); first | done | rfl | (simp only [List.length_drop, List.length_take]; rfl)) ?_; (with_reducible refine (spec_l1In.calls a0 0 4 false _ A2.out).mono ?_); rintro e w' ⟨rfl, ⟨nd, rfl⟩⟩; refine ⟨_, rfl, ?_⟩))
    go_ret2
    exact ⟨_, by first | rfl | (simp [errW_none, errW_some] <;> rfl) | (simp [*, errW_none, errW_some] <;> rfl), by first | exact Kd.R_nil _ _ _ _ _ | exact Kd.N_nil _ _ _ _ _ | exact Kd.V_nil _ _ _ _ _ | exact Kd.Q_nil _ _ _ _ _ | exact Kd.S_nil _ _ _ _ _, by repeat (first | (with_reducible first | exact HB.out | apply below_alloc | apply pw_below_drewN | apply below_drew1) | exact HB.out)⟩

end Go.Proofs.YtcgoaipbfnhjhaaGreatDoor.Pr
