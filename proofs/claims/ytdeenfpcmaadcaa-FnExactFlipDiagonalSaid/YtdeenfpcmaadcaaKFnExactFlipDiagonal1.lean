/- The program's FlipDiagonal returns what the reference's returns, for all arguments. (Part 2 of 6.) -/
import Derived.RowKit
import Derived.Test.YtdeenfpcmaadcaaProg
import Derived.Below
import Derived.Deep.Draws
import Derived.Deep.AppendLies
import Derived.Maps.AppendAt
import Derived.OwnWalk
import Derived.Laws.BytesArg
import Derived.Laws.MakeOwn
import Derived.Laws.OwnMore
import Derived.Deep.OwnRows
import Derived.Tactics
import Derived.Lib.ConvBytes
import Derived.Laws.Slices
import Derived.WalkKit
import Derived.KernelRfl
import Derived.RowKit3
import Derived.Deep.LoopGhost
import Derived.Deep.QuietTactic
import Derived.BigQuiet
import Derived.WideLaws
import Derived.Deep.DeepCutAuto
import Derived.Deep.CutBlock
import Derived.Deep.RegionHeld3
import Derived.Laws.Rows
import Derived.Lib.AppendStr
import Derived.ArgAppend
import Derived.Laws.IdiomCopy
import Derived.OrdersHeld
import Derived.Laws.BitsLemmas
import Derived.Shelf.GgSortFunc.RowK
import Derived.Shelf.SlSortFuncK.RowK2
import Derived.Test.YtdeenfpcmaadcaaKFnExactFlipDiagonal0
set_option linter.unusedVariables false
set_option linter.unusedSimpArgs false
/- Steps for functions with a number of rounds: what holds from some number of rounds on. -/
namespace Go.Proofs.Ytdeenfpcmaadcaa.M
open Go.RowKit Go.Proofs.YtdeenfpcmaadcaaW.PrintWords
theorem w64 {x : Int} (h0 : -9223372036854775808 ≤ x) (h1 : x ≤ 9223372036854775807) : wrap64 x = x := by
  unfold wrap64
  omega
theorem Ev.pos {α : Type} {c : Prop} [Decidable c] {A B : Nat → Option α} {r : α} (h : c) (e : Ev A r) : Ev (fun k => if c then A k else B k) r := by
  simp only [h, if_true]
  exact e
theorem Ev.neg {α : Type} {c : Prop} [Decidable c] {A B : Nat → Option α} {r : α} (h : ¬ c) (e : Ev B r) : Ev (fun k => if c then A k else B k) r := by
  simp only [h, if_false]
  exact e
theorem Ev.bindc {α β : Type} {o : Option α} {f : Nat → α → Option β} {a : α} {r : β} (h : o = some a) (e : Ev (fun k => f k a) r) : Ev (fun k => o.bind (f k)) r := by
  subst h
  exact e
theorem Ev.bindk {α β : Type} {g : Nat → Option α} {f : Nat → α → Option β} {a : α} {r : β} (h : Ev g a) (e : Ev (fun k => f k a) r) : Ev (fun k => (g k).bind (f k)) r := Ev.bind h e
theorem Ev.val {α : Type} {r r' : α} (h : r = r') : Ev (fun _ => some r) r' := by
  subst h
  exact Ev.now r
/-- Two values of one thing are one. -/
theorem Ev.uniq {α : Type} {g : Nat → Option α} {r r' : α} (h : Ev g r) (h' : Ev g r') : r = r' := by
  obtain ⟨K, h⟩ := h
  obtain ⟨K', h'⟩ := h'
  have e := (h (max K K') (Nat.le_max_left _ _)).symm.trans (h' (max K K') (Nat.le_max_right _ _))
  exact Option.some.inj e
/-- A loop over a list by its index: what is left of the list decides the answer R; P is kept. -/
theorem Ev.scan {α β γ : Type} (L : Nat → Int → β → Option γ) (xs : List α) (R : List α → β → γ) (P : Nat → β → Prop)
    (h0 : ∀ acc, P xs.length acc → Ev (fun k => L k (xs.length : Int) acc) (R [] acc))
    (h1 : ∀ (i : Nat) (h : i < xs.length) (acc : β), P i acc → (∃ acc', P (i + 1) acc' ∧ R (xs[i] :: xs.drop (i + 1)) acc = R (xs.drop (i + 1)) acc' ∧ ∀ r, Ev (fun k => L k ((i : Int) + 1) acc') r → Ev (fun k => L k (i : Int) acc) r)
      ∨ Ev (fun k => L k (i : Int) acc) (R (xs[i] :: xs.drop (i + 1)) acc)) :
    ∀ (d i : Nat) (acc : β), i + d = xs.length → P i acc → Ev (fun k => L k (i : Int) acc) (R (xs.drop i) acc) := by
  intro d
  induction d with
  | zero =>
    intro i acc hi hp
    obtain rfl : i = xs.length := by omega
    rw [List.drop_length]
    exact h0 acc hp
  | succ d ih =>
    intro i acc hi hp
    have hlt : i < xs.length := by omega
    rw [List.drop_eq_getElem_cons hlt]
    rcases h1 i hlt acc hp with ⟨acc', hp', hR, hk⟩ | h
    · rw [hR]
      refine hk _ ?_
      have e := ih (i + 1) acc' (by omega) hp'
      rw [show (((i + 1 : Nat)) : Int) = (i : Int) + 1 from by omega] at e
      exact e
    · exact h
theorem Ev.scan0 {α β γ : Type} (L : Nat → Int → β → Option γ) (xs : List α) (R : List α → β → γ) (P : Nat → β → Prop)
    (h0 : ∀ acc, P xs.length acc → Ev (fun k => L k (xs.length : Int) acc) (R [] acc))
    (h1 : ∀ (i : Nat) (h : i < xs.length) (acc : β), P i acc → (∃ acc', P (i + 1) acc' ∧ R (xs[i] :: xs.drop (i + 1)) acc = R (xs.drop (i + 1)) acc' ∧ ∀ r, Ev (fun k => L k ((i : Int) + 1) acc') r → Ev (fun k => L k (i : Int) acc) r)
      ∨ Ev (fun k => L k (i : Int) acc) (R (xs[i] :: xs.drop (i + 1)) acc)) (acc : β) (hp : P 0 acc) : Ev (fun k => L k 0 acc) (R xs acc) := by
  have e := Ev.scan L xs R P h0 h1 xs.length 0 acc (by omega) hp
  simpa using e
/-- Counting up from i to n. -/
theorem Ev.upto {β γ : Type} (L : Nat → Int → β → Option γ) (n : Int) (R : Int → β → γ) (P : Int → β → Prop)
    (h0 : ∀ i acc, n ≤ i → P i acc → Ev (fun k => L k i acc) (R i acc))
    (h1 : ∀ i acc, i < n → P i acc → (∃ acc', P (i + 1) acc' ∧ R i acc = R (i + 1) acc' ∧ ∀ r, Ev (fun k => L k (i + 1) acc') r → Ev (fun k => L k i acc) r) ∨ Ev (fun k => L k i acc) (R i acc)) :
    ∀ (d : Nat) (i : Int) (acc : β), n ≤ i + d → P i acc → Ev (fun k => L k i acc) (R i acc) := by
  intro d
  induction d with
  | zero => intro i acc hi hp; exact h0 i acc (by omega) hp
  | succ d ih =>
    intro i acc hi hp
    by_cases hlt : i < n
    · rcases h1 i acc hlt hp with ⟨acc', hp', hR, hk⟩ | h
      · rw [hR]
        exact hk _ (ih (i + 1) acc' (by omega) hp')
      · exact h
    · exact h0 i acc (by omega) hp
end Go.Proofs.Ytdeenfpcmaadcaa.M
namespace Go.Proofs.Ytdeenfpcmaadcaa.Pr
open Go.RowKit Go.Proofs.YtdeenfpcmaadcaaW.PrintWords Go.Proofs.YtdeenfpcmaadcaaW.PrintLast Go.Proofs.YtdeenfpcmaadcaaW.PrintMore
attribute [local go_sem] max2_int min2_int max_two min_two max_three min_three max_four min_four
def errW : Option Int → Value
 | none => .nilIface
 | some c => .iface 0 (.int .i64 c)
theorem errW_none : errW none = .nilIface := rfl
theorem errW_some (c : Int) : errW (some c) = .iface 0 (.int .i64 c) := rfl
theorem info3 : (Try.prog.info? 3).map (fun i => (i.zero, i.size, i.bytes)) = some (some (.int .i64 0), 1, 8) := by kernel_rfl
theorem info24 : (Try.prog.info? 24).map (fun i => (i.zero, i.size, i.bytes)) = some (some (.slice none 0 0), 1, 24) := by kernel_rfl
theorem info47 : (Try.prog.info? 47).map (fun i => (i.zero, i.size, i.bytes)) = some (some (.agg #[(.int .i64 0), (.int .i64 0)]), 2, 16) := by kernel_rfl
theorem info54 : (Try.prog.info? 54).map (fun i => (i.zero, i.size, i.bytes)) = some (some (.agg #[(.slice none 0 0), (.slice none 0 0), (.slice none 0 0)]), 3, 72) := by kernel_rfl
-- the values' own types
structure S47 where
 f0 : Int
 f1 : Int
def z47 : S47 := ⟨(0 : Int), (0 : Int)⟩
def k47 : Kd S47 := Kd.iso (Kd.pair (Kd.int .i64) (Kd.int .i64)) (fun x : S47 => (x.f0, x.f1))
theorem k47_open {w : World} {x : S47} {cs : List Value} (h : k47.K w x cs) : cs = [.int .i64 x.f0, .int .i64 x.f1] := by
 obtain ⟨_, _, rfl, rfl, rfl⟩ := h
 exact rfl
theorem k47_openM {w : World} {base : Nat} {ok : Nat → Prop} {x : S47} {cs : List Value} (h : k47.M w base ok x cs) : cs = [.int .i64 x.f0, .int .i64 x.f1] := by
 obtain ⟨_, _, rfl, rfl, rfl⟩ := h
 exact rfl
theorem k47_mk (w : World) (x : S47)  : k47.K w x [.int .i64 x.f0, .int .i64 x.f1] := ⟨[.int .i64 x.f0], [.int .i64 x.f1], rfl, rfl, rfl⟩
theorem k47_mkM (w : World) (base : Nat) (ok : Nat → Prop) (x : S47)  : k47.M w base ok x [.int .i64 x.f0, .int .i64 x.f1] := ⟨[.int .i64 x.f0], [.int .i64 x.f1], rfl, rfl, rfl⟩
def rd_T47 (xs : List S47) (i : Int) : S47 := xs.getD i.toNat z47
theorem at_T47 {w : World} {A : Option Addr} {n : Nat} {xs : List S47} (h : Kd.C k47 w A n xs) (i : Int) (h0 : 0 ≤ i) (h1 : i < n) : ∃ ad , A = some ad ∧ w.cell? (ad.add (i.toNat * 2)) = some (.int .i64 (rd_T47 xs i).f0) ∧ w.cell? ⟨(ad.add (i.toNat * 2)).block, (ad.add (i.toNat * 2)).off + 1, none⟩ = some (.int .i64 (rd_T47 xs i).f1) := by
 obtain ⟨ad, c, e, _, hK, hc0⟩ := Kd.C_get h z47 i h0 h1
 have hc : ∀ j u, c[j]? = some u → w.cell? (ad.add (i.toNat * 2 + j)) = some u := hc0
 obtain rfl := k47_open hK
 exact ⟨ad, e, hc 0 _ rfl, by rw [← add_field _ _ 1 (by omega)]; exact hc 1 _ rfl⟩
structure S49 where
 f0 : Int
 f1 : Int
def z49 : S49 := ⟨(0 : Int), (0 : Int)⟩
def k49 : Kd S49 := Kd.iso (Kd.pair (Kd.int .i64) (Kd.int .i64)) (fun x : S49 => (x.f0, x.f1))
theorem k49_open {w : World} {x : S49} {cs : List Value} (h : k49.K w x cs) : cs = [.int .i64 x.f0, .int .i64 x.f1] := by
 obtain ⟨_, _, rfl, rfl, rfl⟩ := h
 exact rfl
theorem k49_openM {w : World} {base : Nat} {ok : Nat → Prop} {x : S49} {cs : List Value} (h : k49.M w base ok x cs) : cs = [.int .i64 x.f0, .int .i64 x.f1] := by
 obtain ⟨_, _, rfl, rfl, rfl⟩ := h
 exact rfl
theorem k49_mk (w : World) (x : S49)  : k49.K w x [.int .i64 x.f0, .int .i64 x.f1] := ⟨[.int .i64 x.f0], [.int .i64 x.f1], rfl, rfl, rfl⟩
theorem k49_mkM (w : World) (base : Nat) (ok : Nat → Prop) (x : S49)  : k49.M w base ok x [.int .i64 x.f0, .int .i64 x.f1] := ⟨[.int .i64 x.f0], [.int .i64 x.f1], rfl, rfl, rfl⟩
def rd_T49 (xs : List S49) (i : Int) : S49 := xs.getD i.toNat z49
theorem at_T49 {w : World} {A : Option Addr} {n : Nat} {xs : List S49} (h : Kd.C k49 w A n xs) (i : Int) (h0 : 0 ≤ i) (h1 : i < n) : ∃ ad , A = some ad ∧ w.cell? (ad.add (i.toNat * 2)) = some (.int .i64 (rd_T49 xs i).f0) ∧ w.cell? ⟨(ad.add (i.toNat * 2)).block, (ad.add (i.toNat * 2)).off + 1, none⟩ = some (.int .i64 (rd_T49 xs i).f1) := by
 obtain ⟨ad, c, e, _, hK, hc0⟩ := Kd.C_get h z49 i h0 h1
 have hc : ∀ j u, c[j]? = some u → w.cell? (ad.add (i.toNat * 2 + j)) = some u := hc0
 obtain rfl := k49_open hK
 exact ⟨ad, e, hc 0 _ rfl, by rw [← add_field _ _ 1 (by omega)]; exact hc 1 _ rfl⟩
def rd_L4 (xs : List (List Int)) (i : Int) : (List Int) := xs.getD i.toNat ([] : List Int)
theorem at_L4 {w : World} {A : Option Addr} {n : Nat} {xs : List (List Int)} (h : Kd.C (Kd.slice 3 (Kd.int .i64)) w A n xs) (i : Int) (h0 : 0 ≤ i) (h1 : i < n) : ∃ ad A0 c0, A = some ad ∧ w.cell? (ad.add i.toNat) = some (.slice A0 (rd_L4 xs i).length c0) ∧ (rd_L4 xs i).length ≤ c0 ∧ (Kd.int .i64).C w A0 (rd_L4 xs i).length (rd_L4 xs i) := by
 obtain ⟨ad, c, e, _, hK, hc0⟩ := Kd.C_get h ([] : List Int) i h0 h1
 have hc : ∀ j u, c[j]? = some u → w.cell? (ad.add (i.toNat * 1 + j)) = some u := hc0
 obtain ⟨A0, c0, rfl, l0, g0⟩ := hK
 exact ⟨ad, A0, c0, e, by have hq := hc 0 _ rfl; rwa [Nat.mul_one, Nat.add_zero] at hq, l0, g0⟩
def rd_L5 (xs : List (List S47)) (i : Int) : (List S47) := xs.getD i.toNat ([] : List S47)
theorem at_L5 {w : World} {A : Option Addr} {n : Nat} {xs : List (List S47)} (h : Kd.C (Kd.slice 47 k47) w A n xs) (i : Int) (h0 : 0 ≤ i) (h1 : i < n) : ∃ ad A0 c0, A = some ad ∧ w.cell? (ad.add i.toNat) = some (.slice A0 (rd_L5 xs i).length c0) ∧ (rd_L5 xs i).length ≤ c0 ∧ k47.C w A0 (rd_L5 xs i).length (rd_L5 xs i) := by
 obtain ⟨ad, c, e, _, hK, hc0⟩ := Kd.C_get h ([] : List S47) i h0 h1
 have hc : ∀ j u, c[j]? = some u → w.cell? (ad.add (i.toNat * 1 + j)) = some u := hc0
 obtain ⟨A0, c0, rfl, l0, g0⟩ := hK
 exact ⟨ad, A0, c0, e, by have hq := hc 0 _ rfl; rwa [Nat.mul_one, Nat.add_zero] at hq, l0, g0⟩
def rd_L6 (xs : List (List (List Int))) (i : Int) : (List (List Int)) := xs.getD i.toNat ([] : List (List Int))
theorem at_L6 {w : World} {A : Option Addr} {n : Nat} {xs : List (List (List Int))} (h : Kd.C (Kd.slice 24 (Kd.slice 3 (Kd.int .i64))) w A n xs) (i : Int) (h0 : 0 ≤ i) (h1 : i < n) : ∃ ad A0 c0, A = some ad ∧ w.cell? (ad.add i.toNat) = some (.slice A0 (rd_L6 xs i).length c0) ∧ (rd_L6 xs i).length ≤ c0 ∧ (Kd.slice 3 (Kd.int .i64)).C w A0 (rd_L6 xs i).length (rd_L6 xs i) := by
 obtain ⟨ad, c, e, _, hK, hc0⟩ := Kd.C_get h ([] : List (List Int)) i h0 h1
 have hc : ∀ j u, c[j]? = some u → w.cell? (ad.add (i.toNat * 1 + j)) = some u := hc0
 obtain ⟨A0, c0, rfl, l0, g0⟩ := hK
 exact ⟨ad, A0, c0, e, by have hq := hc 0 _ rfl; rwa [Nat.mul_one, Nat.add_zero] at hq, l0, g0⟩
structure S54 where
 f0 : (List Int)
 f1 : (List S47)
 f2 : (List Int)
def z54 : S54 := ⟨([] : List Int), ([] : List S47), ([] : List Int)⟩
def k54 : Kd S54 := Kd.iso (Kd.pair (Kd.slice 3 (Kd.int .i64)) (Kd.pair (Kd.slice 47 k47) (Kd.slice 3 (Kd.int .i64)))) (fun x : S54 => (x.f0, x.f1, x.f2))
theorem k54_open {w : World} {x : S54} {cs : List Value} (h : k54.K w x cs) : ∃ A0 c0 A1 c1 A2 c2, cs = [.slice A0 x.f0.length c0, .slice A1 x.f1.length c1, .slice A2 x.f2.length c2] ∧ x.f0.length ≤ c0 ∧ (Kd.int .i64).C w A0 x.f0.length x.f0 ∧ x.f1.length ≤ c1 ∧ k47.C w A1 x.f1.length x.f1 ∧ x.f2.length ≤ c2 ∧ (Kd.int .i64).C w A2 x.f2.length x.f2 := by
 obtain ⟨_, _, rfl, ⟨A0, c0, rfl, l0, g0⟩, ⟨_, _, rfl, ⟨A1, c1, rfl, l1, g1⟩, ⟨A2, c2, rfl, l2, g2⟩⟩⟩ := h
 exact ⟨A0, c0, A1, c1, A2, c2, rfl, l0, g0, l1, g1, l2, g2⟩
theorem k54_openM {w : World} {base : Nat} {ok : Nat → Prop} {x : S54} {cs : List Value} (h : k54.M w base ok x cs) : ∃ v0 v1 v2, cs = [v0, v1, v2] ∧ (Kd.int .i64).R 3 w base ok v0 x.f0 ∧ k47.R 47 w base ok v1 x.f1 ∧ (Kd.int .i64).R 3 w base ok v2 x.f2 := by
 obtain ⟨_, _, rfl, ⟨v0, rfl, g0⟩, ⟨_, _, rfl, ⟨v1, rfl, g1⟩, ⟨v2, rfl, g2⟩⟩⟩ := h
 exact ⟨v0, v1, v2, rfl, g0, g1, g2⟩
theorem k54_mk (w : World) (x : S54) {A0 : Option Addr} {c0 : Nat} (l0 : x.f0.length ≤ c0) (g0 : (Kd.int .i64).C w A0 x.f0.length x.f0) {A1 : Option Addr} {c1 : Nat} (l1 : x.f1.length ≤ c1) (g1 : k47.C w A1 x.f1.length x.f1) {A2 : Option Addr} {c2 : Nat} (l2 : x.f2.length ≤ c2) (g2 : (Kd.int .i64).C w A2 x.f2.length x.f2) : k54.K w x [.slice A0 x.f0.length c0, .slice A1 x.f1.length c1, .slice A2 x.f2.length c2] := ⟨[.slice A0 x.f0.length c0], [.slice A1 x.f1.length c1, .slice A2 x.f2.length c2], rfl, ⟨A0, c0, rfl, l0, g0⟩, ⟨[.slice A1 x.f1.length c1], [.slice A2 x.f2.length c2], rfl, ⟨A1, c1, rfl, l1, g1⟩, ⟨A2, c2, rfl, l2, g2⟩⟩⟩
theorem k54_mkM (w : World) (base : Nat) (ok : Nat → Prop) (x : S54) {v0 : Value} (g0 : (Kd.int .i64).R 3 w base ok v0 x.f0) {v1 : Value} (g1 : k47.R 47 w base ok v1 x.f1) {v2 : Value} (g2 : (Kd.int .i64).R 3 w base ok v2 x.f2) : k54.M w base ok x [v0, v1, v2] := ⟨[v0], [v1, v2], rfl, ⟨v0, rfl, g0⟩, ⟨[v1], [v2], rfl, ⟨v1, rfl, g1⟩, ⟨v2, rfl, g2⟩⟩⟩
def rd_T54 (xs : List S54) (i : Int) : S54 := xs.getD i.toNat z54
theorem at_T54 {w : World} {A : Option Addr} {n : Nat} {xs : List S54} (h : Kd.C k54 w A n xs) (i : Int) (h0 : 0 ≤ i) (h1 : i < n) : ∃ ad A0 c0 A1 c1 A2 c2, A = some ad ∧ w.cell? (ad.add (i.toNat * 3)) = some (.slice A0 (rd_T54 xs i).f0.length c0) ∧ w.cell? ⟨(ad.add (i.toNat * 3)).block, (ad.add (i.toNat * 3)).off + 1, none⟩ = some (.slice A1 (rd_T54 xs i).f1.length c1) ∧ w.cell? ⟨(ad.add (i.toNat * 3)).block, (ad.add (i.toNat * 3)).off + 2, none⟩ = some (.slice A2 (rd_T54 xs i).f2.length c2) ∧ (rd_T54 xs i).f0.length ≤ c0 ∧ (Kd.int .i64).C w A0 (rd_T54 xs i).f0.length (rd_T54 xs i).f0 ∧ (rd_T54 xs i).f1.length ≤ c1 ∧ k47.C w A1 (rd_T54 xs i).f1.length (rd_T54 xs i).f1 ∧ (rd_T54 xs i).f2.length ≤ c2 ∧ (Kd.int .i64).C w A2 (rd_T54 xs i).f2.length (rd_T54 xs i).f2 := by
 obtain ⟨ad, c, e, _, hK, hc0⟩ := Kd.C_get h z54 i h0 h1
 have hc : ∀ j u, c[j]? = some u → w.cell? (ad.add (i.toNat * 3 + j)) = some u := hc0
 obtain ⟨A0, c0, A1, c1, A2, c2, rfl, l0, g0, l1, g1, l2, g2⟩ := k54_open hK
 exact ⟨ad, A0, c0, A1, c1, A2, c2, e, hc 0 _ rfl, by rw [← add_field _ _ 1 (by omega)]; exact hc 1 _ rfl, by rw [← add_field _ _ 2 (by omega)]; exact hc 2 _ rfl, l0, g0, l1, g1, l2, g2⟩
def rd_L8 (xs : List (List S54)) (i : Int) : (List S54) := xs.getD i.toNat ([] : List S54)
theorem at_L8 {w : World} {A : Option Addr} {n : Nat} {xs : List (List S54)} (h : Kd.C (Kd.slice 54 k54) w A n xs) (i : Int) (h0 : 0 ≤ i) (h1 : i < n) : ∃ ad A0 c0, A = some ad ∧ w.cell? (ad.add i.toNat) = some (.slice A0 (rd_L8 xs i).length c0) ∧ (rd_L8 xs i).length ≤ c0 ∧ k54.C w A0 (rd_L8 xs i).length (rd_L8 xs i) := by
 obtain ⟨ad, c, e, _, hK, hc0⟩ := Kd.C_get h ([] : List S54) i h0 h1
 have hc : ∀ j u, c[j]? = some u → w.cell? (ad.add (i.toNat * 1 + j)) = some u := hc0
 obtain ⟨A0, c0, rfl, l0, g0⟩ := hK
 exact ⟨ad, A0, c0, e, by have hq := hc 0 _ rfl; rwa [Nat.mul_one, Nat.add_zero] at hq, l0, g0⟩
def rd_L9 (xs : List (List S49)) (i : Int) : (List S49) := xs.getD i.toNat ([] : List S49)
theorem at_L9 {w : World} {A : Option Addr} {n : Nat} {xs : List (List S49)} (h : Kd.C (Kd.slice 49 k49) w A n xs) (i : Int) (h0 : 0 ≤ i) (h1 : i < n) : ∃ ad A0 c0, A = some ad ∧ w.cell? (ad.add i.toNat) = some (.slice A0 (rd_L9 xs i).length c0) ∧ (rd_L9 xs i).length ≤ c0 ∧ k49.C w A0 (rd_L9 xs i).length (rd_L9 xs i) := by
 obtain ⟨ad, c, e, _, hK, hc0⟩ := Kd.C_get h ([] : List S49) i h0 h1
 have hc : ∀ j u, c[j]? = some u → w.cell? (ad.add (i.toNat * 1 + j)) = some u := hc0
 obtain ⟨A0, c0, rfl, l0, g0⟩ := hK
 exact ⟨ad, A0, c0, e, by have hq := hc 0 _ rfl; rwa [Nat.mul_one, Nat.add_zero] at hq, l0, g0⟩
def impl_within.f (a0 : Int) (a1 : Int) (a2 : Int) : Option (Bool) := if a0 ≥ a1 then (some (decide (a0 ≤ a2))) else (some false)
set_option maxHeartbeats 8000000 in
set_option maxRecDepth 100000 in
theorem impl_within.calls (a0 : Int) (a1 : Int) (a2 : Int) (r : Bool) (w : World) (h : impl_within.f a0 a1 a2 = some r) :
  Calls Try.prog 39 #[.int .i64 a0, .int .i64 a1, .int .i64 a2] w fun e w' => e = .returned (.bool r) ∧ Drawn0 w w' := by
 have H : (if a0 ≥ a1 then (some (decide (a0 ≤ a2))) else (some false)) = some r := h
 clear h
 by_cases c4 : a0 ≥ a1
 ·rw [if_pos c4] at H
  have c4b0 : decide (a1 ≤ a0) = true := decide_eq_true c4
  clear c4
  obtain rfl := oI H
  go_enter Try.func39, Try.ntmps39
  go_wp2
  go_ret
  exact ⟨by first | rfl | (simp; done) | (simp [*]; done), by repeat (first | exact Drawn0.refl _ | apply Drawn0.step)⟩
 ·rw [if_neg c4] at H
  have c4b0 : decide (a1 ≤ a0) = false := decide_eq_false c4
  clear c4
  obtain rfl := oI H
  go_enter Try.func39, Try.ntmps39
  go_wp2
  go_ret
  exact ⟨by first | rfl | (simp; done) | (simp [*]; done), by repeat (first | exact Drawn0.refl _ | apply Drawn0.step)⟩
def spec_l1In.f (a0 : Int) (a1 : Int) (a2 : Int) : Option (Bool) := if a0 ≥ a1 then (some (decide (a0 ≤ a2))) else (some false)
set_option maxHeartbeats 8000000 in
set_option maxRecDepth 100000 in
theorem spec_l1In.calls (a0 : Int) (a1 : Int) (a2 : Int) (r : Bool) (w : World) (h : spec_l1In.f a0 a1 a2 = some r) :
  Calls Try.prog 37 #[.int .i64 a0, .int .i64 a1, .int .i64 a2] w fun e w' => e = .returned (.bool r) ∧ Drawn0 w w' := by
 have H : (if a0 ≥ a1 then (some (decide (a0 ≤ a2))) else (some false)) = some r := h
 clear h
 by_cases c4 : a0 ≥ a1
 ·rw [if_pos c4] at H
  have c4b0 : decide (a1 ≤ a0) = true := decide_eq_true c4
  clear c4
  obtain rfl := oI H
  go_enter Try.func37, Try.ntmps37
  go_wp2
  go_ret
  exact ⟨by first | rfl | (simp; done) | (simp [*]; done), by repeat (first | exact Drawn0.refl _ | apply Drawn0.step)⟩
 ·rw [if_neg c4] at H
  have c4b0 : decide (a1 ≤ a0) = false := decide_eq_false c4
  clear c4
  obtain rfl := oI H
  go_enter Try.func37, Try.ntmps37
  go_wp2
  go_ret
  exact ⟨by first | rfl | (simp; done) | (simp [*]; done), by repeat (first | exact Drawn0.refl _ | apply Drawn0.step)⟩
end Go.Proofs.Ytdeenfpcmaadcaa.Pr
/- Between two bounds. -/
namespace Go.Proofs.Ytdeenfpcmaadcaa.M
open Go.RowKit Go.Proofs.YtdeenfpcmaadcaaW.PrintWords Go.Proofs.Ytdeenfpcmaadcaa.Pr
def inB (n lo hi : Int) : Bool := decide (lo ≤ n ∧ n ≤ hi)
theorem within_eq (n lo hi : Int) : impl_within.f n lo hi = some (inB n lo hi) := by
  unfold impl_within.f inB
  by_cases h : n ≥ lo
  · rw [if_pos h]; congr 1; rw [Bool.eq_iff_iff]; simp; omega
  · rw [if_neg h]; congr 1; rw [Bool.eq_iff_iff]; simp; omega
theorem l1In_eq (n lo hi : Int) : spec_l1In.f n lo hi = some (inB n lo hi) := within_eq n lo hi
/-- Whether there is a star of so many points, with that step. -/
def okStar (n s : Int) : Bool := decide (3 ≤ n ∧ n ≤ 60) && inB s 1 (n - 1)
end Go.Proofs.Ytdeenfpcmaadcaa.M
/- What the reference's srCross computes (by hand: the printed walk is too long for a claim). -/
namespace Go.Proofs.Ytdeenfpcmaadcaa.Pr
open Go.RowKit Go.Proofs.YtdeenfpcmaadcaaW.PrintWords Go.Proofs.YtdeenfpcmaadcaaW.PrintLast Go.Proofs.YtdeenfpcmaadcaaW.PrintMore
theorem two_bools (a b : Bool) : (a = true ∧ b = true) ∨ (a = true ∧ b = false) ∨ a = false := by cases a <;> cases b <;> simp
theorem four_bools (a b c d : Bool) : a = true ∨ (a = false ∧ b = true) ∨ (a = false ∧ b = false ∧ c = true) ∨ (a = false ∧ b = false ∧ c = false ∧ d = true) ∨ (a = false ∧ b = false ∧ c = false ∧ d = false) := by
  cases a <;> cases b <;> cases c <;> cases d <;> simp
def spec_srCross.f (a0_0 : Int) (a0_1 : Int) (a1_0 : Int) (a1_1 : Int) : Option (Bool) :=
  some (((decide (a1_0 > a0_0) && decide (a1_0 < a0_1)) != (decide (a1_1 > a0_0) && decide (a1_1 < a0_1))) && !(a1_0 == a0_0 || (a1_0 == a0_1 || (a1_1 == a0_0 || a1_1 == a0_1))))
set_option maxHeartbeats 8000000 in
set_option maxRecDepth 100000 in
theorem spec_srCross.calls (a0_0 : Int) (a0_1 : Int) (a1_0 : Int) (a1_1 : Int) (r : Bool) (w : World) (h : spec_srCross.f a0_0 a0_1 a1_0 a1_1 = some r) :
    Calls Try.prog 80 #[.agg #[.int .i64 a0_0, .int .i64 a0_1], .agg #[.int .i64 a1_0, .int .i64 a1_1]] w fun e w' => e = .returned (.bool r) ∧ Below w.heap.size w w' := by
  obtain rfl := oI h
  have hu := Try.underlying47
  have hB := Aside0.mk (below_alloc (below_alloc (Below.refl w.heap.size w) (.cells #[.int .i64 a0_0, .int .i64 a0_1] 47)) (.cells #[.int .i64 a1_0, .int .i64 a1_1] 47))
  clear h
  rcases two_bools (decide (a1_0 > a0_0)) (decide (a1_0 < a0_1)) with ⟨e1, e2⟩ | ⟨e1, e2⟩ | e1
  all_goals rcases two_bools (decide (a1_1 > a0_0)) (decide (a1_1 < a0_1)) with ⟨e3, e4⟩ | ⟨e3, e4⟩ | e3
  all_goals rcases four_bools (a1_0 == a0_0) (a1_0 == a0_1) (a1_1 == a0_0) (a1_1 == a0_1) with e5 | ⟨e5, e6⟩ | ⟨e5, e6, e7⟩ | ⟨e5, e6, e7, e8⟩ | ⟨e5, e6, e7, e8⟩
  all_goals
    go_enter Try.func80, Try.ntmps80
    go_wp2
    go_ret
    exact ⟨by simp [*], by first | exact hB.out | repeat (first | exact Below.refl _ _ | apply bA | apply bN | apply bD)⟩
end Go.Proofs.Ytdeenfpcmaadcaa.Pr
namespace Go.Proofs.Ytdeenfpcmaadcaa.Pr
open Go.RowKit Go.Proofs.YtdeenfpcmaadcaaW.PrintWords Go.Proofs.YtdeenfpcmaadcaaW.PrintLast Go.Proofs.YtdeenfpcmaadcaaW.PrintMore
attribute [local go_sem] max2_int min2_int max_two min_two max_three min_three max_four min_four
def spec_srLess.f (a0_0 : Int) (a0_1 : Int) (a1_0 : Int) (a1_1 : Int) : Option (Bool) := if a0_0 < a1_0 then (some true) else (if a0_0 = a1_0 then (some (decide (a0_1 < a1_1))) else (some false))
set_option maxHeartbeats 8000000 in
set_option maxRecDepth 100000 in
theorem spec_srLess.calls (a0_0 : Int) (a0_1 : Int) (a1_0 : Int) (a1_1 : Int) (r : Bool) (w : World) (h : spec_srLess.f a0_0 a0_1 a1_0 a1_1 = some r) :
  Calls Try.prog 71 #[.agg #[.int .i64 a0_0, .int .i64 a0_1], .agg #[.int .i64 a1_0, .int .i64 a1_1]] w fun e w' => e = .returned (.bool r) ∧ Below w.heap.size w w' := by
 have hu47 := Try.underlying47
 have HB := Aside0.mk (Below.refl w.heap.size w)
 have H : (if a0_0 < a1_0 then (some true) else (if a0_0 = a1_0 then (some (decide (a0_1 < a1_1))) else (some false))) = some r := h
 clear h
 by_cases c3 : a0_0 < a1_0
 ·rw [if_pos c3] at H
  have c3b0 : decide (a0_0 < a1_0) = true := decide_eq_true c3
  clear c3
  obtain rfl := oI H
  go_enter Try.func71, Try.ntmps71
  go_wp2_with (first | ((with_reducible refine gate_dst (N := 2) rfl ?_); refine box_event ?hg (N := 2) ?hd (cs := #[.int .i64 a0_0, .int .i64 a0_1]) (t := 47) ?hr ?_; (case hd => rfl); (case hg => rfl); (case hr => first | (go_simp; done) | (go_simp; rfl)); intro gb144 hg w4 hbox hb; have n0_ := Aside0.mk (below_step hb_ hb); have n1_ := Aside0.mk (hbox); have n2_ := Aside0.mk ((by rw [hg]; exact (below_size hb_) : w.heap.size ≤ gb144)); have n3_ := Aside0.mk ((by rw [hg]; exact (below_size hb_) : w.heap.size ≤ gb144)); clear HB; have HB := n0_; have BK144 := n1_; have GW144 := n2_; have GE144 := n3_; clear n0_ n1_ n2_ n3_; clear hb hbox hg) | ((with_reducible refine gate_dst (N := 3) rfl ?_); refine box_event ?hg (N := 3) ?hd (cs := #[.int .i64 a1_0, .int .i64 a1_1]) (t := 47) ?hr ?_; (case hd => rfl); (case hg => rfl); (case hr => first | (go_simp; done) | (go_simp; rfl)); intro gb145 hg w5 hbox hb; have n0_ := Aside0.mk (blk_below (g := gb144) (o := .cells #[.int .i64 a0_0, .int .i64 a0_1] 47 (0, 0)) (kx_ BK144.out) hb); have n1_ := Aside0.mk (below_step (hs_ GE144.out) hb); have n2_ := Aside0.mk (hbox); have n3_ := Aside0.mk ((by rw [hg]; exact (below_size (hs_ GE144.out)) : w.heap.size ≤ gb145)); have n4_ := Aside0.mk ((by rw [hg]; exact (below_size (hs_ GE144.out)) : w.heap.size ≤ gb145)); have n5_ := Aside0.mk ((by rw [hg]; exact Nat.ne_of_lt (blk_lt (g := gb144) (o := .cells #[.int .i64 a0_0, .int .i64 a0_1] 47 (0, 0)) (kx_ BK144.out)) : gb144 ≠ gb145)); have n6_ := Aside0.mk ((by rw [hg]; exact Nat.ne_of_gt (blk_lt (g := gb144) (o := .cells #[.int .i64 a0_0, .int .i64 a0_1] 47 (0, 0)) (kx_ BK144.out)) : gb145 ≠ gb144)); clear BK144; clear HB; have BK144 := n0_; have HB := n1_; have BK145 := n2_; have GW145 := n3_; have GE145 := n4_; have NB144_145 := n5_; have NB145_144 := n6_; clear n0_ n1_ n2_ n3_ n4_ n5_ n6_; clear hb hbox hg; have hnb6 := NB144_145.out; have hnc6 := NB145_144.out; have hcz7_0 : w5.cell? ⟨gb144, 0, none⟩ = some (.int .i64 a0_0) := bc_ BK144 0; have hcz7_1 : w5.cell? ⟨gb144, 1, none⟩ = some (.int .i64 a0_1) := bc_ BK144 1; have hfz7_0 := blk_frozen BK144.out 0; have hfz7_1 := blk_frozen BK144.out 1; have hcz8_0 : w5.cell? ⟨gb145, 0, none⟩ = some (.int .i64 a1_0) := bc_ BK145 0; have hcz8_1 : w5.cell? ⟨gb145, 1, none⟩ = some (.int .i64 a1_1) := bc_ BK145 1; have hfz8_0 := blk_frozen BK145.out 0; have hfz8_1 := blk_frozen BK145.out 1))
  go_ret
  exact ⟨by first | rfl | (simp [errW_none, errW_some] <;> rfl) | (simp [*, errW_none, errW_some] <;> rfl), hm_⟩
 ·rw [if_neg c3] at H
  have c3b0 : decide (a0_0 < a1_0) = false := decide_eq_false c3
  clear c3
  by_cases c9 : a0_0 = a1_0
  ·rw [if_pos c9] at H
   have c9b0 : (a0_0 == a1_0) = true := beq_iff_eq.mpr c9
   have c9b1 : (a0_0 != a1_0) = false := bne_eq_false_iff_eq.mpr c9
   clear c9
   obtain rfl := oI H
   go_enter Try.func71, Try.ntmps71
   go_wp2_with (first | ((with_reducible refine gate_dst (N := 2) rfl ?_); refine box_event ?hg (N := 2) ?hd (cs := #[.int .i64 a0_0, .int .i64 a0_1]) (t := 47) ?hr ?_; (case hd => rfl); (case hg => rfl); (case hr => first | (go_simp; done) | (go_simp; rfl)); intro gb144 hg w10 hbox hb; have n0_ := Aside0.mk (below_step hb_ hb); have n1_ := Aside0.mk (hbox); have n2_ := Aside0.mk ((by rw [hg]; exact (below_size hb_) : w.heap.size ≤ gb144)); have n3_ := Aside0.mk ((by rw [hg]; exact (below_size hb_) : w.heap.size ≤ gb144)); clear HB; have HB := n0_; have BK144 := n1_; have GW144 := n2_; have GE144 := n3_; clear n0_ n1_ n2_ n3_; clear hb hbox hg) | ((with_reducible refine gate_dst (N := 3) rfl ?_); refine box_event ?hg (N := 3) ?hd (cs := #[.int .i64 a1_0, .int .i64 a1_1]) (t := 47) ?hr ?_; (case hd => rfl); (case hg => rfl); (case hr => first | (go_simp; done) | (go_simp; rfl)); intro gb145 hg w11 hbox hb; have n0_ := Aside0.mk (blk_below (g := gb144) (o := .cells #[.int .i64 a0_0, .int .i64 a0_1] 47 (0, 0)) (kx_ BK144.out) hb); have n1_ := Aside0.mk (below_step (hs_ GE144.out) hb); have n2_ := Aside0.mk (hbox); have n3_ := Aside0.mk ((by rw [hg]; exact (below_size (hs_ GE144.out)) : w.heap.size ≤ gb145)); have n4_ := Aside0.mk ((by rw [hg]; exact (below_size (hs_ GE144.out)) : w.heap.size ≤ gb145)); have n5_ := Aside0.mk ((by rw [hg]; exact Nat.ne_of_lt (blk_lt (g := gb144) (o := .cells #[.int .i64 a0_0, .int .i64 a0_1] 47 (0, 0)) (kx_ BK144.out)) : gb144 ≠ gb145)); have n6_ := Aside0.mk ((by rw [hg]; exact Nat.ne_of_gt (blk_lt (g := gb144) (o := .cells #[.int .i64 a0_0, .int .i64 a0_1] 47 (0, 0)) (kx_ BK144.out)) : gb145 ≠ gb144)); clear BK144; clear HB; have BK144 := n0_; have HB := n1_; have BK145 := n2_; have GW145 := n3_; have GE145 := n4_; have NB144_145 := n5_; have NB145_144 := n6_; clear n0_ n1_ n2_ n3_ n4_ n5_ n6_; clear hb hbox hg; have hnb12 := NB144_145.out; have hnc12 := NB145_144.out; have hcz13_0 : w11.cell? ⟨gb144, 0, none⟩ = some (.int .i64 a0_0) := bc_ BK144 0; have hcz13_1 : w11.cell? ⟨gb144, 1, none⟩ = some (.int .i64 a0_1) := bc_ BK144 1; have hfz13_0 := blk_frozen BK144.out 0; have hfz13_1 := blk_frozen BK144.out 1; have hcz14_0 : w11.cell? ⟨gb145, 0, none⟩ = some (.int .i64 a1_0) := bc_ BK145 0; have hcz14_1 : w11.cell? ⟨gb145, 1, none⟩ = some (.int .i64 a1_1) := bc_ BK145 1; have hfz14_0 := blk_frozen BK145.out 0; have hfz14_1 := blk_frozen BK145.out 1))
   go_ret
   exact ⟨by first | rfl | (simp [errW_none, errW_some] <;> rfl) | (simp [*, errW_none, errW_some] <;> rfl), hm_⟩
  ·rw [if_neg c9] at H
   have c9b0 : (a0_0 == a1_0) = false := beq_eq_false_iff_ne.mpr c9
   have c9b1 : (a0_0 != a1_0) = true := bne_iff_ne.mpr c9
   obtain rfl := oI H
   go_enter Try.func71, Try.ntmps71
   go_wp2_with (first | ((with_reducible refine gate_dst (N := 2) rfl ?_); refine box_event ?hg (N := 2) ?hd (cs := #[.int .i64 a0_0, .int .i64 a0_1]) (t := 47) ?hr ?_; (case hd => rfl); (case hg => rfl); (case hr => first | (go_simp; done) | (go_simp; rfl)); intro gb144 hg w15 hbox hb; have n0_ := Aside0.mk (below_step hb_ hb); have n1_ := Aside0.mk (hbox); have n2_ := Aside0.mk ((by rw [hg]; exact (below_size hb_) : w.heap.size ≤ gb144)); have n3_ := Aside0.mk ((by rw [hg]; exact (below_size hb_) : w.heap.size ≤ gb144)); clear HB; have HB := n0_; have BK144 := n1_; have GW144 := n2_; have GE144 := n3_; clear n0_ n1_ n2_ n3_; clear hb hbox hg) | ((with_reducible refine gate_dst (N := 3) rfl ?_); refine box_event ?hg (N := 3) ?hd (cs := #[.int .i64 a1_0, .int .i64 a1_1]) (t := 47) ?hr ?_; (case hd => rfl); (case hg => rfl); (case hr => first | (go_simp; done) | (go_simp; rfl)); intro gb145 hg w16 hbox hb; have n0_ := Aside0.mk (blk_below (g := gb144) (o := .cells #[.int .i64 a0_0, .int .i64 a0_1] 47 (0, 0)) (kx_ BK144.out) hb); have n1_ := Aside0.mk (below_step (hs_ GE144.out) hb); have n2_ := Aside0.mk (hbox); have n3_ := Aside0.mk ((by rw [hg]; exact (below_size (hs_ GE144.out)) : w.heap.size ≤ gb145)); have n4_ := Aside0.mk ((by rw [hg]; exact (below_size (hs_ GE144.out)) : w.heap.size ≤ gb145)); have n5_ := Aside0.mk ((by rw [hg]; exact Nat.ne_of_lt (blk_lt (g := gb144) (o := .cells #[.int .i64 a0_0, .int .i64 a0_1] 47 (0, 0)) (kx_ BK144.out)) : gb144 ≠ gb145)); have n6_ := Aside0.mk ((by rw [hg]; exact Nat.ne_of_gt (blk_lt (g := gb144) (o := .cells #[.int .i64 a0_0, .int .i64 a0_1] 47 (0, 0)) (kx_ BK144.out)) : gb145 ≠ gb144)); clear BK144; clear HB; have BK144 := n0_; have HB := n1_; have BK145 := n2_; have GW145 := n3_; have GE145 := n4_; have NB144_145 := n5_; have NB145_144 := n6_; clear n0_ n1_ n2_ n3_ n4_ n5_ n6_; clear hb hbox hg; have hnb17 := NB144_145.out; have hnc17 := NB145_144.out; have hcz18_0 : w16.cell? ⟨gb144, 0, none⟩ = some (.int .i64 a0_0) := bc_ BK144 0; have hcz18_1 : w16.cell? ⟨gb144, 1, none⟩ = some (.int .i64 a0_1) := bc_ BK144 1; have hfz18_0 := blk_frozen BK144.out 0; have hfz18_1 := blk_frozen BK144.out 1; have hcz19_0 : w16.cell? ⟨gb145, 0, none⟩ = some (.int .i64 a1_0) := bc_ BK145 0; have hcz19_1 : w16.cell? ⟨gb145, 1, none⟩ = some (.int .i64 a1_1) := bc_ BK145 1; have hfz19_0 := blk_frozen BK145.out 0; have hfz19_1 := blk_frozen BK145.out 1))
   go_ret
   exact ⟨by first | rfl | (simp [errW_none, errW_some] <;> rfl) | (simp [*, errW_none, errW_some] <;> rfl), hm_⟩
def impl_crossing.f (a0_0 : Int) (a0_1 : Int) (a1_0 : Int) (a1_1 : Int) : Option (Bool) := if a0_0 < a1_0 then (if a1_0 < a0_1 then (if a0_1 < a1_1 then (some true) else (if a1_0 < a0_0 then (if a0_0 < a1_1 then (some (decide (a1_1 < a0_1))) else (some false)) else (some false))) else (if a1_0 < a0_0 then (if a0_0 < a1_1 then (some (decide (a1_1 < a0_1))) else (some false)) else (some false))) else (if a1_0 < a0_0 then (if a0_0 < a1_1 then (some (decide (a1_1 < a0_1))) else (some false)) else (some false))
set_option maxHeartbeats 8000000 in
set_option maxRecDepth 100000 in
theorem impl_crossing.calls (a0_0 : Int) (a0_1 : Int) (a1_0 : Int) (a1_1 : Int) (r : Bool) (w : World) (h : impl_crossing.f a0_0 a0_1 a1_0 a1_1 = some r) :
  Calls Try.prog 94 #[.agg #[.int .i64 a0_0, .int .i64 a0_1], .agg #[.int .i64 a1_0, .int .i64 a1_1]] w fun e w' => e = .returned (.bool r) ∧ Below w.heap.size w w' := by
 have hu47 := Try.underlying47
 have HB := Aside0.mk (Below.refl w.heap.size w)
 have H : (if a0_0 < a1_0 then (if a1_0 < a0_1 then (if a0_1 < a1_1 then (some true) else (if a1_0 < a0_0 then (if a0_0 < a1_1 then (some (decide (a1_1 < a0_1))) else (some false)) else (some false))) else (if a1_0 < a0_0 then (if a0_0 < a1_1 then (some (decide (a1_1 < a0_1))) else (some false)) else (some false))) else (if a1_0 < a0_0 then (if a0_0 < a1_1 then (some (decide (a1_1 < a0_1))) else (some false)) else (some false))) = some r := h
 clear h
 by_cases c3 : a0_0 < a1_0
 ·rw [if_pos c3] at H
  have c3b0 : decide (a0_0 < a1_0) = true := decide_eq_true c3
  clear c3
  by_cases c4 : a1_0 < a0_1
  ·rw [if_pos c4] at H
   have c4b0 : decide (a1_0 < a0_1) = true := decide_eq_true c4
   clear c4
   by_cases c5 : a0_1 < a1_1
   ·rw [if_pos c5] at H
    have c5b0 : decide (a0_1 < a1_1) = true := decide_eq_true c5
    clear c5
    obtain rfl := oI H
    go_enter Try.func94, Try.ntmps94
    go_wp2_with (first | ((with_reducible refine gate_dst (N := 2) rfl ?_); refine box_event ?hg (N := 2) ?hd (cs := #[.int .i64 a0_0, .int .i64 a0_1]) (t := 47) ?hr ?_; (case hd => rfl); (case hg => rfl); (case hr => first | (go_simp; done) | (go_simp; rfl)); intro gb112 hg w6 hbox hb; have n0_ := Aside0.mk (below_step hb_ hb); have n1_ := Aside0.mk (hbox); have n2_ := Aside0.mk ((by rw [hg]; exact (below_size hb_) : w.heap.size ≤ gb112)); have n3_ := Aside0.mk ((by rw [hg]; exact (below_size hb_) : w.heap.size ≤ gb112)); clear HB; have HB := n0_; have BK112 := n1_; have GW112 := n2_; have GE112 := n3_; clear n0_ n1_ n2_ n3_; clear hb hbox hg) | ((with_reducible refine gate_dst (N := 3) rfl ?_); refine box_event ?hg (N := 3) ?hd (cs := #[.int .i64 a1_0, .int .i64 a1_1]) (t := 47) ?hr ?_; (case hd => rfl); (case hg => rfl); (case hr => first | (go_simp; done) | (go_simp; rfl)); intro gb113 hg w7 hbox hb; have n0_ := Aside0.mk (blk_below (g := gb112) (o := .cells #[.int .i64 a0_0, .int .i64 a0_1] 47 (0, 0)) (kx_ BK112.out) hb); have n1_ := Aside0.mk (below_step (hs_ GE112.out) hb); have n2_ := Aside0.mk (hbox); have n3_ := Aside0.mk ((by rw [hg]; exact (below_size (hs_ GE112.out)) : w.heap.size ≤ gb113)); have n4_ := Aside0.mk ((by rw [hg]; exact (below_size (hs_ GE112.out)) : w.heap.size ≤ gb113)); have n5_ := Aside0.mk ((by rw [hg]; exact Nat.ne_of_lt (blk_lt (g := gb112) (o := .cells #[.int .i64 a0_0, .int .i64 a0_1] 47 (0, 0)) (kx_ BK112.out)) : gb112 ≠ gb113)); have n6_ := Aside0.mk ((by rw [hg]; exact Nat.ne_of_gt (blk_lt (g := gb112) (o := .cells #[.int .i64 a0_0, .int .i64 a0_1] 47 (0, 0)) (kx_ BK112.out)) : gb113 ≠ gb112)); clear BK112; clear HB; have BK112 := n0_; have HB := n1_; have BK113 := n2_; have GW113 := n3_; have GE113 := n4_; have NB112_113 := n5_; have NB113_112 := n6_; clear n0_ n1_ n2_ n3_ n4_ n5_ n6_; clear hb hbox hg; have hnb8 := NB112_113.out; have hnc8 := NB113_112.out; have hcz9_0 : w7.cell? ⟨gb112, 0, none⟩ = some (.int .i64 a0_0) := bc_ BK112 0; have hcz9_1 : w7.cell? ⟨gb112, 1, none⟩ = some (.int .i64 a0_1) := bc_ BK112 1; have hfz9_0 := blk_frozen BK112.out 0; have hfz9_1 := blk_frozen BK112.out 1; have hcz10_0 : w7.cell? ⟨gb113, 0, none⟩ = some (.int .i64 a1_0) := bc_ BK113 0; have hcz10_1 : w7.cell? ⟨gb113, 1, none⟩ = some (.int .i64 a1_1) := bc_ BK113 1; have hfz10_0 := blk_frozen BK113.out 0; have hfz10_1 := blk_frozen BK113.out 1))
    go_ret
    exact ⟨by first | rfl | (simp [errW_none, errW_some] <;> rfl) | (simp [*, errW_none, errW_some] <;> rfl), hm_⟩
   ·rw [if_neg c5] at H
    have c5b0 : decide (a0_1 < a1_1) = false := decide_eq_false c5
    clear c5
    by_cases c11 : a1_0 < a0_0
    ·rw [if_pos c11] at H
     have c11b0 : decide (a1_0 < a0_0) = true := decide_eq_true c11
     clear c11
     by_cases c12 : a0_0 < a1_1
     ·rw [if_pos c12] at H
      have c12b0 : decide (a0_0 < a1_1) = true := decide_eq_true c12
      clear c12
      obtain rfl := oI H
      go_enter Try.func94, Try.ntmps94
      go_wp2_with (first | ((with_reducible refine gate_dst (N := 2) rfl ?_); refine box_event ?hg (N := 2) ?hd (cs := #[.int .i64 a0_0, .int .i64 a0_1]) (t := 47) ?hr ?_; (case hd => rfl); (case hg => rfl); (case hr => first | (go_simp; done) | (go_simp; rfl)); intro gb112 hg w13 hbox hb; have n0_ := Aside0.mk (below_step hb_ hb); have n1_ := Aside0.mk (hbox); have n2_ := Aside0.mk ((by rw [hg]; exact (below_size hb_) : w.heap.size ≤ gb112)); have n3_ := Aside0.mk ((by rw [hg]; exact (below_size hb_) : w.heap.size ≤ gb112)); clear HB; have HB := n0_; have BK112 := n1_; have GW112 := n2_; have GE112 := n3_; clear n0_ n1_ n2_ n3_; clear hb hbox hg) | ((with_reducible refine gate_dst (N := 3) rfl ?_); refine box_event ?hg (N := 3) ?hd (cs := #[.int .i64 a1_0, .int .i64 a1_1]) (t := 47) ?hr ?_; (case hd => rfl); (case hg => rfl); (case hr => first | (go_simp; done) | (go_simp; rfl)); intro gb113 hg w14 hbox hb; have n0_ := Aside0.mk (blk_below (g := gb112) (o := .cells #[.int .i64 a0_0, .int .i64 a0_1] 47 (0, 0)) (kx_ BK112.out) hb); have n1_ := Aside0.mk (below_step (hs_ GE112.out) hb); have n2_ := Aside0.mk (hbox); have n3_ := Aside0.mk ((by rw [hg]; exact (below_size (hs_ GE112.out)) : w.heap.size ≤ gb113)); have n4_ := Aside0.mk ((by rw [hg]; exact (below_size (hs_ GE112.out)) : w.heap.size ≤ gb113)); have n5_ := Aside0.mk ((by rw [hg]; exact Nat.ne_of_lt (blk_lt (g := gb112) (o := .cells #[.int .i64 a0_0, .int .i64 a0_1] 47 (0, 0)) (kx_ BK112.out)) : gb112 ≠ gb113)); have n6_ := Aside0.mk ((by rw [hg]; exact Nat.ne_of_gt (blk_lt (g := gb112) (o := .cells #[.int .i64 a0_0, .int .i64 a0_1] 47 (0, 0)) (kx_ BK112.out)) : gb113 ≠ gb112)); clear BK112; clear HB; have BK112 := n0_; have HB := n1_; have BK113 := n2_; have GW113 := n3_; have GE113 := n4_; have NB112_113 := n5_; have NB113_112 := n6_; clear n0_ n1_ n2_ n3_ n4_ n5_ n6_; clear hb hbox hg; have hnb15 := NB112_113.out; have hnc15 := NB113_112.out; have hcz16_0 : w14.cell? ⟨gb112, 0, none⟩ = some (.int .i64 a0_0) := bc_ BK112 0; have hcz16_1 : w14.cell? ⟨gb112, 1, none⟩ = some (.int .i64 a0_1) := bc_ BK112 1; have hfz16_0 := blk_frozen BK112.out 0; have hfz16_1 := blk_frozen BK112.out 1; have hcz17_0 : w14.cell? ⟨gb113, 0, none⟩ = some (.int .i64 a1_0) := bc_ BK113 0; have hcz17_1 : w14.cell? ⟨gb113, 1, none⟩ = some (.int .i64 a1_1) := bc_ BK113 1; have hfz17_0 := blk_frozen BK113.out 0; have hfz17_1 := blk_frozen BK113.out 1))
      go_ret
      exact ⟨by first | rfl | (simp [errW_none, errW_some] <;> rfl) | (simp [*, errW_none, errW_some] <;> rfl), hm_⟩
     ·rw [if_neg c12] at H
      have c12b0 : decide (a0_0 < a1_1) = false := decide_eq_false c12
      clear c12
      obtain rfl := oI H
      go_enter Try.func94, Try.ntmps94
      go_wp2_with (first | ((with_reducible refine gate_dst (N := 2) rfl ?_); refine box_event ?hg (N := 2) ?hd (cs := #[.int .i64 a0_0, .int .i64 a0_1]) (t := 47) ?hr ?_; (case hd => rfl); (case hg => rfl); (case hr => first | (go_simp; done) | (go_simp; rfl)); intro gb112 hg w18 hbox hb; have n0_ := Aside0.mk (below_step hb_ hb); have n1_ := Aside0.mk (hbox); have n2_ := Aside0.mk ((by rw [hg]; exact (below_size hb_) : w.heap.size ≤ gb112)); have n3_ := Aside0.mk ((by rw [hg]; exact (below_size hb_) : w.heap.size ≤ gb112)); clear HB; have HB := n0_; have BK112 := n1_; have GW112 := n2_; have GE112 := n3_; clear n0_ n1_ n2_ n3_; clear hb hbox hg) | ((with_reducible refine gate_dst (N := 3) rfl ?_); refine box_event ?hg (N := 3) ?hd (cs := #[.int .i64 a1_0, .int .i64 a1_1]) (t := 47) ?hr ?_; (case hd => rfl); (case hg => rfl); (case hr => first | (go_simp; done) | (go_simp; rfl)); intro gb113 hg w19 hbox hb; have n0_ := Aside0.mk (blk_below (g := gb112) (o := .cells #[.int .i64 a0_0, .int .i64 a0_1] 47 (0, 0)) (kx_ BK112.out) hb); have n1_ := Aside0.mk (below_step (hs_ GE112.out) hb); have n2_ := Aside0.mk (hbox); have n3_ := Aside0.mk ((by rw [hg]; exact (below_size (hs_ GE112.out)) : w.heap.size ≤ gb113)); have n4_ := Aside0.mk ((by rw [hg]; exact (below_size (hs_ GE112.out)) : w.heap.size ≤ gb113)); have n5_ := Aside0.mk ((by rw [hg]; exact Nat.ne_of_lt (blk_lt (g := gb112) (o := .cells #[.int .i64 a0_0, .int .i64 a0_1] 47 (0, 0)) (kx_ BK112.out)) : gb112 ≠ gb113)); have n6_ := Aside0.mk ((by rw [hg]; exact Nat.ne_of_gt (blk_lt (g := gb112) (o := .cells #[.int .i64 a0_0, .int .i64 a0_1] 47 (0, 0)) (kx_ BK112.out)) : gb113 ≠ gb112)); clear BK112; clear HB; have BK112 := n0_; have HB := n1_; have BK113 := n2_; have GW113 := n3_; have GE113 := n4_; have NB112_113 := n5_; have NB113_112 := n6_; clear n0_ n1_ n2_ n3_ n4_ n5_ n6_; clear hb hbox hg; have hnb20 := NB112_113.out; have hnc20 := NB113_112.out; have hcz21_0 : w19.cell? ⟨gb112, 0, none⟩ = some (.int .i64 a0_0) := bc_ BK112 0; have hcz21_1 : w19.cell? ⟨gb112, 1, none⟩ = some (.int .i64 a0_1) := bc_ BK112 1; have hfz21_0 := blk_frozen BK112.out 0; have hfz21_1 := blk_frozen BK112.out 1; have hcz22_0 : w19.cell? ⟨gb113, 0, none⟩ = some (.int .i64 a1_0) := bc_ BK113 0; have hcz22_1 : w19.cell? ⟨gb113, 1, none⟩ = some (.int .i64 a1_1) := bc_ BK113 1; have hfz22_0 := blk_frozen BK113.out 0; have hfz22_1 := blk_frozen BK113.out 1))
      go_ret
      exact ⟨by first | rfl | (simp [errW_none, errW_some] <;> rfl) | (simp [*, errW_none, errW_some] <;> rfl), hm_⟩
    ·rw [if_neg c11] at H
     have c11b0 : decide (a1_0 < a0_0) = false := decide_eq_false c11
     clear c11
     obtain rfl := oI H
     go_enter Try.func94, Try.ntmps94
     go_wp2_with (first | ((with_reducible refine gate_dst (N := 2) rfl ?_); refine box_event ?hg (N := 2) ?hd (cs := #[.int .i64 a0_0, .int .i64 a0_1]) (t := 47) ?hr ?_; (case hd => rfl); (case hg => rfl); (case hr => first | (go_simp; done) | (go_simp; rfl)); intro gb112 hg w23 hbox hb; have n0_ := Aside0.mk (below_step hb_ hb); have n1_ := Aside0.mk (hbox); have n2_ := Aside0.mk ((by rw [hg]; exact (below_size hb_) : w.heap.size ≤ gb112)); have n3_ := Aside0.mk ((by rw [hg]; exact (below_size hb_) : w.heap.size ≤ gb112)); clear HB; have HB := n0_; have BK112 := n1_; have GW112 := n2_; have GE112 := n3_; clear n0_ n1_ n2_ n3_; clear hb hbox hg) | ((with_reducible refine gate_dst (N := 3) rfl ?_); refine box_event ?hg (N := 3) ?hd (cs := #[.int .i64 a1_0, .int .i64 a1_1]) (t := 47) ?hr ?_; (case hd => rfl); (case hg => rfl); (case hr => first | (go_simp; done) | (go_simp; rfl)); intro gb113 hg w24 hbox hb; have n0_ := Aside0.mk (blk_below (g := gb112) (o := .cells #[.int .i64 a0_0, .int .i64 a0_1] 47 (0, 0)) (kx_ BK112.out) hb); have n1_ := Aside0.mk (below_step (hs_ GE112.out) hb); have n2_ := Aside0.mk (hbox); have n3_ := Aside0.mk ((by rw [hg]; exact (below_size (hs_ GE112.out)) : w.heap.size ≤ gb113)); have n4_ := Aside0.mk ((by rw [hg]; exact (below_size (hs_ GE112.out)) : w.heap.size ≤ gb113)); have n5_ := Aside0.mk ((by rw [hg]; exact Nat.ne_of_lt (blk_lt (g := gb112) (o := .cells #[.int .i64 a0_0, .int .i64 a0_1] 47 (0, 0)) (kx_ BK112.out)) : gb112 ≠ gb113)); have n6_ := Aside0.mk ((by rw [hg]; exact Nat.ne_of_gt (blk_lt (g := gb112) (o := .cells #[.int .i64 a0_0, .int .i64 a0_1] 47 (0, 0)) (kx_ BK112.out)) : gb113 ≠ gb112)); clear BK112; clear HB; have BK112 := n0_; have HB := n1_; have BK113 := n2_; have GW113 := n3_; have GE113 := n4_; have NB112_113 := n5_; have NB113_112 := n6_; clear n0_ n1_ n2_ n3_ n4_ n5_ n6_; clear hb hbox hg; have hnb25 := NB112_113.out; have hnc25 := NB113_112.out; have hcz26_0 : w24.cell? ⟨gb112, 0, none⟩ = some (.int .i64 a0_0) := bc_ BK112 0; have hcz26_1 : w24.cell? ⟨gb112, 1, none⟩ = some (.int .i64 a0_1) := bc_ BK112 1; have hfz26_0 := blk_frozen BK112.out 0; have hfz26_1 := blk_frozen BK112.out 1; have hcz27_0 : w24.cell? ⟨gb113, 0, none⟩ = some (.int .i64 a1_0) := bc_ BK113 0; have hcz27_1 : w24.cell? ⟨gb113, 1, none⟩ = some (.int .i64 a1_1) := bc_ BK113 1; have hfz27_0 := blk_frozen BK113.out 0; have hfz27_1 := blk_frozen BK113.out 1))
     go_ret
     exact ⟨by first | rfl | (simp [errW_none, errW_some] <;> rfl) | (simp [*, errW_none, errW_some] <;> rfl), hm_⟩
  ·rw [if_neg c4] at H
   have c4b0 : decide (a1_0 < a0_1) = false := decide_eq_false c4
   clear c4
   by_cases c28 : a1_0 < a0_0
   ·rw [if_pos c28] at H
    have c28b0 : decide (a1_0 < a0_0) = true := decide_eq_true c28
    clear c28
    by_cases c29 : a0_0 < a1_1
    ·rw [if_pos c29] at H
     have c29b0 : decide (a0_0 < a1_1) = true := decide_eq_true c29
     clear c29
     obtain rfl := oI H
     go_enter Try.func94, Try.ntmps94
     go_wp2_with (first | ((with_reducible refine gate_dst (N := 2) rfl ?_); refine box_event ?hg (N := 2) ?hd (cs := #[.int .i64 a0_0, .int .i64 a0_1]) (t := 47) ?hr ?_; (case hd => rfl); (case hg => rfl); (case hr => first | (go_simp; done) | (go_simp; rfl)); intro gb112 hg w30 hbox hb; have n0_ := Aside0.mk (below_step hb_ hb); have n1_ := Aside0.mk (hbox); have n2_ := Aside0.mk ((by rw [hg]; exact (below_size hb_) : w.heap.size ≤ gb112)); have n3_ := Aside0.mk ((by rw [hg]; exact (below_size hb_) : w.heap.size ≤ gb112)); clear HB; have HB := n0_; have BK112 := n1_; have GW112 := n2_; have GE112 := n3_; clear n0_ n1_ n2_ n3_; clear hb hbox hg) | ((with_reducible refine gate_dst (N := 3) rfl ?_); refine box_event ?hg (N := 3) ?hd (cs := #[.int .i64 a1_0, .int .i64 a1_1]) (t := 47) ?hr ?_; (case hd => rfl); (case hg => rfl); (case hr => first | (go_simp; done) | (go_simp; rfl)); intro gb113 hg w31 hbox hb; have n0_ := Aside0.mk (blk_below (g := gb112) (o := .cells #[.int .i64 a0_0, .int .i64 a0_1] 47 (0, 0)) (kx_ BK112.out) hb); have n1_ := Aside0.mk (below_step (hs_ GE112.out) hb); have n2_ := Aside0.mk (hbox); have n3_ := Aside0.mk ((by rw [hg]; exact (below_size (hs_ GE112.out)) : w.heap.size ≤ gb113)); have n4_ := Aside0.mk ((by rw [hg]; exact (below_size (hs_ GE112.out)) : w.heap.size ≤ gb113)); have n5_ := Aside0.mk ((by rw [hg]; exact Nat.ne_of_lt (blk_lt (g := gb112) (o := .cells #[.int .i64 a0_0, .int .i64 a0_1] 47 (0, 0)) (kx_ BK112.out)) : gb112 ≠ gb113)); have n6_ := Aside0.mk ((by rw [hg]; exact Nat.ne_of_gt (blk_lt (g := gb112) (o := .cells #[.int .i64 a0_0, .int .i64 a0_1] 47 (0, 0)) (kx_ BK112.out)) : gb113 ≠ gb112)); clear BK112; clear HB; have BK112 := n0_; have HB := n1_; have BK113 := n2_; have GW113 := n3_; have GE113 := n4_; have NB112_113 := n5_; have NB113_112 := n6_; clear n0_ n1_ n2_ n3_ n4_ n5_ n6_; clear hb hbox hg; have hnb32 := NB112_113.out; have hnc32 := NB113_112.out; have hcz33_0 : w31.cell? ⟨gb112, 0, none⟩ = some (.int .i64 a0_0) := bc_ BK112 0; have hcz33_1 : w31.cell? ⟨gb112, 1, none⟩ = some (.int .i64 a0_1) := bc_ BK112 1; have hfz33_0 := blk_frozen BK112.out 0; have hfz33_1 := blk_frozen BK112.out 1; have hcz34_0 : w31.cell? ⟨gb113, 0, none⟩ = some (.int .i64 a1_0) := bc_ BK113 0; have hcz34_1 : w31.cell? ⟨gb113, 1, none⟩ = some (.int .i64 a1_1) := bc_ BK113 1; have hfz34_0 := blk_frozen BK113.out 0; have hfz34_1 := blk_frozen BK113.out 1))
     go_ret
     exact ⟨by first | rfl | (simp [errW_none, errW_some] <;> rfl) | (simp [*, errW_none, errW_some] <;> rfl), hm_⟩
    ·rw [if_neg c29] at H
     have c29b0 : decide (a0_0 < a1_1) = false := decide_eq_false c29
     clear c29
     obtain rfl := oI H
     go_enter Try.func94, Try.ntmps94
     go_wp2_with (first | ((with_reducible refine gate_dst (N := 2) rfl ?_); refine box_event ?hg (N := 2) ?hd (cs := #[.int .i64 a0_0, .int .i64 a0_1]) (t := 47) ?hr ?_; (case hd => rfl); (case hg => rfl); (case hr => first | (go_simp; done) | (go_simp; rfl)); intro gb112 hg w35 hbox hb; have n0_ := Aside0.mk (below_step hb_ hb); have n1_ := Aside0.mk (hbox); have n2_ := Aside0.mk ((by rw [hg]; exact (below_size hb_) : w.heap.size ≤ gb112)); have n3_ := Aside0.mk ((by rw [hg]; exact (below_size hb_) : w.heap.size ≤ gb112)); clear HB; have HB := n0_; have BK112 := n1_; have GW112 := n2_; have GE112 := n3_; clear n0_ n1_ n2_ n3_; clear hb hbox hg) | ((with_reducible refine gate_dst (N := 3) rfl ?_); refine box_event ?hg (N := 3) ?hd (cs := #[.int .i64 a1_0, .int .i64 a1_1]) (t := 47) ?hr ?_; (case hd => rfl); (case hg => rfl); (case hr => first | (go_simp; done) | (go_simp; rfl)); intro gb113 hg w36 hbox hb; have n0_ := Aside0.mk (blk_below (g := gb112) (o := .cells #[.int .i64 a0_0, .int .i64 a0_1] 47 (0, 0)) (kx_ BK112.out) hb); have n1_ := Aside0.mk (below_step (hs_ GE112.out) hb); have n2_ := Aside0.mk (hbox); have n3_ := Aside0.mk ((by rw [hg]; exact (below_size (hs_ GE112.out)) : w.heap.size ≤ gb113)); have n4_ := Aside0.mk ((by rw [hg]; exact (below_size (hs_ GE112.out)) : w.heap.size ≤ gb113)); have n5_ := Aside0.mk ((by rw [hg]; exact Nat.ne_of_lt (blk_lt (g := gb112) (o := .cells #[.int .i64 a0_0, .int .i64 a0_1] 47 (0, 0)) (kx_ BK112.out)) : gb112 ≠ gb113)); have n6_ := Aside0.mk ((by rw [hg]; exact Nat.ne_of_gt (blk_lt (g := gb112) (o := .cells #[.int .i64 a0_0, .int .i64 a0_1] 47 (0, 0)) (kx_ BK112.out)) : gb113 ≠ gb112)); clear BK112; clear HB; have BK112 := n0_; have HB := n1_; have BK113 := n2_; have GW113 := n3_; have GE113 := n4_; have NB112_113 := n5_; have NB113_112 := n6_; clear n0_ n1_ n2_ n3_ n4_ n5_ n6_; clear hb hbox hg; have hnb37 := NB112_113.out; have hnc37 := NB113_112.out; have hcz38_0 : w36.cell? ⟨gb112, 0, none⟩ = some (.int .i64 a0_0) := bc_ BK112 0; have hcz38_1 : w36.cell? ⟨gb112, 1, none⟩ = some (.int .i64 a0_1) := bc_ BK112 1; have hfz38_0 := blk_frozen BK112.out 0; have hfz38_1 := blk_frozen BK112.out 1; have hcz39_0 : w36.cell? ⟨gb113, 0, none⟩ = some (.int .i64 a1_0) := bc_ BK113 0; have hcz39_1 : w36.cell? ⟨gb113, 1, none⟩ = some (.int .i64 a1_1) := bc_ BK113 1; have hfz39_0 := blk_frozen BK113.out 0; have hfz39_1 := blk_frozen BK113.out 1))
     go_ret
     exact ⟨by first | rfl | (simp [errW_none, errW_some] <;> rfl) | (simp [*, errW_none, errW_some] <;> rfl), hm_⟩
   ·rw [if_neg c28] at H
    have c28b0 : decide (a1_0 < a0_0) = false := decide_eq_false c28
    clear c28
    obtain rfl := oI H
    go_enter Try.func94, Try.ntmps94
    go_wp2_with (first | ((with_reducible refine gate_dst (N := 2) rfl ?_); refine box_event ?hg (N := 2) ?hd (cs := #[.int .i64 a0_0, .int .i64 a0_1]) (t := 47) ?hr ?_; (case hd => rfl); (case hg => rfl); (case hr => first | (go_simp; done) | (go_simp; rfl)); intro gb112 hg w40 hbox hb; have n0_ := Aside0.mk (below_step hb_ hb); have n1_ := Aside0.mk (hbox); have n2_ := Aside0.mk ((by rw [hg]; exact (below_size hb_) : w.heap.size ≤ gb112)); have n3_ := Aside0.mk ((by rw [hg]; exact (below_size hb_) : w.heap.size ≤ gb112)); clear HB; have HB := n0_; have BK112 := n1_; have GW112 := n2_; have GE112 := n3_; clear n0_ n1_ n2_ n3_; clear hb hbox hg) | ((with_reducible refine gate_dst (N := 3) rfl ?_); refine box_event ?hg (N := 3) ?hd (cs := #[.int .i64 a1_0, .int .i64 a1_1]) (t := 47) ?hr ?_; (case hd => rfl); (case hg => rfl); (case hr => first | (go_simp; done) | (go_simp; rfl)); intro gb113 hg w41 hbox hb; have n0_ := Aside0.mk (blk_below (g := gb112) (o := .cells #[.int .i64 a0_0, .int .i64 a0_1] 47 (0, 0)) (kx_ BK112.out) hb); have n1_ := Aside0.mk (below_step (hs_ GE112.out) hb); have n2_ := Aside0.mk (hbox); have n3_ := Aside0.mk ((by rw [hg]; exact (below_size (hs_ GE112.out)) : w.heap.size ≤ gb113)); have n4_ := Aside0.mk ((by rw [hg]; exact (below_size (hs_ GE112.out)) : w.heap.size ≤ gb113)); have n5_ := Aside0.mk ((by rw [hg]; exact Nat.ne_of_lt (blk_lt (g := gb112) (o := .cells #[.int .i64 a0_0, .int .i64 a0_1] 47 (0, 0)) (kx_ BK112.out)) : gb112 ≠ gb113)); have n6_ := Aside0.mk ((by rw [hg]; exact Nat.ne_of_gt (blk_lt (g := gb112) (o := .cells #[.int .i64 a0_0, .int .i64 a0_1] 47 (0, 0)) (kx_ BK112.out)) : gb113 ≠ gb112)); clear BK112; clear HB; have BK112 := n0_; have HB := n1_; have BK113 := n2_; have GW113 := n3_; have GE113 := n4_; have NB112_113 := n5_; have NB113_112 := n6_; clear n0_ n1_ n2_ n3_ n4_ n5_ n6_; clear hb hbox hg; have hnb42 := NB112_113.out; have hnc42 := NB113_112.out; have hcz43_0 : w41.cell? ⟨gb112, 0, none⟩ = some (.int .i64 a0_0) := bc_ BK112 0; have hcz43_1 : w41.cell? ⟨gb112, 1, none⟩ = some (.int .i64 a0_1) := bc_ BK112 1; have hfz43_0 := blk_frozen BK112.out 0; have hfz43_1 := blk_frozen BK112.out 1; have hcz44_0 : w41.cell? ⟨gb113, 0, none⟩ = some (.int .i64 a1_0) := bc_ BK113 0; have hcz44_1 : w41.cell? ⟨gb113, 1, none⟩ = some (.int .i64 a1_1) := bc_ BK113 1; have hfz44_0 := blk_frozen BK113.out 0; have hfz44_1 := blk_frozen BK113.out 1))
    go_ret
    exact ⟨by first | rfl | (simp [errW_none, errW_some] <;> rfl) | (simp [*, errW_none, errW_some] <;> rfl), hm_⟩
 ·rw [if_neg c3] at H
  have c3b0 : decide (a0_0 < a1_0) = false := decide_eq_false c3
  clear c3
  by_cases c45 : a1_0 < a0_0
  ·rw [if_pos c45] at H
   have c45b0 : decide (a1_0 < a0_0) = true := decide_eq_true c45
   clear c45
   by_cases c46 : a0_0 < a1_1
   ·rw [if_pos c46] at H
    have c46b0 : decide (a0_0 < a1_1) = true := decide_eq_true c46
    clear c46
    obtain rfl := oI H
    go_enter Try.func94, Try.ntmps94
    go_wp2_with (first | ((with_reducible refine gate_dst (N := 2) rfl ?_); refine box_event ?hg (N := 2) ?hd (cs := #[.int .i64 a0_0, .int .i64 a0_1]) (t := 47) ?hr ?_; (case hd => rfl); (case hg => rfl); (case hr => first | (go_simp; done) | (go_simp; rfl)); intro gb112 hg w47 hbox hb; have n0_ := Aside0.mk (below_step hb_ hb); have n1_ := Aside0.mk (hbox); have n2_ := Aside0.mk ((by rw [hg]; exact (below_size hb_) : w.heap.size ≤ gb112)); have n3_ := Aside0.mk ((by rw [hg]; exact (below_size hb_) : w.heap.size ≤ gb112)); clear HB; have HB := n0_; have BK112 := n1_; have GW112 := n2_; have GE112 := n3_; clear n0_ n1_ n2_ n3_; clear hb hbox hg) | ((with_reducible refine gate_dst (N := 3) rfl ?_); refine box_event ?hg (N := 3) ?hd (cs := #[.int .i64 a1_0, .int .i64 a1_1]) (t := 47) ?hr ?_; (case hd => rfl); (case hg => rfl); (case hr => first | (go_simp; done) | (go_simp; rfl)); intro gb113 hg w48 hbox hb; have n0_ := Aside0.mk (blk_below (g := gb112) (o := .cells #[.int .i64 a0_0, .int .i64 a0_1] 47 (0, 0)) (kx_ BK112.out) hb); have n1_ := Aside0.mk (below_step (hs_ GE112.out) hb); have n2_ := Aside0.mk (hbox); have n3_ := Aside0.mk ((by rw [hg]; exact (below_size (hs_ GE112.out)) : w.heap.size ≤ gb113)); have n4_ := Aside0.mk ((by rw [hg]; exact (below_size (hs_ GE112.out)) : w.heap.size ≤ gb113)); have n5_ := Aside0.mk ((by rw [hg]; exact Nat.ne_of_lt (blk_lt (g := gb112) (o := .cells #[.int .i64 a0_0, .int .i64 a0_1] 47 (0, 0)) (kx_ BK112.out)) : gb112 ≠ gb113)); have n6_ := Aside0.mk ((by rw [hg]; exact Nat.ne_of_gt (blk_lt (g := gb112) (o := .cells #[.int .i64 a0_0, .int .i64 a0_1] 47 (0, 0)) (kx_ BK112.out)) : gb113 ≠ gb112)); clear BK112; clear HB; have BK112 := n0_; have HB := n1_; have BK113 := n2_; have GW113 := n3_; have GE113 := n4_; have NB112_113 := n5_; have NB113_112 := n6_; clear n0_ n1_ n2_ n3_ n4_ n5_ n6_; clear hb hbox hg; have hnb49 := NB112_113.out; have hnc49 := NB113_112.out; have hcz50_0 : w48.cell? ⟨gb112, 0, none⟩ = some (.int .i64 a0_0) := bc_ BK112 0; have hcz50_1 : w48.cell? ⟨gb112, 1, none⟩ = some (.int .i64 a0_1) := bc_ BK112 1; have hfz50_0 := blk_frozen BK112.out 0; have hfz50_1 := blk_frozen BK112.out 1; have hcz51_0 : w48.cell? ⟨gb113, 0, none⟩ = some (.int .i64 a1_0) := bc_ BK113 0; have hcz51_1 : w48.cell? ⟨gb113, 1, none⟩ = some (.int .i64 a1_1) := bc_ BK113 1; have hfz51_0 := blk_frozen BK113.out 0; have hfz51_1 := blk_frozen BK113.out 1))
    go_ret
    exact ⟨by first | rfl | (simp [errW_none, errW_some] <;> rfl) | (simp [*, errW_none, errW_some] <;> rfl), hm_⟩
   ·rw [if_neg c46] at H
    have c46b0 : decide (a0_0 < a1_1) = false := decide_eq_false c46
    clear c46
    obtain rfl := oI H
    go_enter Try.func94, Try.ntmps94
    go_wp2_with (first | ((with_reducible refine gate_dst (N := 2) rfl ?_); refine box_event ?hg (N := 2) ?hd (cs := #[.int .i64 a0_0, .int .i64 a0_1]) (t := 47) ?hr ?_; (case hd => rfl); (case hg => rfl); (case hr => first | (go_simp; done) | (go_simp; rfl)); intro gb112 hg w52 hbox hb; have n0_ := Aside0.mk (below_step hb_ hb); have n1_ := Aside0.mk (hbox); have n2_ := Aside0.mk ((by rw [hg]; exact (below_size hb_) : w.heap.size ≤ gb112)); have n3_ := Aside0.mk ((by rw [hg]; exact (below_size hb_) : w.heap.size ≤ gb112)); clear HB; have HB := n0_; have BK112 := n1_; have GW112 := n2_; have GE112 := n3_; clear n0_ n1_ n2_ n3_; clear hb hbox hg) | ((with_reducible refine gate_dst (N := 3) rfl ?_); refine box_event ?hg (N := 3) ?hd (cs := #[.int .i64 a1_0, .int .i64 a1_1]) (t := 47) ?hr ?_; (case hd => rfl); (case hg => rfl); (case hr => first | (go_simp; done) | (go_simp; rfl)); intro gb113 hg w53 hbox hb; have n0_ := Aside0.mk (blk_below (g := gb112) (o := .cells #[.int .i64 a0_0, .int .i64 a0_1] 47 (0, 0)) (kx_ BK112.out) hb); have n1_ := Aside0.mk (below_step (hs_ GE112.out) hb); have n2_ := Aside0.mk (hbox); have n3_ := Aside0.mk ((by rw [hg]; exact (below_size (hs_ GE112.out)) : w.heap.size ≤ gb113)); have n4_ := Aside0.mk ((by rw [hg]; exact (below_size (hs_ GE112.out)) : w.heap.size ≤ gb113)); have n5_ := Aside0.mk ((by rw [hg]; exact Nat.ne_of_lt (blk_lt (g := gb112) (o := .cells #[.int .i64 a0_0, .int .i64 a0_1] 47 (0, 0)) (kx_ BK112.out)) : gb112 ≠ gb113)); have n6_ := Aside0.mk ((by rw [hg]; exact Nat.ne_of_gt (blk_lt (g := gb112) (o := .cells #[.int .i64 a0_0, .int .i64 a0_1] 47 (0, 0)) (kx_ BK112.out)) : gb113 ≠ gb112)); clear BK112; clear HB; have BK112 := n0_; have HB := n1_; have BK113 := n2_; have GW113 := n3_; have GE113 := n4_; have NB112_113 := n5_; have NB113_112 := n6_; clear n0_ n1_ n2_ n3_ n4_ n5_ n6_; clear hb hbox hg; have hnb54 := NB112_113.out; have hnc54 := NB113_112.out; have hcz55_0 : w53.cell? ⟨gb112, 0, none⟩ = some (.int .i64 a0_0) := bc_ BK112 0; have hcz55_1 : w53.cell? ⟨gb112, 1, none⟩ = some (.int .i64 a0_1) := bc_ BK112 1; have hfz55_0 := blk_frozen BK112.out 0; have hfz55_1 := blk_frozen BK112.out 1; have hcz56_0 : w53.cell? ⟨gb113, 0, none⟩ = some (.int .i64 a1_0) := bc_ BK113 0; have hcz56_1 : w53.cell? ⟨gb113, 1, none⟩ = some (.int .i64 a1_1) := bc_ BK113 1; have hfz56_0 := blk_frozen BK113.out 0; have hfz56_1 := blk_frozen BK113.out 1))
    go_ret
    exact ⟨by first | rfl | (simp [errW_none, errW_some] <;> rfl) | (simp [*, errW_none, errW_some] <;> rfl), hm_⟩
  ·rw [if_neg c45] at H
   have c45b0 : decide (a1_0 < a0_0) = false := decide_eq_false c45
   clear c45
   obtain rfl := oI H
   go_enter Try.func94, Try.ntmps94
   go_wp2_with (first | ((with_reducible refine gate_dst (N := 2) rfl ?_); refine box_event ?hg (N := 2) ?hd (cs := #[.int .i64 a0_0, .int .i64 a0_1]) (t := 47) ?hr ?_; (case hd => rfl); (case hg => rfl); (case hr => first | (go_simp; done) | (go_simp; rfl)); intro gb112 hg w57 hbox hb; have n0_ := Aside0.mk (below_step hb_ hb); have n1_ := Aside0.mk (hbox); have n2_ := Aside0.mk ((by rw [hg]; exact (below_size hb_) : w.heap.size ≤ gb112)); have n3_ := Aside0.mk ((by rw [hg]; exact (below_size hb_) : w.heap.size ≤ gb112)); clear HB; have HB := n0_; have BK112 := n1_; have GW112 := n2_; have GE112 := n3_; clear n0_ n1_ n2_ n3_; clear hb hbox hg) | ((with_reducible refine gate_dst (N := 3) rfl ?_); refine box_event ?hg (N := 3) ?hd (cs := #[.int .i64 a1_0, .int .i64 a1_1]) (t := 47) ?hr ?_; (case hd => rfl); (case hg => rfl); (case hr => first | (go_simp; done) | (go_simp; rfl)); intro gb113 hg w58 hbox hb; have n0_ := Aside0.mk (blk_below (g := gb112) (o := .cells #[.int .i64 a0_0, .int .i64 a0_1] 47 (0, 0)) (kx_ BK112.out) hb); have n1_ := Aside0.mk (below_step (hs_ GE112.out) hb); have n2_ := Aside0.mk (hbox); have n3_ := Aside0.mk ((by rw [hg]; exact (below_size (hs_ GE112.out)) : w.heap.size ≤ gb113)); have n4_ := Aside0.mk ((by rw [hg]; exact (below_size (hs_ GE112.out)) : w.heap.size ≤ gb113)); have n5_ := Aside0.mk ((by rw [hg]; exact Nat.ne_of_lt (blk_lt (g := gb112) (o := .cells #[.int .i64 a0_0, .int .i64 a0_1] 47 (0, 0)) (kx_ BK112.out)) : gb112 ≠ gb113)); have n6_ := Aside0.mk ((by rw [hg]; exact Nat.ne_of_gt (blk_lt (g := gb112) (o := .cells #[.int .i64 a0_0, .int .i64 a0_1] 47 (0, 0)) (kx_ BK112.out)) : gb113 ≠ gb112)); clear BK112; clear HB; have BK112 := n0_; have HB := n1_; have BK113 := n2_; have GW113 := n3_; have GE113 := n4_; have NB112_113 := n5_; have NB113_112 := n6_; clear n0_ n1_ n2_ n3_ n4_ n5_ n6_; clear hb hbox hg; have hnb59 := NB112_113.out; have hnc59 := NB113_112.out; have hcz60_0 : w58.cell? ⟨gb112, 0, none⟩ = some (.int .i64 a0_0) := bc_ BK112 0; have hcz60_1 : w58.cell? ⟨gb112, 1, none⟩ = some (.int .i64 a0_1) := bc_ BK112 1; have hfz60_0 := blk_frozen BK112.out 0; have hfz60_1 := blk_frozen BK112.out 1; have hcz61_0 : w58.cell? ⟨gb113, 0, none⟩ = some (.int .i64 a1_0) := bc_ BK113 0; have hcz61_1 : w58.cell? ⟨gb113, 1, none⟩ = some (.int .i64 a1_1) := bc_ BK113 1; have hfz61_0 := blk_frozen BK113.out 0; have hfz61_1 := blk_frozen BK113.out 1))
   go_ret
   exact ⟨by first | rfl | (simp [errW_none, errW_some] <;> rfl) | (simp [*, errW_none, errW_some] <;> rfl), hm_⟩
def cmp_isNaN_int.f (a0 : Int) : Option (Bool) := some (a0 != a0)
set_option maxHeartbeats 8000000 in
set_option maxRecDepth 100000 in
theorem cmp_isNaN_int.calls (a0 : Int) (r : Bool) (w : World) (h : cmp_isNaN_int.f a0 = some r) :
  Calls Try.prog 105 #[.int .i64 a0] w fun e w' => e = .returned (.bool r) ∧ Drawn0 w w' := by
 have H : (some (a0 != a0)) = some r := h
 clear h
 obtain rfl := oI H
 go_enter Try.func105, Try.ntmps105
 go_wp2
 go_ret
 exact ⟨by first | rfl | (simp; done) | (simp [*]; done), by repeat (first | exact Drawn0.refl _ | apply Drawn0.step)⟩
def cmp_Compare_int.f (a0 : Int) (a1 : Int) : Option (Int) := (cmp_isNaN_int.f a0).bind fun t101 => ((cmp_isNaN_int.f a1).bind fun t102 => (if t101 = true then (if t102 = true then (some 0) else (some (-1))) else (if t102 = true then (some 1) else (if a0 < a1 then (some (-1)) else (if a0 > a1 then (some 1) else (some 0))))))
set_option maxHeartbeats 8000000 in
set_option maxRecDepth 100000 in
theorem cmp_Compare_int.calls (a0 : Int) (a1 : Int) (r : Int) (w : World) (h : cmp_Compare_int.f a0 a1 = some r) :
  Calls Try.prog 86 #[.int .i64 a0, .int .i64 a1] w fun e w' => e = .returned (.int .i64 r) ∧ Drawn0 w w' := by
 have H : ((cmp_isNaN_int.f a0).bind fun t101 => ((cmp_isNaN_int.f a1).bind fun t102 => (if t101 = true then (if t102 = true then (some 0) else (some (-1))) else (if t102 = true then (some 1) else (if a0 < a1 then (some (-1)) else (if a0 > a1 then (some 1) else (some 0))))))) = some r := h
 clear h
 replace H := bI H
 obtain ⟨t101, A30, H⟩ := H
 replace H : ((cmp_isNaN_int.f a1).bind fun t102 => (if t101 = true then (if t102 = true then (some 0) else (some (-1))) else (if t102 = true then (some 1) else (if a0 < a1 then (some (-1)) else (if a0 > a1 then (some 1) else (some 0)))))) = some r := H
 have A3 := Aside0.mk A30
 clear A30
 replace H := bI H
 obtain ⟨t102, A40, H⟩ := H
 replace H : (if t101 = true then (if t102 = true then (some 0) else (some (-1))) else (if t102 = true then (some 1) else (if a0 < a1 then (some (-1)) else (if a0 > a1 then (some 1) else (some 0))))) = some r := H
 have A4 := Aside0.mk A40
 clear A40
 by_cases c5 : t101 = true
 ·subst c5
  have H1 : (if t102 = true then (some 0) else (some (-1))) = some r := by rw [if_pos rfl] at H; exact H
  clear H
  have H := H1
  clear H1
  by_cases c6 : t102 = true
  ·subst c6
   have H1 : (some 0) = some r := by rw [if_pos rfl] at H; exact H
   clear H
   have H := H1
   clear H1
   obtain rfl := oI H
   go_enter Try.func86, Try.ntmps86
   go_wp2_with (first | ((with_reducible refine gate_callee (f := 105) rfl ?_); refine goesL_ (some 8) rfl rfl Try.func105 (by kernel_rfl) rfl #[.int .i64 a0] rfl ar_ ?_; (with_reducible refine (cmp_isNaN_int.calls a0 true _ A3.out).mono ?_); rintro e w' ⟨rfl, ⟨nd, rfl⟩⟩; refine ⟨_, rfl, ?_⟩) | ((with_reducible refine gate_callee (f := 105) rfl ?_); refine goesL_ (some 10) rfl rfl Try.func105 (by kernel_rfl) rfl #[.int .i64 a1] rfl ar_ ?_; (with_reducible refine (cmp_isNaN_int.calls a1 true _ A4.out).mono ?_); rintro e w' ⟨rfl, ⟨nd, rfl⟩⟩; refine ⟨_, rfl, ?_⟩))
   go_ret
   exact ⟨by first | rfl | (simp; done) | (simp [*]; done), by repeat (first | exact Drawn0.refl _ | apply Drawn0.step)⟩
  ·replace c6 := Bool.eq_false_iff.mpr c6
   subst c6
   have H1 : (some (-1)) = some r := by rw [if_neg (show ¬ (false = true) by decide)] at H; exact H
   clear H
   have H := H1
   clear H1
   obtain rfl := oI H
   go_enter Try.func86, Try.ntmps86
   go_wp2_with (first | ((with_reducible refine gate_callee (f := 105) rfl ?_); refine goesL_ (some 8) rfl rfl Try.func105 (by kernel_rfl) rfl #[.int .i64 a0] rfl ar_ ?_; (with_reducible refine (cmp_isNaN_int.calls a0 true _ A3.out).mono ?_); rintro e w' ⟨rfl, ⟨nd, rfl⟩⟩; refine ⟨_, rfl, ?_⟩) | ((with_reducible refine gate_callee (f := 105) rfl ?_); refine goesL_ (some 10) rfl rfl Try.func105 (by kernel_rfl) rfl #[.int .i64 a1] rfl ar_ ?_; (with_reducible refine (cmp_isNaN_int.calls a1 false _ A4.out).mono ?_); rintro e w' ⟨rfl, ⟨nd, rfl⟩⟩; refine ⟨_, rfl, ?_⟩))
   go_ret
   exact ⟨by first | rfl | (simp; done) | (simp [*]; done), by repeat (first | exact Drawn0.refl _ | apply Drawn0.step)⟩
 ·replace c5 := Bool.eq_false_iff.mpr c5
  subst c5
  have H1 : (if t102 = true then (some 1) else (if a0 < a1 then (some (-1)) else (if a0 > a1 then (some 1) else (some 0)))) = some r := by rw [if_neg (show ¬ (false = true) by decide)] at H; exact H
  clear H
  have H := H1
  clear H1
  by_cases c7 : t102 = true
  ·subst c7
   have H1 : (some 1) = some r := by rw [if_pos rfl] at H; exact H
   clear H
   have H := H1
   clear H1
   obtain rfl := oI H
   go_enter Try.func86, Try.ntmps86
   go_wp2_with (first | ((with_reducible refine gate_callee (f := 105) rfl ?_); refine goesL_ (some 8) rfl rfl Try.func105 (by kernel_rfl) rfl #[.int .i64 a0] rfl ar_ ?_; (with_reducible refine (cmp_isNaN_int.calls a0 false _ A3.out).mono ?_); rintro e w' ⟨rfl, ⟨nd, rfl⟩⟩; refine ⟨_, rfl, ?_⟩) | ((with_reducible refine gate_callee (f := 105) rfl ?_); refine goesL_ (some 10) rfl rfl Try.func105 (by kernel_rfl) rfl #[.int .i64 a1] rfl ar_ ?_; (with_reducible refine (cmp_isNaN_int.calls a1 true _ A4.out).mono ?_); rintro e w' ⟨rfl, ⟨nd, rfl⟩⟩; refine ⟨_, rfl, ?_⟩))
   go_ret
   exact ⟨by first | rfl | (simp; done) | (simp [*]; done), by repeat (first | exact Drawn0.refl _ | apply Drawn0.step)⟩
  ·replace c7 := Bool.eq_false_iff.mpr c7
   subst c7
   have H1 : (if a0 < a1 then (some (-1)) else (if a0 > a1 then (some 1) else (some 0))) = some r := by rw [if_neg (show ¬ (false = true) by decide)] at H; exact H
   clear H
   have H := H1
   clear H1
   by_cases c8 : a0 < a1
   ·rw [if_pos c8] at H
    have c8b0 : decide (a0 < a1) = true := decide_eq_true c8
    clear c8
    obtain rfl := oI H
    go_enter Try.func86, Try.ntmps86
    go_wp2_with (first | ((with_reducible refine gate_callee (f := 105) rfl ?_); refine goesL_ (some 8) rfl rfl Try.func105 (by kernel_rfl) rfl #[.int .i64 a0] rfl ar_ ?_; (with_reducible refine (cmp_isNaN_int.calls a0 false _ A3.out).mono ?_); rintro e w' ⟨rfl, ⟨nd, rfl⟩⟩; refine ⟨_, rfl, ?_⟩) | ((with_reducible refine gate_callee (f := 105) rfl ?_); refine goesL_ (some 10) rfl rfl Try.func105 (by kernel_rfl) rfl #[.int .i64 a1] rfl ar_ ?_; (with_reducible refine (cmp_isNaN_int.calls a1 false _ A4.out).mono ?_); rintro e w' ⟨rfl, ⟨nd, rfl⟩⟩; refine ⟨_, rfl, ?_⟩))
    go_ret
    exact ⟨by first | rfl | (simp; done) | (simp [*]; done), by repeat (first | exact Drawn0.refl _ | apply Drawn0.step)⟩
   ·rw [if_neg c8] at H
    have c8b0 : decide (a0 < a1) = false := decide_eq_false c8
    clear c8
    by_cases c9 : a0 > a1
    ·rw [if_pos c9] at H
     have c9b0 : decide (a1 < a0) = true := decide_eq_true c9
     clear c9
     obtain rfl := oI H
     go_enter Try.func86, Try.ntmps86
     go_wp2_with (first | ((with_reducible refine gate_callee (f := 105) rfl ?_); refine goesL_ (some 8) rfl rfl Try.func105 (by kernel_rfl) rfl #[.int .i64 a0] rfl ar_ ?_; (with_reducible refine (cmp_isNaN_int.calls a0 false _ A3.out).mono ?_); rintro e w' ⟨rfl, ⟨nd, rfl⟩⟩; refine ⟨_, rfl, ?_⟩) | ((with_reducible refine gate_callee (f := 105) rfl ?_); refine goesL_ (some 10) rfl rfl Try.func105 (by kernel_rfl) rfl #[.int .i64 a1] rfl ar_ ?_; (with_reducible refine (cmp_isNaN_int.calls a1 false _ A4.out).mono ?_); rintro e w' ⟨rfl, ⟨nd, rfl⟩⟩; refine ⟨_, rfl, ?_⟩))
     go_ret
     exact ⟨by first | rfl | (simp; done) | (simp [*]; done), by repeat (first | exact Drawn0.refl _ | apply Drawn0.step)⟩
    ·rw [if_neg c9] at H
     have c9b0 : decide (a1 < a0) = false := decide_eq_false c9
     clear c9
     obtain rfl := oI H
     go_enter Try.func86, Try.ntmps86
     go_wp2_with (first | ((with_reducible refine gate_callee (f := 105) rfl ?_); refine goesL_ (some 8) rfl rfl Try.func105 (by kernel_rfl) rfl #[.int .i64 a0] rfl ar_ ?_; (with_reducible refine (cmp_isNaN_int.calls a0 false _ A3.out).mono ?_); rintro e w' ⟨rfl, ⟨nd, rfl⟩⟩; refine ⟨_, rfl, ?_⟩) | ((with_reducible refine gate_callee (f := 105) rfl ?_); refine goesL_ (some 10) rfl rfl Try.func105 (by kernel_rfl) rfl #[.int .i64 a1] rfl ar_ ?_; (with_reducible refine (cmp_isNaN_int.calls a1 false _ A4.out).mono ?_); rintro e w' ⟨rfl, ⟨nd, rfl⟩⟩; refine ⟨_, rfl, ?_⟩))
     go_ret
     exact ⟨by first | rfl | (simp; done) | (simp [*]; done), by repeat (first | exact Drawn0.refl _ | apply Drawn0.step)⟩
def cmp_Or_int.l0 : Nat → Int → List Int → Int → Int → Option (Int)
 | 0, _, _, _, _ => none
 | k + 1, x3, x6, x7, x8 => if x8 < x7 then (if 0 ≤ x8 then (if x8 < (x6.length : Int) then (if (rd x6 x8) = x3 then (cmp_Or_int.l0 k x3 x6 x7 (wrap64 (x8 + 1))) else (some (rd x6 x8))) else (none)) else (none)) else (some x3)
def cmp_Or_int.f (k : Nat) (l0 : List Int) : Option (Int) := cmp_Or_int.l0 k 0 l0 (l0.length : Int) 0
theorem cmp_Or_int.mono_l : ∀ k, (∀ y0 y1 y2 y3, LeO (cmp_Or_int.l0 k y0 y1 y2 y3) (cmp_Or_int.l0 (k + 1) y0 y1 y2 y3))
 | 0 => fun _ _ _ _ r h => by simp [cmp_Or_int.l0] at h
 | k + 1 => by
  have ih0 := cmp_Or_int.mono_l k
  ·intro y0 y1 y2 y3
   unfold cmp_Or_int.l0
   repeat' first
   | (with_reducible exact ih0 _ _ _ _)
   | (with_reducible exact LeO.refl _)
   | (with_reducible exact LeO.none _)
   | (with_reducible refine LeO.ite ?_ ?_)
   | (with_reducible refine LeO.bind ?_ (fun _ => ?_))
   | exact ih0 _ _ _ _
   | exact LeO.none _
   | refine LeO.ite ?_ ?_
   | refine LeO.bind ?_ (fun _ => ?_)
theorem cmp_Or_int.mono : ∀ a0 k, LeO (cmp_Or_int.f k a0) (cmp_Or_int.f (k + 1) a0) := by
 intro a0 k
 have ih0 := cmp_Or_int.mono_l k
 unfold cmp_Or_int.f
 repeat' first
   | (with_reducible exact ih0 _ _ _ _)
   | (with_reducible exact LeO.refl _)
   | (with_reducible exact LeO.none _)
   | (with_reducible refine LeO.ite ?_ ?_)
   | (with_reducible refine LeO.bind ?_ (fun _ => ?_))
   | exact ih0 _ _ _ _
   | exact LeO.none _
   | refine LeO.ite ?_ ?_
   | refine LeO.bind ?_ (fun _ => ?_)
set_option maxHeartbeats 8000000 in
set_option maxRecDepth 100000 in
theorem cmp_Or_int.calls (k : Nat) (A0 : Option Addr) (c0 : Nat) (l0 : List Int) (r : Int) (w : World) (hr0 : Kd.C (Kd.int .i64) w A0 l0.length l0) (hc0 : l0.length ≤ c0) (h : cmp_Or_int.f k l0 = some r) :
  Calls Try.prog 92 #[.slice A0 l0.length c0] w fun e w' => e = .returned (.int .i64 r) ∧ Drawn0 w w' := by
 have HR0 := Aside0.mk hr0
 have HC0 := Aside0.mk hc0
 clear hr0 hc0
 have H : (cmp_Or_int.l0 k 0 l0 (l0.length : Int) 0) = some r := h
 clear h
 have H' := Aside0.mk H
 clear H
 go_enter Try.func92, Try.ntmps92
 go_wp2
 go_loopg [8] k (fun kq v8 w' => ∃ (x8_1 : Int), v8 = .int .i64 x8_1 ∧ Aside0 (cmp_Or_int.l0 kq 0 l0 (l0.length : Int) x8_1 = some r) ∧ Aside0 (kq ≤ k) ∧ Drawn0 w w')
 case atStart => exact ⟨(0), (by first | rfl | (simp; done) | (simp [*]; done)), H', ⟨Nat.le_refl _⟩, by repeat (first | exact Drawn0.refl _ | apply Drawn0.step)⟩
 case round =>
  clear H'
  obtain ⟨x8_1, rfl, HA, HK1, ⟨m1, rfl⟩⟩ := hrel
  cases gk with
  | zero => exact absurd HA.out (by simp [cmp_Or_int.l0])
  | succ k1 =>
   have H := HA.out
   clear HA
   simp only [cmp_Or_int.l0] at H
   by_cases c2 : x8_1 < (l0.length : Int)
   ·rw [if_pos c2] at H
    have c2b0 : decide (x8_1 < (l0.length : Int)) = true := decide_eq_true c2
    clear c2
    by_cases c3 : 0 ≤ x8_1
    ·rw [if_pos c3] at H
     have c3b0 : decide (0 ≤ x8_1) = true := decide_eq_true c3
     clear c3
     by_cases c4 : x8_1 < (l0.length : Int)
     ·rw [if_pos c4] at H
      have c4b0 : decide (x8_1 < (l0.length : Int)) = true := decide_eq_true c4
      clear c4
      by_cases c5 : (rd l0 x8_1) = 0
      ·rw [if_pos c5] at H
       have c5b0 : ((rd l0 x8_1) == 0) = true := beq_iff_eq.mpr c5
       have c5b1 : ((rd l0 x8_1) != 0) = false := bne_eq_false_iff_eq.mpr c5
       clear c5
       have H' := Aside0.mk H
       clear H
       have p103 : 0 ≤ (x8_1 : Int) := of_decide_eq_true (by assumption)
       have q103 : x8_1 < (l0.length : Int) := of_decide_eq_true (by assumption)
       obtain ⟨ad103, e103, hx103_0⟩ := Kd.at_int HR0.out x8_1 p103 q103
       cases e103
       replace p103 := eq_true p103
       replace q103 := eq_true q103
       go_wp2
       go_roundg k1
       case measure => have := HK1.out; omega
       case rel => exact ⟨(wrap64 (x8_1 + 1)), (by first | rfl | (simp; done) | (simp [*]; done)), H', ⟨by have := HK1.out; omega⟩, by repeat (first | exact Drawn0.refl _ | apply Drawn0.step)⟩
      ·rw [if_neg c5] at H
       have c5b0 : ((rd l0 x8_1) == 0) = false := beq_eq_false_iff_ne.mpr c5
       have c5b1 : ((rd l0 x8_1) != 0) = true := bne_iff_ne.mpr c5
       obtain rfl := oI H
       have p103 : 0 ≤ (x8_1 : Int) := of_decide_eq_true (by assumption)
       have q103 : x8_1 < (l0.length : Int) := of_decide_eq_true (by assumption)
       obtain ⟨ad103, e103, hx103_0⟩ := Kd.at_int HR0.out x8_1 p103 q103
       cases e103
       replace p103 := eq_true p103
       replace q103 := eq_true q103
       go_wp2
       go_ret
       exact ⟨by first | rfl | (simp; done) | (simp [*]; done), by repeat (first | exact Drawn0.refl _ | apply Drawn0.step)⟩
     ·rw [if_neg c4] at H
      exact absurd H (by simp)
    ·rw [if_neg c3] at H
     exact absurd H (by simp)
   ·rw [if_neg c2] at H
    have c2b0 : decide (x8_1 < (l0.length : Int)) = false := decide_eq_false c2
    clear c2
    obtain rfl := oI H
    go_wp2
    go_ret
    exact ⟨by first | rfl | (simp; done) | (simp [*]; done), by repeat (first | exact Drawn0.refl _ | apply Drawn0.step)⟩
def impl_compareChords.f (k : Nat) (a0_0 : Int) (a0_1 : Int) (a1_0 : Int) (a1_1 : Int) : Option (Int) := (cmp_Compare_int.f a0_0 a1_0).bind fun t106 => ((cmp_Compare_int.f a0_1 a1_1).bind fun t107 => ((cmp_Or_int.f k (([t106, t107] : List Int))).bind fun t111 => (some t111)))
theorem impl_compareChords.mono : ∀ a0 a1 a2 a3 k, LeO (impl_compareChords.f k a0 a1 a2 a3) (impl_compareChords.f (k + 1) a0 a1 a2 a3) := by
 intro a0 a1 a2 a3 k
 unfold impl_compareChords.f
 repeat' first
   | (with_reducible exact cmp_Or_int.mono _ _)
   | (with_reducible exact LeO.refl _)
   | (with_reducible exact LeO.none _)
   | (with_reducible refine LeO.ite ?_ ?_)
   | (with_reducible refine LeO.bind ?_ (fun _ => ?_))
   | exact cmp_Or_int.mono _ _
   | exact LeO.none _
   | refine LeO.ite ?_ ?_
   | refine LeO.bind ?_ (fun _ => ?_)
def impl_compareChords.T1 : Bool × List (List Nat × List Nat) := (true, [([], []), ([0], [0]), ([], []), ([2], [2]), ([1, 3], [1, 3]), ([], []), ([5], [5]), ([], []), ([7], [7]), ([6, 8, 4], [6, 8]), ([4, 9], [4, 9]), ([10, 9], [10]), ([11, 11, 0, 1, 2, 3, 4, 5, 6, 7, 8, 9, 10, 11], [11])])
def impl_compareChords.B1 : List Nat := [0, 1, 0, 4, 15, 0, 32, 0, 128, 511, 1023, 2047, 4095]
theorem impl_compareChords.tab1 : rtab .any (opsOf Try.f77 1) = impl_compareChords.T1 := by kernel_rfl
theorem impl_compareChords.bits1 : waitsOk impl_compareChords.T1.2 impl_compareChords.B1 = true := by kernel_rfl
set_option maxHeartbeats 8000000 in
set_option maxRecDepth 100000 in
theorem impl_compareChords.calls (k : Nat) (a0_0 : Int) (a0_1 : Int) (a1_0 : Int) (a1_1 : Int) (r : Int) (w : World) (h : impl_compareChords.f k a0_0 a0_1 a1_0 a1_1 = some r) :
  Calls Try.prog 77 #[.agg #[.int .i64 a0_0, .int .i64 a0_1], .agg #[.int .i64 a1_0, .int .i64 a1_1]] w fun e w' => e = .returned (.int .i64 r) ∧ Below w.heap.size w w' := by
 have hu47 := Try.underlying47
 have HB := Aside0.mk (Below.refl w.heap.size w)
 have H : ((cmp_Compare_int.f a0_0 a1_0).bind fun t106 => ((cmp_Compare_int.f a0_1 a1_1).bind fun t107 => ((cmp_Or_int.f k (([t106, t107] : List Int))).bind fun t111 => (some t111)))) = some r := h
 clear h
 replace H := bI H
 obtain ⟨t106, A30, H⟩ := H
 replace H : ((cmp_Compare_int.f a0_1 a1_1).bind fun t107 => ((cmp_Or_int.f k (([t106, t107] : List Int))).bind fun t111 => (some t111))) = some r := H
 have A3 := Aside0.mk A30
 clear A30
 replace H := bI H
 obtain ⟨t107, A40, H⟩ := H
 replace H : ((cmp_Or_int.f k (([t106, t107] : List Int))).bind fun t111 => (some t111)) = some r := H
 have A4 := Aside0.mk A40
 clear A40
 obtain ⟨y108, hy108⟩ : ∃ y_ : List Int, y_ = (([t106, t107] : List Int)) := ⟨_, rfl⟩
 replace H : ((cmp_Or_int.f k y108).bind fun t111 => (some t111)) = some r := by first | (rw [hy108]; with_reducible exact H) | (have H2_ := (Option.bind_some _ _).symm.trans H; rw [hy108]; with_reducible exact H2_) | (have H2_ := (Option.bind_some _ _).symm.trans H; with_reducible exact H2_) | with_reducible exact H | (rw [hy108]; exact H) | exact H
 have Ny108 := Aside0.mk hy108
 clear hy108
 replace H := bI H
 obtain ⟨t111, A50, H⟩ := H
 replace H : (some t111) = some r := H
 have A5 := Aside0.mk A50
 clear A50
 obtain rfl := oI H
 go_enter Try.func77, Try.ntmps77
 try go_wp2_with (first | ((with_reducible refine gate_dst (N := 2) rfl ?_); refine box_event ?hg (N := 2) ?hd (cs := #[.int .i64 a0_0, .int .i64 a0_1]) (t := 47) ?hr ?_; (case hd => rfl); (case hg => rfl); (case hr => first | (go_simp; done) | (go_simp; rfl)); intro gb104 hg w6 hbox hb; have n0_ := Aside0.mk (below_step hb_ hb); have n1_ := Aside0.mk (hbox); have n2_ := Aside0.mk ((by rw [hg]; exact (below_size hb_) : w.heap.size ≤ gb104)); have n3_ := Aside0.mk ((by rw [hg]; exact (below_size hb_) : w.heap.size ≤ gb104)); clear HB; have HB := n0_; have BK104 := n1_; have GW104 := n2_; have GE104 := n3_; clear n0_ n1_ n2_ n3_; clear hb hbox hg) | ((with_reducible refine gate_dst (N := 3) rfl ?_); refine box_event ?hg (N := 3) ?hd (cs := #[.int .i64 a1_0, .int .i64 a1_1]) (t := 47) ?hr ?_; (case hd => rfl); (case hg => rfl); (case hr => first | (go_simp; done) | (go_simp; rfl)); intro gb105 hg w7 hbox hb; have n0_ := Aside0.mk (blk_below (g := gb104) (o := .cells #[.int .i64 a0_0, .int .i64 a0_1] 47 (0, 0)) (kx_ BK104.out) hb); have n1_ := Aside0.mk (below_step (hs_ GE104.out) hb); have n2_ := Aside0.mk (hbox); have n3_ := Aside0.mk ((by rw [hg]; exact (below_size (hs_ GE104.out)) : w.heap.size ≤ gb105)); have n4_ := Aside0.mk ((by rw [hg]; exact (below_size (hs_ GE104.out)) : w.heap.size ≤ gb105)); have n5_ := Aside0.mk ((by rw [hg]; exact Nat.ne_of_lt (blk_lt (g := gb104) (o := .cells #[.int .i64 a0_0, .int .i64 a0_1] 47 (0, 0)) (kx_ BK104.out)) : gb104 ≠ gb105)); have n6_ := Aside0.mk ((by rw [hg]; exact Nat.ne_of_gt (blk_lt (g := gb104) (o := .cells #[.int .i64 a0_0, .int .i64 a0_1] 47 (0, 0)) (kx_ BK104.out)) : gb105 ≠ gb104)); clear BK104; clear HB; have BK104 := n0_; have HB := n1_; have BK105 := n2_; have GW105 := n3_; have GE105 := n4_; have NB104_105 := n5_; have NB105_104 := n6_; clear n0_ n1_ n2_ n3_ n4_ n5_ n6_; clear hb hbox hg))
 have n0_ := Aside0.mk (blk_drew BK104.out)
 have n1_ := Aside0.mk (blk_drew BK105.out)
 have n2_ := Aside0.mk (below_drew1 HB.out)
 clear BK104
 clear BK105
 clear HB
 have BK104 := n0_
 have BK105 := n1_
 have HB := n2_
 clear n0_ n1_ n2_
 refine start_ (n := 13) (S := fun w' => w'.cell? ⟨gb104, 0, none⟩ = some (.int .i64 a0_0) ∧ w'.cell? ⟨gb104, 1, none⟩ = some (.int .i64 a0_1) ∧ w'.cell? ⟨gb105, 0, none⟩ = some (.int .i64 a1_0) ∧ w'.cell? ⟨gb105, 1, none⟩ = some (.int .i64 a1_1)) (ds := []) #[false, false, false, false, false, false, false, false, false, false, false, false, false] (by kernel_rfl) rfl rfl ⟨bc_ BK104 0, bc_ BK104 1, bc_ BK105 0, bc_ BK105 1⟩ (fun hHeld => ?_); refine with_tabW impl_compareChords.tab1 impl_compareChords.bits1 (fun HT_ HW_ => ?_)
 generalize w7.drew = w8 at BK104 BK105 HB hHeld ⊢
 refine pure_ (i := 0) (N := some 5) (v := ?_) (a' := ?_) #[true, false, false, false, false, false, false, false, false, false, false, false, false] rfl rfl (any_of HT_.out (by kernel_rfl)) (fun _ _ _ h => h) (Or.inl ⟨by rfl, ?_⟩) ?_ ?_
 rotate_left
 ·intro w'
  go_simp
  with_reducible rfl
 rotate_left
 ·simp only [Act.put, sT, sZ, sS, i64_w, i32_w]
  rfl
 refine pure_ (i := 2) (N := some 7) (v := ?_) (a' := ?_) #[true, false, true, false, false, false, false, false, false, false, false, false, false] rfl rfl (any_of HT_.out (by kernel_rfl)) (fun _ _ _ h => h) (Or.inl ⟨by rfl, ?_⟩) ?_ ?_
 rotate_left
 ·intro w'
  go_simp
  with_reducible rfl
 rotate_left
 ·simp only [Act.put, sT, sZ, sS, i64_w, i32_w]
  rfl
 refine pure_ (i := 5) (N := some 10) (v := ?_) (a' := ?_) #[true, false, true, false, false, true, false, false, false, false, false, false, false] rfl rfl (any_of HT_.out (by kernel_rfl)) (fun _ _ _ h => h) (Or.inl ⟨by rfl, ?_⟩) ?_ ?_
 rotate_left
 ·intro w'
  go_simp
  with_reducible rfl
 rotate_left
 ·simp only [Act.put, sT, sZ, sS, i64_w, i32_w]
  rfl
 refine pure_ (i := 7) (N := some 12) (v := ?_) (a' := ?_) #[true, false, true, false, false, true, false, true, false, false, false, false, false] rfl rfl (any_of HT_.out (by kernel_rfl)) (fun _ _ _ h => h) (Or.inl ⟨by rfl, ?_⟩) ?_ ?_
 rotate_left
 ·intro w'
  go_simp
  with_reducible rfl
 rotate_left
 ·simp only [Act.put, sT, sZ, sS, i64_w, i32_w]
  rfl
 refine take_ (i := 1) (N := some 6) (v := ?_) (a' := ?_) #[true, true, true, false, false, true, false, true, false, false, false, false, false] rfl rfl (take_ofW HT_.out HW_.out (by kernel_rfl)) (fun _ _ _ h => h) (Or.inl ⟨by rfl, ?_⟩) hHeld ?_ ?_
 rotate_left
 ·rintro w' ⟨s0, s1, s2, s3⟩
  go_simp
  with_reducible rfl
 rotate_left
 ·simp only [Act.put, sT, sZ, sS, i64_w, i32_w]
  rfl
 refine take_ (i := 3) (N := some 8) (v := ?_) (a' := ?_) #[true, true, true, true, false, true, false, true, false, false, false, false, false] rfl rfl (take_ofW HT_.out HW_.out (by kernel_rfl)) (fun _ _ _ h => h) (Or.inl ⟨by rfl, ?_⟩) hHeld ?_ ?_
 rotate_left
 ·rintro w' ⟨s0, s1, s2, s3⟩
  go_simp
  with_reducible rfl
 rotate_left
 ·simp only [Act.put, sT, sZ, sS, i64_w, i32_w]
  rfl
 refine take_ (i := 6) (N := some 11) (v := ?_) (a' := ?_) #[true, true, true, true, false, true, true, true, false, false, false, false, false] rfl rfl (take_ofW HT_.out HW_.out (by kernel_rfl)) (fun _ _ _ h => h) (Or.inl ⟨by rfl, ?_⟩) hHeld ?_ ?_
 rotate_left
 ·rintro w' ⟨s0, s1, s2, s3⟩
  go_simp
  with_reducible rfl
 rotate_left
 ·simp only [Act.put, sT, sZ, sS, i64_w, i32_w]
  rfl
 refine take_ (i := 8) (N := some 13) (v := ?_) (a' := ?_) #[true, true, true, true, false, true, true, true, true, false, false, false, false] rfl rfl (take_ofW HT_.out HW_.out (by kernel_rfl)) (fun _ _ _ h => h) (Or.inl ⟨by rfl, ?_⟩) hHeld ?_ ?_
 rotate_left
 ·rintro w' ⟨s0, s1, s2, s3⟩
  go_simp
  with_reducible rfl
 rotate_left
 ·simp only [Act.put, sT, sZ, sS, i64_w, i32_w]
  rfl
 refine one_ (i := 4) (N := some 9) #[true, true, true, true, true, true, true, true, true, false, false, false, false] rfl rfl (one_of HT_.out (by kernel_rfl)) (by decide) (fun K hK => ?_)
 refine goes_ Try.func86 (by kernel_rfl) rfl #[.int .i64 a0_0, .int .i64 a1_0] (by rfl) rfl rfl ar_ ?_
 with_reducible refine (cmp_Compare_int.calls a0_0 a1_0 t106 _ A3.out).mono ?_
 rintro e w' ⟨rfl, ⟨nd, rfl⟩⟩
 refine ⟨_, rfl, ?_⟩
 refine hK.out _ _ ⟨bc_ BK104 0, bc_ BK104 1, bc_ BK105 0, bc_ BK105 1⟩ (fun hHeld => ?_)
 clear hK K
 refine norm_ (a' := ?_) ?_ ?_
 rotate_left
 ·show Act.put _ (some 9) _ = _
  simp only [Act.put, sT, sZ, sS, i64_w, i32_w]
  rfl
 refine one_ (i := 9) (N := some 14) #[true, true, true, true, true, true, true, true, true, true, false, false, false] rfl rfl (one_of HT_.out (by kernel_rfl)) (by decide) (fun K hK => ?_)
 refine goes_ Try.func86 (by kernel_rfl) rfl #[.int .i64 a0_1, .int .i64 a1_1] (by rfl) rfl rfl ar_ ?_
 with_reducible refine (cmp_Compare_int.calls a0_1 a1_1 t107 _ A4.out).mono ?_
 rintro e w' ⟨rfl, ⟨nd, rfl⟩⟩
 refine ⟨_, rfl, ?_⟩
 refine hK.out _ _ ⟨bc_ BK104 0, bc_ BK104 1, bc_ BK105 0, bc_ BK105 1⟩ (fun hHeld => ?_)
 clear hK K
 refine norm_ (a' := ?_) ?_ ?_
 rotate_left
 ·show Act.put _ (some 14) _ = _
  simp only [Act.put, sT, sZ, sS, i64_w, i32_w]
  rfl
 refine one_ (i := 10) (N := some 15) #[true, true, true, true, true, true, true, true, true, true, true, false, false] rfl rfl (one_of HT_.out (by kernel_rfl)) (by decide) (fun K hK => ?_)
 refine Kd.R_lit_step (Kd.int .i64) _ 3 ?hg (N := 15) ?hd (xs := ([t106, t107] : List Int)) (inner := [.int .i64 t106, .int .i64 t107]) (ok := fun _ => True) (okp := fun _ => True) ?hr ?hp (fun _ hk => hk) trivial (Below.refl _ _) (Nat.le_refl _) (by simp) ?_; (case hd => rfl); (case hg => rfl); (case hr => first | (go_simp; done) | (go_simp; rfl)); (case hp => exact (Reps.one (show Kd.M (Kd.int .i64) _ _ _ t106 [.int .i64 t106] from rfl) (Reps.one (show Kd.M (Kd.int .i64) _ _ _ t107 [.int .i64 t107] from rfl) (Reps.none _ _))))
 intro v109 w9 ho10 hb hg_ hnew_
 clear hg_ hnew_
 (first | rw [← Ny108.out] at ho10 | (simp only [Int.reduceToNat] at ho10; rw [← Ny108.out] at ho10))
 have n0_ := Aside0.mk (Kd.R_lower ho10 (below_size (hm_)))
 have n1_ := Aside0.mk (blk_below (g := gb104) (o := .cells #[.int .i64 a0_0, .int .i64 a0_1] 47 (0, 0)) (kx_ BK104.out) hb)
 have n2_ := Aside0.mk (blk_below (g := gb105) (o := .cells #[.int .i64 a1_0, .int .i64 a1_1] 47 (0, 0)) (kx_ BK105.out) hb)
 have n3_ := Aside0.mk (below_step (hm_) hb)
 clear BK104
 clear BK105
 clear HB
 have HO110 := n0_
 have BK104 := n1_
 have BK105 := n2_
 have HB := n3_
 clear n0_ n1_ n2_ n3_
 clear hb ho10
 obtain ⟨Ao11, co11, eo11⟩ := Kd.R_slice HO110.out
 (first | subst eo11 | (injection eo11 with f1_ f2_ f3_; have f4_ := f1_.symm; have f5_ := f3_.symm; clear f1_ f2_ f3_; subst f4_; subst f5_))
 refine hK.out _ _ ⟨bc_ BK104 0, bc_ BK104 1, bc_ BK105 0, bc_ BK105 1⟩ (fun hHeld => ?_)
 clear hK K
 refine norm_ (a' := ?_) ?_ ?_
 rotate_left
 ·show Act.put _ (some 15) _ = _
  simp only [Act.put, sT, sZ, sS, i64_w, i32_w]
  rfl
 refine one_ (i := 11) (N := some 16) #[true, true, true, true, true, true, true, true, true, true, true, true, false] rfl rfl (one_of HT_.out (by kernel_rfl)) (by decide) (fun K hK => ?_)
 refine goes_ Try.func92 (by kernel_rfl) rfl #[.slice Ao11 y108.length co11] (by rfl) rfl rfl ar_ ?_
 with_reducible refine (cmp_Or_int.calls k _ _ y108 t111 _ ?side1 ?side2 A5.out).mono ?_
 (case side1 => repeat (first | exact (Kd.R_reads' HO110.out).2.2 | (with_reducible refine Kd.C_alloc ?_ _) | (with_reducible refine Kd.C_drewN ?_ _) | (with_reducible refine Kd.C_drew ?_)))
 (case side2 => exact (Kd.R_reads' HO110.out).2.1)
 rintro e w' ⟨rfl, ⟨nd, rfl⟩⟩
 refine ⟨_, rfl, ?_⟩
 refine hK.out _ _ ⟨bc_ BK104 0, bc_ BK104 1, bc_ BK105 0, bc_ BK105 1⟩ (fun hHeld => ?_)
 clear hK K
 refine norm_ (a' := ?_) ?_ ?_
 rotate_left
 ·show Act.put _ (some 16) _ = _
  simp only [Act.put, sT, sZ, sS, i64_w, i32_w]
  rfl
 refine pure_ (i := 12) (N := some 4) (v := ?_) (a' := ?_) #[true, true, true, true, true, true, true, true, true, true, true, true, true] rfl rfl (any_of HT_.out (by kernel_rfl)) (fun _ _ _ h => h) (Or.inl ⟨by rfl, ?_⟩) ?_ ?_
 rotate_left
 ·intro w'
  go_simp
  with_reducible rfl
 rotate_left
 ·simp only [Act.put, sT, sZ, sS, i64_w, i32_w]
  rfl
 refine done_ (done_of HT_.out (by kernel_rfl)) ?_
 try go_wp2
 go_ret
 exact ⟨by first | rfl | (simp [errW_none, errW_some] <;> rfl) | (simp [*, errW_none, errW_some] <;> rfl), hm_⟩
end Go.Proofs.Ytdeenfpcmaadcaa.Pr
/- What the functions on chords of the program and of the reference compute, in plain words: the order, the crossings of two. -/
namespace Go.Proofs.Ytdeenfpcmaadcaa.M
open Go.RowKit Go.Proofs.YtdeenfpcmaadcaaW.PrintWords Go.Proofs.Ytdeenfpcmaadcaa.Pr
abbrev Ch := S47
theorem rd_ch (l : List Ch) (i : Nat) (h : i < l.length) : rd_T47 l (i : Int) = l[i] := by
  unfold rd_T47
  simp [List.getD_eq_getElem?_getD, List.getElem?_eq_getElem h]
def okB (p : Int) (c : Ch) : Bool := decide (0 ≤ c.f0 ∧ c.f0 < c.f1 ∧ c.f1 < p)
def ltB (c d : Ch) : Bool := decide (c.f0 < d.f0 ∨ c.f0 = d.f0 ∧ c.f1 < d.f1)
def crB (c d : Ch) : Bool := decide (c.f0 < d.f0 ∧ d.f0 < c.f1 ∧ c.f1 < d.f1 ∨ d.f0 < c.f0 ∧ c.f0 < d.f1 ∧ d.f1 < c.f1)
theorem crB_comm (c d : Ch) : crB c d = crB d c := by
  unfold crB
  rw [decide_eq_decide]
  constructor <;> (rintro (h | h); exact .inr h; exact .inl h)
theorem srLess_eq (a b c d : Int) : spec_srLess.f a b c d = some (ltB ⟨a, b⟩ ⟨c, d⟩) := by
  unfold spec_srLess.f ltB
  by_cases h : a < c
  · rw [if_pos h]; congr 1; rw [Bool.eq_iff_iff]; simp; omega
  · rw [if_neg h]
    by_cases h2 : a = c
    · rw [if_pos h2]; congr 1; rw [Bool.eq_iff_iff]; simp; omega
    · rw [if_neg h2]; congr 1; rw [Bool.eq_iff_iff]; simp; omega
theorem crossing_eq (c d : Ch) : impl_crossing.f c.f0 c.f1 d.f0 d.f1 = some (crB c d) := by
  unfold impl_crossing.f crB
  repeat' split
  all_goals (congr 1; rw [Bool.eq_iff_iff]; simp only [decide_eq_true_eq, Bool.false_eq_true, true_iff, false_iff]; omega)
theorem srCross_eq (c d : Ch) (hc : c.f0 < c.f1) (hd : d.f0 < d.f1) : spec_srCross.f c.f0 c.f1 d.f0 d.f1 = some (crB c d) := by
  unfold spec_srCross.f crB
  refine congrArg some (Bool.eq_iff_iff.2 ?_)
  rw [decide_eq_true_eq]
  by_cases g1 : c.f0 < d.f0 <;> by_cases g2 : d.f0 < c.f1 <;> by_cases g3 : c.f0 < d.f1 <;> by_cases g4 : d.f1 < c.f1 <;> simp [g1, g2, g3, g4] <;> omega
theorem compare_eq (a b : Int) : cmp_Compare_int.f a b = some (if a < b then -1 else if a > b then 1 else 0) := by
  unfold cmp_Compare_int.f cmp_isNaN_int.f
  simp only [bne_self_eq_false, Option.bind_some, Bool.false_eq_true, if_false]
  repeat' split
  all_goals rfl
theorem or_ev (x y : Int) : Ev (fun k => cmp_Or_int.f k [x, y]) (if x = 0 then y else x) := by
  unfold cmp_Or_int.f
  refine Ev.step (fun k => by rw [cmp_Or_int.l0]) ?_
  refine Ev.pos (by simp) (Ev.pos (by omega) (Ev.pos (by simp) ?_))
  rw [show rd [x, y] 0 = x from rfl]
  by_cases hx : x = 0
  · refine Ev.pos hx ?_
    rw [show wrap64 (0 + 1) = 1 from by rw [w64 (by omega) (by omega)]; rfl, if_pos hx]
    refine Ev.step (fun k => by rw [cmp_Or_int.l0]) ?_
    refine Ev.pos (by simp) (Ev.pos (by omega) (Ev.pos (by simp) ?_))
    rw [show rd [x, y] 1 = y from rfl]
    by_cases hy : y = 0
    · refine Ev.pos hy ?_
      rw [show wrap64 (1 + 1) = 2 from by rw [w64 (by omega) (by omega)]; rfl, hy]
      refine Ev.step (fun k => by rw [cmp_Or_int.l0]) ?_
      exact Ev.neg (by simp) (Ev.now 0)
    · exact Ev.neg hy (Ev.now y)
  · rw [if_neg hx]
    exact Ev.neg hx (Ev.now x)
def cmpC (c d : Ch) : Int := if c.f0 < d.f0 then -1 else if c.f0 > d.f0 then 1 else if c.f1 < d.f1 then -1 else if c.f1 > d.f1 then 1 else 0
theorem compareChords_ev (c d : Ch) : Ev (fun k => impl_compareChords.f k c.f0 c.f1 d.f0 d.f1) (cmpC c d) := by
  unfold impl_compareChords.f
  refine Ev.bindc (compare_eq _ _) (Ev.bindc (compare_eq _ _) (Ev.bindk (or_ev _ _) (Ev.val ?_)))
  unfold cmpC
  by_cases h1 : c.f0 < d.f0
  · simp [h1]
  · by_cases h2 : c.f0 > d.f0
    · simp [h1, h2]
    · simp [h1, h2]
theorem cmpC_ge (c d : Ch) : (cmpC c d ≥ 0) ↔ ltB c d = false := by
  unfold cmpC ltB
  simp only [decide_eq_false_iff_not]
  split
  · omega
  · split
    · omega
    · split
      · omega
      · split <;> omega
end Go.Proofs.Ytdeenfpcmaadcaa.M
namespace Go.Proofs.Ytdeenfpcmaadcaa.Pr
open Go.RowKit Go.Proofs.YtdeenfpcmaadcaaW.PrintWords Go.Proofs.YtdeenfpcmaadcaaW.PrintLast Go.Proofs.YtdeenfpcmaadcaaW.PrintMore
attribute [local go_sem] max2_int min2_int max_two min_two max_three min_three max_four min_four
def laws_szChordS.f (l0 : List (S49)) (a1 : Int) : Option (Int) := if (wrap64 (a1 - (l0.length : Int))) < 0 then (some (-1)) else (some (wrap64 (a1 - (l0.length : Int))))
set_option maxHeartbeats 8000000 in
set_option maxRecDepth 100000 in
theorem laws_szChordS.calls (A0 : Option Addr) (c0 : Nat) (l0 : List (S49)) (a1 : Int) (r : Int) (w : World) (hr0 : Kd.C k49 w A0 l0.length l0) (hc0 : l0.length ≤ c0) (h : laws_szChordS.f l0 a1 = some r) :
  Calls Try.prog 9 #[.slice A0 l0.length c0, .int .i64 a1] w fun e w' => e = .returned (.int .i64 r) ∧ Drawn0 w w' := by
 have HR0 := Aside0.mk hr0
 have HC0 := Aside0.mk hc0
 clear hr0 hc0
 have H : (if (wrap64 (a1 - (l0.length : Int))) < 0 then (some (-1)) else (some (wrap64 (a1 - (l0.length : Int))))) = some r := h
 clear h
 by_cases c3 : (wrap64 (a1 - (l0.length : Int))) < 0
 ·rw [if_pos c3] at H
  have c3b0 : decide ((wrap64 (a1 - (l0.length : Int))) < 0) = true := decide_eq_true c3
  clear c3
  obtain rfl := oI H
  go_enter Try.func9, Try.ntmps9
  go_wp2
  go_ret
  exact ⟨by first | rfl | (simp; done) | (simp [*]; done), by repeat (first | exact Drawn0.refl _ | apply Drawn0.step)⟩
 ·rw [if_neg c3] at H
  have c3b0 : decide ((wrap64 (a1 - (l0.length : Int))) < 0) = false := decide_eq_false c3
  clear c3
  obtain rfl := oI H
  go_enter Try.func9, Try.ntmps9
  go_wp2
  go_ret
  exact ⟨by first | rfl | (simp; done) | (simp [*]; done), by repeat (first | exact Drawn0.refl _ | apply Drawn0.step)⟩
def laws_toChord.f (a0_0 : Int) (a0_1 : Int) : Option (Int × Int) := some (a0_0, a0_1)
set_option maxHeartbeats 8000000 in
set_option maxRecDepth 100000 in
theorem laws_toChord.calls (a0_0 : Int) (a0_1 : Int) (r1 : Int) (r2 : Int) (w : World) (h : laws_toChord.f a0_0 a0_1 = some (r1, r2)) :
  Calls Try.prog 34 #[.agg #[.int .i64 a0_0, .int .i64 a0_1]] w fun e w' => e = .returned (.agg #[.int .i64 r1, .int .i64 r2]) ∧ Below w.heap.size w w' := by
 have hu49 := Try.underlying49
 have hu47 := Try.underlying47
 have HB := Aside0.mk (Below.refl w.heap.size w)
 have H : (some (a0_0, a0_1)) = some (r1, r2) := h
 clear h
 simp only [Option.some.injEq, Prod.mk.injEq] at H
 obtain ⟨rfl, rfl⟩ := H
 go_enter Try.func34, Try.ntmps34
 go_wp2_with (first | ((with_reducible refine gate_dst (N := 1) rfl ?_); refine box_event ?hg (N := 1) ?hd (cs := #[.int .i64 a0_0, .int .i64 a0_1]) (t := 49) ?hr ?_; (case hd => rfl); (case hg => rfl); (case hr => first | (go_simp; done) | (go_simp; rfl)); intro gb160 hg w2 hbox hb; have n0_ := Aside0.mk (below_step hb_ hb); have n1_ := Aside0.mk (hbox); have n2_ := Aside0.mk ((by rw [hg]; exact (below_size hb_) : w.heap.size ≤ gb160)); have n3_ := Aside0.mk ((by rw [hg]; exact (below_size hb_) : w.heap.size ≤ gb160)); clear HB; have HB := n0_; have BK160 := n1_; have GW160 := n2_; have GE160 := n3_; clear n0_ n1_ n2_ n3_; clear hb hbox hg) | ((with_reducible refine gate_dst (N := 2) rfl ?_); refine box_event ?hg (N := 2) ?hd (cs := #[.int .i64 0, .int .i64 0]) (t := 47) ?hr ?_; (case hd => rfl); (case hg => rfl); (case hr => first | (go_simp; done) | (go_simp; rfl)); intro gb161 hg w3 hbox hb; have n0_ := Aside0.mk (blk_below (g := gb160) (o := .cells #[.int .i64 a0_0, .int .i64 a0_1] 49 (0, 0)) (kx_ BK160.out) hb); have n1_ := Aside0.mk (below_step (hs_ GE160.out) hb); have n2_ := Aside0.mk (hbox); have n3_ := Aside0.mk ((by rw [hg]; exact (below_size (hs_ GE160.out)) : w.heap.size ≤ gb161)); have n4_ := Aside0.mk ((by rw [hg]; exact (below_size (hs_ GE160.out)) : w.heap.size ≤ gb161)); have n5_ := Aside0.mk ((by rw [hg]; exact Nat.ne_of_lt (blk_lt (g := gb160) (o := .cells #[.int .i64 a0_0, .int .i64 a0_1] 49 (0, 0)) (kx_ BK160.out)) : gb160 ≠ gb161)); have n6_ := Aside0.mk ((by rw [hg]; exact Nat.ne_of_gt (blk_lt (g := gb160) (o := .cells #[.int .i64 a0_0, .int .i64 a0_1] 49 (0, 0)) (kx_ BK160.out)) : gb161 ≠ gb160)); clear BK160; clear HB; have BK160 := n0_; have HB := n1_; have BK161 := n2_; have GW161 := n3_; have GE161 := n4_; have NB160_161 := n5_; have NB161_160 := n6_; clear n0_ n1_ n2_ n3_ n4_ n5_ n6_; clear hb hbox hg) | ((with_reducible refine gate_dst (N := 3) rfl ?_); refine box_event ?hg (N := 3) ?hd (cs := #[.int .i64 0, .int .i64 0]) (t := 47) ?hr ?_; (case hd => rfl); (case hg => rfl); (case hr => first | (go_simp; done) | (go_simp; rfl)); intro gb162 hg w4 hbox hb; have n0_ := Aside0.mk (blk_below (g := gb160) (o := .cells #[.int .i64 a0_0, .int .i64 a0_1] 49 (0, 0)) (kx_ BK160.out) hb); have n1_ := Aside0.mk (blk_below (g := gb161) (o := .cells #[.int .i64 0, .int .i64 0] 47 (0, 0)) (kx_ BK161.out) hb); have n2_ := Aside0.mk (below_step (hm_) hb); have n3_ := Aside0.mk (hbox); have n4_ := Aside0.mk ((by rw [hg]; exact (below_size (hm_)) : w.heap.size ≤ gb162)); have n5_ := Aside0.mk ((by rw [hg]; exact (below_size (hm_)) : w.heap.size ≤ gb162)); have n6_ := Aside0.mk ((by rw [hg]; exact Nat.ne_of_lt (blk_lt (g := gb160) (o := .cells #[.int .i64 a0_0, .int .i64 a0_1] 49 (0, 0)) (kx_ BK160.out)) : gb160 ≠ gb162)); have n7_ := Aside0.mk ((by rw [hg]; exact Nat.ne_of_gt (blk_lt (g := gb160) (o := .cells #[.int .i64 a0_0, .int .i64 a0_1] 49 (0, 0)) (kx_ BK160.out)) : gb162 ≠ gb160)); have n8_ := Aside0.mk ((by rw [hg]; exact Nat.ne_of_lt (blk_lt (g := gb161) (o := .cells #[.int .i64 0, .int .i64 0] 47 (0, 0)) (kx_ BK161.out)) : gb161 ≠ gb162)); have n9_ := Aside0.mk ((by rw [hg]; exact Nat.ne_of_gt (blk_lt (g := gb161) (o := .cells #[.int .i64 0, .int .i64 0] 47 (0, 0)) (kx_ BK161.out)) : gb162 ≠ gb161)); clear BK160; clear BK161; clear HB; have BK160 := n0_; have BK161 := n1_; have HB := n2_; have BK162 := n3_; have GW162 := n4_; have GE162 := n5_; have NB160_162 := n6_; have NB162_160 := n7_; have NB161_162 := n8_; have NB162_161 := n9_; clear n0_ n1_ n2_ n3_ n4_ n5_ n6_ n7_ n8_ n9_; clear hb hbox hg; have hnb5 := NB160_161.out; have hnc5 := NB161_160.out; have hnb6 := NB160_162.out; have hnc6 := NB162_160.out; have hcz7_0 : w4.cell? ⟨gb160, 0, none⟩ = some (.int .i64 a0_0) := bc_ BK160 0; have hcz7_1 : w4.cell? ⟨gb160, 1, none⟩ = some (.int .i64 a0_1) := bc_ BK160 1; have hfz7_0 := blk_frozen BK160.out 0; have hfz7_1 := blk_frozen BK160.out 1; have hnb8 := NB162_161.out; have hnc8 := NB161_162.out; have hcz9_0 : w4.cell? ⟨gb162, 0, none⟩ = some (.int .i64 0) := bc_ BK162 0; have hcz9_1 : w4.cell? ⟨gb162, 1, none⟩ = some (.int .i64 0) := bc_ BK162 1; have hfz9_0 := blk_frozen BK162.out 0; have hfz9_1 := blk_frozen BK162.out 1; have hcz10_0 : w4.cell? ⟨gb161, 0, none⟩ = some (.int .i64 0) := bc_ BK161 0; have hcz10_1 : w4.cell? ⟨gb161, 1, none⟩ = some (.int .i64 0) := bc_ BK161 1; have hfz10_0 := blk_frozen BK161.out 0; have hfz10_1 := blk_frozen BK161.out 1))
 refine bodyPost_ret (results_cell_row rfl _ _ gb161 47 #[.int .i64 a0_0, .int .i64 a0_1] (0, 0) _ rfl (by (with_reducible repeat (first | refine kN ?_ _ | refine kD ?_ | refine kA ?_ _)); refine blk_put (cs := #[.int .i64 a0_0, .int .i64 0]) ?_ 1 _ rfl; (with_reducible repeat (first | refine kN ?_ _ | refine kD ?_ | refine kA ?_ _)); refine blk_put (cs := #[.int .i64 0, .int .i64 0]) ?_ 0 _ rfl; (with_reducible repeat (first | refine kN ?_ _ | refine kD ?_ | refine kA ?_ _)); refine blk_far ?_ NB161_162.out _; (with_reducible repeat (first | refine kN ?_ _ | refine kD ?_ | refine kA ?_ _)); refine blk_far ?_ NB161_162.out _; (with_reducible repeat (first | refine kN ?_ _ | refine kD ?_ | refine kA ?_ _)); exact BK161.out) Try.underlying47 rfl (by kernel_rfl)) rfl ?_
 exact ⟨by first | rfl | (simp [errW_none, errW_some] <;> rfl) | (simp [*, errW_none, errW_some] <;> rfl), hm_⟩
def laws_toChordS.l0 : Nat → List (S49) → List (S47) → Int → Option ((List (S47)))
 | 0, _, _, _ => none
 | k + 1, x0, x3, x4 => if x4 < (x0.length : Int) then (if 0 ≤ x4 then ((laws_toChord.f ((rd_T49 x0 x4).f0) ((rd_T49 x0 x4).f1)).bind fun bt167 => (if x4 < (x3.length : Int) then (laws_toChordS.l0 k x0 (x3.set (x4 : Int).toNat (⟨bt167.1, bt167.2⟩ : S47)) (wrap64 (x4 + 1))) else (none))) else (none)) else (some x3)
def laws_toChordS.f (k : Nat) (l0 : List (S49)) : Option ((List (S47))) := if 0 ≤ (l0.length : Int) then (if ((l0.length : Int) : Int).toNat ≤ 17592186044416 then (laws_toChordS.l0 k l0 (List.replicate ((l0.length : Int) : Int).toNat z47) 0) else (none)) else (none)
theorem laws_toChordS.mono_l : ∀ k, (∀ y0 y1 y2, LeO (laws_toChordS.l0 k y0 y1 y2) (laws_toChordS.l0 (k + 1) y0 y1 y2))
 | 0 => fun _ _ _ r h => by simp [laws_toChordS.l0] at h
 | k + 1 => by
  have ih0 := laws_toChordS.mono_l k
  ·intro y0 y1 y2
   unfold laws_toChordS.l0
   repeat' first
   | (with_reducible exact ih0 _ _ _)
   | (with_reducible exact LeO.refl _)
   | (with_reducible exact LeO.none _)
   | (with_reducible refine LeO.ite ?_ ?_)
   | (with_reducible refine LeO.bind ?_ (fun _ => ?_))
   | exact ih0 _ _ _
   | exact LeO.none _
   | refine LeO.ite ?_ ?_
   | refine LeO.bind ?_ (fun _ => ?_)
theorem laws_toChordS.mono : ∀ a0 k, LeO (laws_toChordS.f k a0) (laws_toChordS.f (k + 1) a0) := by
 intro a0 k
 have ih0 := laws_toChordS.mono_l k
 unfold laws_toChordS.f
 repeat' first
   | (with_reducible exact ih0 _ _ _)
   | (with_reducible exact LeO.refl _)
   | (with_reducible exact LeO.none _)
   | (with_reducible refine LeO.ite ?_ ?_)
   | (with_reducible refine LeO.bind ?_ (fun _ => ?_))
   | exact ih0 _ _ _
   | exact LeO.none _
   | refine LeO.ite ?_ ?_
   | refine LeO.bind ?_ (fun _ => ?_)
set_option maxHeartbeats 8000000 in
set_option maxRecDepth 100000 in
theorem laws_toChordS.calls (k : Nat) (A0 : Option Addr) (c0 : Nat) (l0 : List (S49)) (r : List (S47)) (w : World) (hr0 : Kd.C k49 w A0 l0.length l0) (hc0 : l0.length ≤ c0) (h : laws_toChordS.f k l0 = some r) :
  Calls Try.prog 11 #[.slice A0 l0.length c0] w fun e w' => ∃ v0_ : Value, e = .returned (v0_) ∧ Kd.R k47 47 w' w.heap.size (fun _ => True) v0_ r ∧ Below w.heap.size w w' := by
 have hu49 := Try.underlying49
 have hu47 := Try.underlying47
 have HR0 := Aside0.mk hr0
 have HC0 := Aside0.mk hc0
 clear hr0 hc0
 have HB := Aside0.mk (Below.refl w.heap.size w)
 have H : (if 0 ≤ (l0.length : Int) then (if ((l0.length : Int) : Int).toNat ≤ 17592186044416 then (laws_toChordS.l0 k l0 (List.replicate ((l0.length : Int) : Int).toNat z47) 0) else (none)) else (none)) = some r := h
 clear h
 by_cases c2 : 0 ≤ (l0.length : Int)
 ·rw [if_pos c2] at H
  have c2b0 := eq_true c2
  have c2b1 : decide (0 ≤ (l0.length : Int)) = true := decide_eq_true c2
  clear c2
  by_cases c3 : ((l0.length : Int) : Int).toNat ≤ 17592186044416
  ·rw [if_pos c3] at H
   have c3b0 := eq_true c3
   have c3b1 : decide (((l0.length : Int) : Int).toNat ≤ 17592186044416) = true := decide_eq_true c3
   clear c3
   obtain ⟨y163, hy163⟩ : ∃ y_ : List (S47), y_ = (List.replicate ((l0.length : Int) : Int).toNat z47) := ⟨_, rfl⟩
   replace H : (laws_toChordS.l0 k l0 y163 0) = some r := by first | (rw [hy163]; with_reducible exact H) | (have H2_ := (Option.bind_some _ _).symm.trans H; rw [hy163]; with_reducible exact H2_) | (have H2_ := (Option.bind_some _ _).symm.trans H; with_reducible exact H2_) | with_reducible exact H | (rw [hy163]; exact H) | exact H
   have Ny163 := Aside0.mk hy163
   clear hy163
   have H' := Aside0.mk H
   clear H
   go_enter Try.func11, Try.ntmps11
   go_wp2_with (first | ((with_reducible refine gate_dst (N := 7) rfl ?_); refine Kd.R_make k47 _ 47 rfl (N := 7) rfl 27 _ _ rfl (l0.length : Int) rfl rfl Try.underlying27 (.agg #[(.int .i64 0), (.int .i64 0)]) 16 info47 rfl (by decide) (by omega) z47 (ok := fun _ => True) (okp := fun _ => True) (k47_mkM _ _ _ z47 ) (fun _ hk => hk) trivial (of_decide_eq_true (by assumption)) (Nat.le_trans (Nat.mul_le_mul_right _ (of_decide_eq_true (by assumption) : (l0.length : Int).toNat ≤ 17592186044416)) (by omega)) (Below.refl _ _) (Nat.le_refl _) ?_; intro v164 w4 ho5 hb hg_ hnew_; clear hg_ hnew_; (first | rw [← Ny163.out] at ho5 | (simp only [Int.reduceToNat] at ho5; rw [← Ny163.out] at ho5)); have n0_ := Aside0.mk (Kd.R_lower ho5 (below_size hb_)); have n1_ := Aside0.mk (below_step hb_ hb); clear HB; have HO165 := n0_; have HB := n1_; clear n0_ n1_; clear hb ho5))
   go_loopg [4] k (fun kq v4 w' => ∃ (x3_1 : List (S47)) (x4_1 : Int), v4 = .int .i64 x4_1 ∧ Aside0 (laws_toChordS.l0 kq l0 x3_1 x4_1 = some r) ∧ Aside0 (kq ≤ k) ∧ Aside0 (Kd.R k47 47 w' w.heap.size (fun _ => True) v164 x3_1) ∧ Aside0 (Below w.heap.size w w'))
   case atStart => exact ⟨(y163), (0), (by first | rfl | (simp; done) | (simp [*]; done)), H', ⟨Nat.le_refl _⟩, ⟨by (with_reducible repeat (first | apply rA | apply rN | apply rD)); exact HO165.out⟩, ⟨hb_⟩⟩
   case round =>
    clear H'
    try clear c1
    try clear c2
    try clear c2b0
    try clear c2b1
    try clear p2
    try clear c3
    try clear c3b0
    try clear c3b1
    obtain ⟨x3_1, x4_1, rfl, HA, HK1, HO_3, HB⟩ := hrel
    cases gk with
    | zero => exact absurd HA.out (by simp [laws_toChordS.l0])
    | succ k1 =>
     have H := HA.out
     clear HA
     simp only [laws_toChordS.l0] at H
     by_cases c6 : x4_1 < (l0.length : Int)
     ·rw [if_pos c6] at H
      have c6b0 : decide (x4_1 < (l0.length : Int)) = true := decide_eq_true c6
      clear c6
      by_cases c7 : 0 ≤ x4_1
      ·rw [if_pos c7] at H
       have c7b0 : decide (0 ≤ x4_1) = true := decide_eq_true c7
       clear c7
       replace H := bI H
       obtain ⟨⟨t167, t168⟩, A80, H⟩ := H
       replace H : (if x4_1 < (x3_1.length : Int) then (laws_toChordS.l0 k1 l0 (x3_1.set (x4_1 : Int).toNat (⟨t167, t168⟩ : S47)) (wrap64 (x4_1 + 1))) else (none)) = some r := H
       have A8 := Aside0.mk A80
       clear A80
       by_cases c9 : x4_1 < (x3_1.length : Int)
       ·rw [if_pos c9] at H
        have c9b0 : decide (x4_1 < (x3_1.length : Int)) = true := decide_eq_true c9
        clear c9
        obtain ⟨y169, hy169⟩ : ∃ y_ : List (S47), y_ = (x3_1.set (x4_1 : Int).toNat (⟨t167, t168⟩ : S47)) := ⟨_, rfl⟩
        replace H : (laws_toChordS.l0 k1 l0 y169 (wrap64 (x4_1 + 1))) = some r := by first | (rw [hy169]; with_reducible exact H) | (have H2_ := (Option.bind_some _ _).symm.trans H; rw [hy169]; with_reducible exact H2_) | (have H2_ := (Option.bind_some _ _).symm.trans H; with_reducible exact H2_) | with_reducible exact H | (rw [hy169]; exact H) | exact H
        have Ny169 := Aside0.mk hy169
        clear hy169
        have H' := Aside0.mk H
        clear H
        have p166 : 0 ≤ (x4_1 : Int) := of_decide_eq_true (by assumption)
        have q166 : x4_1 < (l0.length : Int) := of_decide_eq_true (by assumption)
        obtain ⟨ad166, e166, hx166_0, hx166_1⟩ := at_T49 HR0.out x4_1 p166 q166
        cases e166
        replace hx166_0 := (HB.out.cell (World.block_lt_of_cell? w _ hx166_0)).trans hx166_0
        replace hx166_1 := (HB.out.cell (World.block_lt_of_cell? w _ hx166_1)).trans hx166_1
        replace p166 := eq_true p166
        replace q166 := eq_true q166
        go_wp2_with (first | ((with_reducible refine gate_callee (f := 34) rfl ?_); refine goesL_ (some 20) rfl rfl Try.func34 (by kernel_rfl) rfl #[.agg #[.int .i64 ((rd_T49 l0 x4_1).f0), .int .i64 ((rd_T49 l0 x4_1).f1)]] rfl ar_ ?_; (with_reducible refine (laws_toChord.calls ((rd_T49 l0 x4_1).f0) ((rd_T49 l0 x4_1).f1) t167 t168 _ A8.out).mono ?_); rintro e w11 ⟨rfl, hb⟩; refine ⟨_, rfl, ?_⟩; have n0_ := Aside0.mk (Kd.R_below (ra_ HO_3.out) hb); have n1_ := Aside0.mk (below_step hb_ hb); clear HO_3; clear HB; have HO_3 := n0_; have HB := n1_; clear n0_ n1_; (try clear hb); (try clear hb2); (try clear hk); (try clear hi); have p10 : 0 ≤ (x4_1 : Int) := of_decide_eq_true (by assumption); have q10 : (x4_1 : Int) < ((x3_1.length : Int) : Int) := of_decide_eq_true (by assumption); obtain ⟨go10, co10, eo10, gb10, gl10, cl10, HG10⟩ := Kd.R_form HO_3.out (by omega); (first | cases eo10 | (injection eo10 with ea_ en_ ec_; (first | subst ea_ | (injection ea_ with ea_; subst ea_)); subst ec_; clear en_)); have GB10 := Aside0.mk gb10; have GG10 := Aside0.mk HG10; clear gb10 gl10 HG10; obtain ⟨ce10, hcl10, hM10, hcc10, hfr10⟩ := Kd.R_elem HO_3.out z47 (x4_1 : Int) p10 q10; obtain rfl := k47_openM hM10; have hx10_0 : w11.cell? ⟨go10, (x4_1 : Int).toNat * 2, none⟩ = some (.int .i64 ((rd_T47 x3_1 x4_1).f0)) := hcc10 0 _ rfl; have hx10_1 : w11.cell? ⟨go10, (x4_1 : Int).toNat * 2 + 1, none⟩ = some (.int .i64 ((rd_T47 x3_1 x4_1).f1)) := hcc10 1 _ rfl; have hf10_0 : w11.frozen? ⟨go10, (x4_1 : Int).toNat * 2, none⟩ = false := hfr10 0; have hf10_1 : w11.frozen? ⟨go10, (x4_1 : Int).toNat * 2 + 1, none⟩ = false := hfr10 1; clear hcl10 hcc10 hfr10 hM10; replace p10 := eq_true p10; replace q10 := eq_true q10; have HX12 := Aside0.mk (show Kd.R k47 47 w11 w.heap.size (fun _ => True) (.slice (some ⟨go10, 0, none⟩) x3_1.length co10) x3_1 from (ra_ HO_3.out)); obtain ⟨ce12, hcl12, hM12, hcc12, hfr12⟩ := Kd.R_elem HX12.out z47 (x4_1 : Int) (of_decide_eq_true (by assumption)) (by have h_ : (x4_1 : Int) < ((x3_1.length : Int) : Int) := of_decide_eq_true (by assumption); first | exact h_ | (have e_ := (Kd.R_reads' HO_3.out).1; omega) | simpa using h_); obtain rfl := k47_openM hM12; have HP12 := Kd.R_seg HX12.out (x4_1 : Int) (of_decide_eq_true (by assumption)) (by have h_ : (x4_1 : Int) < ((x3_1.length : Int) : Int) := of_decide_eq_true (by assumption); first | exact h_ | (have e_ := (Kd.R_reads' HO_3.out).1; omega) | simpa using h_) (seg := [.int .i64 t167, .int .i64 t168]) (j := 0) hcl12 hcc12 (show 2 ≤ 2 from by decide) (x' := (⟨t167, t168⟩ : S47)) (k47_mkM _ _ _ (⟨t167, t168⟩ : S47) ) (fun _ hk => hk); have hx12_0 := hcc12 0 _ rfl; (try simp only [show (k47).sz = 2 from rfl, Nat.mul_one, Nat.add_zero] at hx12_0); have hf12_0 := hfr12 0; (try simp only [show (k47).sz = 2 from rfl, Nat.mul_one, Nat.add_zero] at hf12_0); have hx12_1 := hcc12 1 _ rfl; (try simp only [show (k47).sz = 2 from rfl, Nat.mul_one, Nat.add_zero] at hx12_1); have hf12_1 := hfr12 1; (try simp only [show (k47).sz = 2 from rfl, Nat.mul_one, Nat.add_zero] at hf12_1); clear hcl12 hcc12 hfr12 hM12) | ((with_reducible refine gate_store (t := 47) (p := 21) rfl ?_); refine store_event (t := 47) (p := 21) (v := ?vo_w13) (w1 := ((w11.setCell ⟨go10, (x4_1 : Int).toNat * 2, none⟩ (.int .i64 t167)).setCell ⟨go10, (x4_1 : Int).toNat * 2 + 1, none⟩ (.int .i64 t168))) ?hg ?ho ?hn ?hr ?_; (case ho => rfl); (case hg => rfl); (case hn => rfl); (case hr => first | (go_simp; done) | (go_simp; rfl)); intro w13 hw; have hg : w11.grownBy w13 (some go10) := (by rw [hw]; exact HP12.2); have hp_ : Kd.R k47 47 w13 w.heap.size (fun _ => True) (.slice (some ⟨go10, 0, none⟩) x3_1.length co10) y169 := (by rw [hw, Ny169.out]; exact HP12.1); clear HP12; have n0_ := Aside0.mk (hp_); have n1_ := Aside0.mk ((by rw [hw]; exact below_set (below_set (HB.out) GB10.out) GB10.out : Below w.heap.size w w13)); clear HO_3; clear HB; have HO_3 := n0_; have HB := n1_; clear n0_ n1_; clear hg hw hp_))
        go_roundg k1
        case measure => have := HK1.out; omega
        case rel => exact ⟨(y169), (wrap64 (x4_1 + 1)), (by first | rfl | (simp; done) | (simp [*]; done)), H', ⟨by have := HK1.out; omega⟩, ⟨by (with_reducible repeat (first | apply rA | apply rN | apply rD)); exact HO_3.out⟩, ⟨hb_⟩⟩
       ·rw [if_neg c9] at H
        exact absurd H (by simp)
      ·rw [if_neg c7] at H
       exact absurd H (by simp)
     ·rw [if_neg c6] at H
      have c6b0 : decide (x4_1 < (l0.length : Int)) = false := decide_eq_false c6
      clear c6
      obtain rfl := oI H
      go_wp2
      go_ret
      exact ⟨_, by first | rfl | (simp [errW_none, errW_some] <;> rfl) | (simp [*, errW_none, errW_some] <;> rfl), by (with_reducible repeat (first | apply rA | apply rN | apply rD)); exact HO_3.out, hb_⟩
  ·rw [if_neg c3] at H
   exact absurd H (by simp)
 ·rw [if_neg c2] at H
  exact absurd H (by simp)
def laws_eqChord.f (a0_0 : Int) (a0_1 : Int) (a1_0 : Int) (a1_1 : Int) : Option (Bool) := if a0_0 = a1_0 then (if a0_1 = a1_1 then (some true) else (some false)) else (some false)
set_option maxHeartbeats 8000000 in
set_option maxRecDepth 100000 in
theorem laws_eqChord.calls (a0_0 : Int) (a0_1 : Int) (a1_0 : Int) (a1_1 : Int) (r : Bool) (w : World) (h : laws_eqChord.f a0_0 a0_1 a1_0 a1_1 = some r) :
  Calls Try.prog 36 #[.agg #[.int .i64 a0_0, .int .i64 a0_1], .agg #[.int .i64 a1_0, .int .i64 a1_1]] w fun e w' => e = .returned (.bool r) ∧ Below w.heap.size w w' := by
 have hu47 := Try.underlying47
 have HB := Aside0.mk (Below.refl w.heap.size w)
 have H : (if a0_0 = a1_0 then (if a0_1 = a1_1 then (some true) else (some false)) else (some false)) = some r := h
 clear h
 by_cases c3 : a0_0 = a1_0
 ·rw [if_pos c3] at H
  have c3b0 : (a0_0 == a1_0) = true := beq_iff_eq.mpr c3
  have c3b1 : (a0_0 != a1_0) = false := bne_eq_false_iff_eq.mpr c3
  clear c3
  by_cases c4 : a0_1 = a1_1
  ·rw [if_pos c4] at H
   have c4b0 : (a0_1 == a1_1) = true := beq_iff_eq.mpr c4
   have c4b1 : (a0_1 != a1_1) = false := bne_eq_false_iff_eq.mpr c4
   clear c4
   obtain rfl := oI H
   go_enter Try.func36, Try.ntmps36
   go_wp2_with (first | ((with_reducible refine gate_dst (N := 2) rfl ?_); refine box_event ?hg (N := 2) ?hd (cs := #[.int .i64 a0_0, .int .i64 a0_1]) (t := 47) ?hr ?_; (case hd => rfl); (case hg => rfl); (case hr => first | (go_simp; done) | (go_simp; rfl)); intro gb170 hg w5 hbox hb; have n0_ := Aside0.mk (below_step hb_ hb); have n1_ := Aside0.mk (hbox); have n2_ := Aside0.mk ((by rw [hg]; exact (below_size hb_) : w.heap.size ≤ gb170)); have n3_ := Aside0.mk ((by rw [hg]; exact (below_size hb_) : w.heap.size ≤ gb170)); clear HB; have HB := n0_; have BK170 := n1_; have GW170 := n2_; have GE170 := n3_; clear n0_ n1_ n2_ n3_; clear hb hbox hg) | ((with_reducible refine gate_dst (N := 3) rfl ?_); refine box_event ?hg (N := 3) ?hd (cs := #[.int .i64 a1_0, .int .i64 a1_1]) (t := 47) ?hr ?_; (case hd => rfl); (case hg => rfl); (case hr => first | (go_simp; done) | (go_simp; rfl)); intro gb171 hg w6 hbox hb; have n0_ := Aside0.mk (blk_below (g := gb170) (o := .cells #[.int .i64 a0_0, .int .i64 a0_1] 47 (0, 0)) (kx_ BK170.out) hb); have n1_ := Aside0.mk (below_step (hs_ GE170.out) hb); have n2_ := Aside0.mk (hbox); have n3_ := Aside0.mk ((by rw [hg]; exact (below_size (hs_ GE170.out)) : w.heap.size ≤ gb171)); have n4_ := Aside0.mk ((by rw [hg]; exact (below_size (hs_ GE170.out)) : w.heap.size ≤ gb171)); have n5_ := Aside0.mk ((by rw [hg]; exact Nat.ne_of_lt (blk_lt (g := gb170) (o := .cells #[.int .i64 a0_0, .int .i64 a0_1] 47 (0, 0)) (kx_ BK170.out)) : gb170 ≠ gb171)); have n6_ := Aside0.mk ((by rw [hg]; exact Nat.ne_of_gt (blk_lt (g := gb170) (o := .cells #[.int .i64 a0_0, .int .i64 a0_1] 47 (0, 0)) (kx_ BK170.out)) : gb171 ≠ gb170)); clear BK170; clear HB; have BK170 := n0_; have HB := n1_; have BK171 := n2_; have GW171 := n3_; have GE171 := n4_; have NB170_171 := n5_; have NB171_170 := n6_; clear n0_ n1_ n2_ n3_ n4_ n5_ n6_; clear hb hbox hg; have hnb7 := NB170_171.out; have hnc7 := NB171_170.out; have hcz8_0 : w6.cell? ⟨gb170, 0, none⟩ = some (.int .i64 a0_0) := bc_ BK170 0; have hcz8_1 : w6.cell? ⟨gb170, 1, none⟩ = some (.int .i64 a0_1) := bc_ BK170 1; have hfz8_0 := blk_frozen BK170.out 0; have hfz8_1 := blk_frozen BK170.out 1; have hcz9_0 : w6.cell? ⟨gb171, 0, none⟩ = some (.int .i64 a1_0) := bc_ BK171 0; have hcz9_1 : w6.cell? ⟨gb171, 1, none⟩ = some (.int .i64 a1_1) := bc_ BK171 1; have hfz9_0 := blk_frozen BK171.out 0; have hfz9_1 := blk_frozen BK171.out 1))
   go_ret
   exact ⟨by first | rfl | (simp [errW_none, errW_some] <;> rfl) | (simp [*, errW_none, errW_some] <;> rfl), hm_⟩
  ·rw [if_neg c4] at H
   have c4b0 : (a0_1 == a1_1) = false := beq_eq_false_iff_ne.mpr c4
   have c4b1 : (a0_1 != a1_1) = true := bne_iff_ne.mpr c4
   obtain rfl := oI H
   go_enter Try.func36, Try.ntmps36
   go_wp2_with (first | ((with_reducible refine gate_dst (N := 2) rfl ?_); refine box_event ?hg (N := 2) ?hd (cs := #[.int .i64 a0_0, .int .i64 a0_1]) (t := 47) ?hr ?_; (case hd => rfl); (case hg => rfl); (case hr => first | (go_simp; done) | (go_simp; rfl)); intro gb170 hg w10 hbox hb; have n0_ := Aside0.mk (below_step hb_ hb); have n1_ := Aside0.mk (hbox); have n2_ := Aside0.mk ((by rw [hg]; exact (below_size hb_) : w.heap.size ≤ gb170)); have n3_ := Aside0.mk ((by rw [hg]; exact (below_size hb_) : w.heap.size ≤ gb170)); clear HB; have HB := n0_; have BK170 := n1_; have GW170 := n2_; have GE170 := n3_; clear n0_ n1_ n2_ n3_; clear hb hbox hg) | ((with_reducible refine gate_dst (N := 3) rfl ?_); refine box_event ?hg (N := 3) ?hd (cs := #[.int .i64 a1_0, .int .i64 a1_1]) (t := 47) ?hr ?_; (case hd => rfl); (case hg => rfl); (case hr => first | (go_simp; done) | (go_simp; rfl)); intro gb171 hg w11 hbox hb; have n0_ := Aside0.mk (blk_below (g := gb170) (o := .cells #[.int .i64 a0_0, .int .i64 a0_1] 47 (0, 0)) (kx_ BK170.out) hb); have n1_ := Aside0.mk (below_step (hs_ GE170.out) hb); have n2_ := Aside0.mk (hbox); have n3_ := Aside0.mk ((by rw [hg]; exact (below_size (hs_ GE170.out)) : w.heap.size ≤ gb171)); have n4_ := Aside0.mk ((by rw [hg]; exact (below_size (hs_ GE170.out)) : w.heap.size ≤ gb171)); have n5_ := Aside0.mk ((by rw [hg]; exact Nat.ne_of_lt (blk_lt (g := gb170) (o := .cells #[.int .i64 a0_0, .int .i64 a0_1] 47 (0, 0)) (kx_ BK170.out)) : gb170 ≠ gb171)); have n6_ := Aside0.mk ((by rw [hg]; exact Nat.ne_of_gt (blk_lt (g := gb170) (o := .cells #[.int .i64 a0_0, .int .i64 a0_1] 47 (0, 0)) (kx_ BK170.out)) : gb171 ≠ gb170)); clear BK170; clear HB; have BK170 := n0_; have HB := n1_; have BK171 := n2_; have GW171 := n3_; have GE171 := n4_; have NB170_171 := n5_; have NB171_170 := n6_; clear n0_ n1_ n2_ n3_ n4_ n5_ n6_; clear hb hbox hg; have hnb12 := NB170_171.out; have hnc12 := NB171_170.out; have hcz13_0 : w11.cell? ⟨gb170, 0, none⟩ = some (.int .i64 a0_0) := bc_ BK170 0; have hcz13_1 : w11.cell? ⟨gb170, 1, none⟩ = some (.int .i64 a0_1) := bc_ BK170 1; have hfz13_0 := blk_frozen BK170.out 0; have hfz13_1 := blk_frozen BK170.out 1; have hcz14_0 : w11.cell? ⟨gb171, 0, none⟩ = some (.int .i64 a1_0) := bc_ BK171 0; have hcz14_1 : w11.cell? ⟨gb171, 1, none⟩ = some (.int .i64 a1_1) := bc_ BK171 1; have hfz14_0 := blk_frozen BK171.out 0; have hfz14_1 := blk_frozen BK171.out 1))
   go_ret
   exact ⟨by first | rfl | (simp [errW_none, errW_some] <;> rfl) | (simp [*, errW_none, errW_some] <;> rfl), hm_⟩
 ·rw [if_neg c3] at H
  have c3b0 : (a0_0 == a1_0) = false := beq_eq_false_iff_ne.mpr c3
  have c3b1 : (a0_0 != a1_0) = true := bne_iff_ne.mpr c3
  obtain rfl := oI H
  go_enter Try.func36, Try.ntmps36
  go_wp2_with (first | ((with_reducible refine gate_dst (N := 2) rfl ?_); refine box_event ?hg (N := 2) ?hd (cs := #[.int .i64 a0_0, .int .i64 a0_1]) (t := 47) ?hr ?_; (case hd => rfl); (case hg => rfl); (case hr => first | (go_simp; done) | (go_simp; rfl)); intro gb170 hg w15 hbox hb; have n0_ := Aside0.mk (below_step hb_ hb); have n1_ := Aside0.mk (hbox); have n2_ := Aside0.mk ((by rw [hg]; exact (below_size hb_) : w.heap.size ≤ gb170)); have n3_ := Aside0.mk ((by rw [hg]; exact (below_size hb_) : w.heap.size ≤ gb170)); clear HB; have HB := n0_; have BK170 := n1_; have GW170 := n2_; have GE170 := n3_; clear n0_ n1_ n2_ n3_; clear hb hbox hg) | ((with_reducible refine gate_dst (N := 3) rfl ?_); refine box_event ?hg (N := 3) ?hd (cs := #[.int .i64 a1_0, .int .i64 a1_1]) (t := 47) ?hr ?_; (case hd => rfl); (case hg => rfl); (case hr => first | (go_simp; done) | (go_simp; rfl)); intro gb171 hg w16 hbox hb; have n0_ := Aside0.mk (blk_below (g := gb170) (o := .cells #[.int .i64 a0_0, .int .i64 a0_1] 47 (0, 0)) (kx_ BK170.out) hb); have n1_ := Aside0.mk (below_step (hs_ GE170.out) hb); have n2_ := Aside0.mk (hbox); have n3_ := Aside0.mk ((by rw [hg]; exact (below_size (hs_ GE170.out)) : w.heap.size ≤ gb171)); have n4_ := Aside0.mk ((by rw [hg]; exact (below_size (hs_ GE170.out)) : w.heap.size ≤ gb171)); have n5_ := Aside0.mk ((by rw [hg]; exact Nat.ne_of_lt (blk_lt (g := gb170) (o := .cells #[.int .i64 a0_0, .int .i64 a0_1] 47 (0, 0)) (kx_ BK170.out)) : gb170 ≠ gb171)); have n6_ := Aside0.mk ((by rw [hg]; exact Nat.ne_of_gt (blk_lt (g := gb170) (o := .cells #[.int .i64 a0_0, .int .i64 a0_1] 47 (0, 0)) (kx_ BK170.out)) : gb171 ≠ gb170)); clear BK170; clear HB; have BK170 := n0_; have HB := n1_; have BK171 := n2_; have GW171 := n3_; have GE171 := n4_; have NB170_171 := n5_; have NB171_170 := n6_; clear n0_ n1_ n2_ n3_ n4_ n5_ n6_; clear hb hbox hg; have hnb17 := NB170_171.out; have hnc17 := NB171_170.out; have hcz18_0 : w16.cell? ⟨gb170, 0, none⟩ = some (.int .i64 a0_0) := bc_ BK170 0; have hcz18_1 : w16.cell? ⟨gb170, 1, none⟩ = some (.int .i64 a0_1) := bc_ BK170 1; have hfz18_0 := blk_frozen BK170.out 0; have hfz18_1 := blk_frozen BK170.out 1; have hcz19_0 : w16.cell? ⟨gb171, 0, none⟩ = some (.int .i64 a1_0) := bc_ BK171 0; have hcz19_1 : w16.cell? ⟨gb171, 1, none⟩ = some (.int .i64 a1_1) := bc_ BK171 1; have hfz19_0 := blk_frozen BK171.out 0; have hfz19_1 := blk_frozen BK171.out 1))
  go_ret
  exact ⟨by first | rfl | (simp [errW_none, errW_some] <;> rfl) | (simp [*, errW_none, errW_some] <;> rfl), hm_⟩
def laws_eqChordS.l0 : Nat → List (S47) → List (S47) → Int → Option (Bool)
 | 0, _, _, _ => none
 | k + 1, x0, x1, x5 => if x5 < (x0.length : Int) then (if 0 ≤ x5 then (if x5 < (x1.length : Int) then ((laws_eqChord.f ((rd_T47 x0 x5).f0) ((rd_T47 x0 x5).f1) ((rd_T47 x1 x5).f0) ((rd_T47 x1 x5).f1)).bind fun t174 => (if t174 = true then (laws_eqChordS.l0 k x0 x1 (wrap64 (x5 + 1))) else (some false))) else (none)) else (none)) else (some true)
def laws_eqChordS.f (k : Nat) (l0 : List (S47)) (l1 : List (S47)) : Option (Bool) := if (l0.length : Int) = (l1.length : Int) then (laws_eqChordS.l0 k l0 l1 0) else (some false)
theorem laws_eqChordS.mono_l : ∀ k, (∀ y0 y1 y2, LeO (laws_eqChordS.l0 k y0 y1 y2) (laws_eqChordS.l0 (k + 1) y0 y1 y2))
 | 0 => fun _ _ _ r h => by simp [laws_eqChordS.l0] at h
 | k + 1 => by
  have ih0 := laws_eqChordS.mono_l k
  ·intro y0 y1 y2
   unfold laws_eqChordS.l0
   repeat' first
   | (with_reducible exact ih0 _ _ _)
   | (with_reducible exact LeO.refl _)
   | (with_reducible exact LeO.none _)
   | (with_reducible refine LeO.ite ?_ ?_)
   | (with_reducible refine LeO.bind ?_ (fun _ => ?_))
   | exact ih0 _ _ _
   | exact LeO.none _
   | refine LeO.ite ?_ ?_
   | refine LeO.bind ?_ (fun _ => ?_)
theorem laws_eqChordS.mono : ∀ a0 a1 k, LeO (laws_eqChordS.f k a0 a1) (laws_eqChordS.f (k + 1) a0 a1) := by
 intro a0 a1 k
 have ih0 := laws_eqChordS.mono_l k
 unfold laws_eqChordS.f
 repeat' first
   | (with_reducible exact ih0 _ _ _)
   | (with_reducible exact LeO.refl _)
   | (with_reducible exact LeO.none _)
   | (with_reducible refine LeO.ite ?_ ?_)
   | (with_reducible refine LeO.bind ?_ (fun _ => ?_))
   | exact ih0 _ _ _
   | exact LeO.none _
   | refine LeO.ite ?_ ?_
   | refine LeO.bind ?_ (fun _ => ?_)
def laws_eqChordS.T6 : Bool × List (List Nat × List Nat) := (true, [([], []), ([], []), ([0, 1], [0, 1]), ([2], [2]), ([], []), ([], []), ([4, 5], [4, 5]), ([6], [6]), ([3, 7], [3, 7]), ([8], [8])])
def laws_eqChordS.B6 : List Nat := [0, 0, 3, 7, 0, 0, 48, 112, 255, 511]
theorem laws_eqChordS.tab6 : rtab .any (opsOf Try.f14 6) = laws_eqChordS.T6 := by kernel_rfl
theorem laws_eqChordS.bits6 : waitsOk laws_eqChordS.T6.2 laws_eqChordS.B6 = true := by kernel_rfl
set_option maxHeartbeats 8000000 in
set_option maxRecDepth 100000 in
theorem laws_eqChordS.calls (k : Nat) (A0 : Option Addr) (c0 : Nat) (l0 : List (S47)) (A1 : Option Addr) (c1 : Nat) (l1 : List (S47)) (r : Bool) (w : World) (hr0 : Kd.C k47 w A0 l0.length l0) (hc0 : l0.length ≤ c0) (hr1 : Kd.C k47 w A1 l1.length l1) (hc1 : l1.length ≤ c1) (h : laws_eqChordS.f k l0 l1 = some r) :
  Calls Try.prog 14 #[.slice A0 l0.length c0, .slice A1 l1.length c1] w fun e w' => e = .returned (.bool r) ∧ Below w.heap.size w w' := by
 have hu47 := Try.underlying47
 have HR0 := Aside0.mk hr0
 have HC0 := Aside0.mk hc0
 clear hr0 hc0
 have HR1 := Aside0.mk hr1
 have HC1 := Aside0.mk hc1
 clear hr1 hc1
 have HB := Aside0.mk (Below.refl w.heap.size w)
 have H : (if (l0.length : Int) = (l1.length : Int) then (laws_eqChordS.l0 k l0 l1 0) else (some false)) = some r := h
 clear h
 by_cases c3 : (l0.length : Int) = (l1.length : Int)
 ·rw [if_pos c3] at H
  have c3b0 : ((l0.length : Int) == (l1.length : Int)) = true := beq_iff_eq.mpr c3
  have c3b1 : ((l0.length : Int) != (l1.length : Int)) = false := bne_eq_false_iff_eq.mpr c3
  have c3b2 : (l0.length == l1.length) = true := by first | simpa using c3 | (simp at c3 ⊢; omega)
  clear c3
  have H' := Aside0.mk H
  clear H
  go_enter Try.func14, Try.ntmps14
  go_wp2
  go_loopg [5] k (fun kq v5 w' => ∃ (x5_1 : Int), v5 = .int .i64 x5_1 ∧ Aside0 (laws_eqChordS.l0 kq l0 l1 x5_1 = some r) ∧ Aside0 (kq ≤ k) ∧ Aside0 (Below w.heap.size w w'))
  case atStart => exact ⟨(0), (by first | rfl | (simp; done) | (simp [*]; done)), H', ⟨Nat.le_refl _⟩, ⟨hb_⟩⟩
  case round =>
   clear H'
   try clear c1
   try clear p2
   try clear c3
   try clear c3b0
   try clear c3b1
   try clear c3b2
   obtain ⟨x5_1, rfl, HA, HK1, HB⟩ := hrel
   cases gk with
   | zero => exact absurd HA.out (by simp [laws_eqChordS.l0])
   | succ k1 =>
    have H := HA.out
    clear HA
    simp only [laws_eqChordS.l0] at H
    by_cases c4 : x5_1 < (l0.length : Int)
    ·rw [if_pos c4] at H
     have c4b0 : decide (x5_1 < (l0.length : Int)) = true := decide_eq_true c4
     clear c4
     by_cases c5 : 0 ≤ x5_1
     ·rw [if_pos c5] at H
      have c5b0 : decide (0 ≤ x5_1) = true := decide_eq_true c5
      clear c5
      by_cases c6 : x5_1 < (l1.length : Int)
      ·rw [if_pos c6] at H
       have c6b0 : decide (x5_1 < (l1.length : Int)) = true := decide_eq_true c6
       clear c6
       replace H := bI H
       obtain ⟨t174, A70, H⟩ := H
       replace H : (if t174 = true then (laws_eqChordS.l0 k1 l0 l1 (wrap64 (x5_1 + 1))) else (some false)) = some r := H
       have A7 := Aside0.mk A70
       clear A70
       by_cases c8 : t174 = true
       ·subst c8
        have H1 : (laws_eqChordS.l0 k1 l0 l1 (wrap64 (x5_1 + 1))) = some r := by rw [if_pos rfl] at H; exact H
        clear H
        have H := H1
        clear H1
        have H' := Aside0.mk H
        clear H
        try go_wp2
        have n0_ := Aside0.mk (below_drew1 HB.out)
        clear HB
        have HB := n0_
        clear n0_
        have p172 : 0 ≤ (x5_1 : Int) := of_decide_eq_true (by assumption)
        have q172 : x5_1 < (l0.length : Int) := of_decide_eq_true (by assumption)
        obtain ⟨ad172, e172, hx172_0, hx172_1⟩ := at_T47 HR0.out x5_1 p172 q172
        have hw172_1 := hx172_1
        have hw172_0 := hx172_0
        cases e172
        replace hx172_0 := (HB.out.cell (World.block_lt_of_cell? w _ hx172_0)).trans hx172_0
        replace hx172_1 := (HB.out.cell (World.block_lt_of_cell? w _ hx172_1)).trans hx172_1
        replace p172 := eq_true p172
        replace q172 := eq_true q172
        have p173 : 0 ≤ (x5_1 : Int) := of_decide_eq_true (by assumption)
        have q173 : x5_1 < (l1.length : Int) := of_decide_eq_true (by assumption)
        obtain ⟨ad173, e173, hx173_0, hx173_1⟩ := at_T47 HR1.out x5_1 p173 q173
        have hw173_1 := hx173_1
        have hw173_0 := hx173_0
        cases e173
        replace hx173_0 := (HB.out.cell (World.block_lt_of_cell? w _ hx173_0)).trans hx173_0
        replace hx173_1 := (HB.out.cell (World.block_lt_of_cell? w _ hx173_1)).trans hx173_1
        replace p173 := eq_true p173
        replace q173 := eq_true q173
        refine start_ (n := 10) (S := fun w' => w'.cell? (ad172.add ((x5_1).toNat * 2)) = some (.int .i64 ((rd_T47 l0 x5_1).f0)) ∧ w'.cell? ⟨(ad172.add ((x5_1).toNat * 2)).block, (ad172.add ((x5_1).toNat * 2)).off + 1, none⟩ = some (.int .i64 ((rd_T47 l0 x5_1).f1)) ∧ w'.cell? (ad173.add ((x5_1).toNat * 2)) = some (.int .i64 ((rd_T47 l1 x5_1).f0)) ∧ w'.cell? ⟨(ad173.add ((x5_1).toNat * 2)).block, (ad173.add ((x5_1).toNat * 2)).off + 1, none⟩ = some (.int .i64 ((rd_T47 l1 x5_1).f1))) (ds := []) #[false, false, false, false, false, false, false, false, false, false] (by kernel_rfl) rfl rfl ⟨((HB.out.cell (World.block_lt_of_cell? w _ hw172_0)).trans hw172_0), ((HB.out.cell (World.block_lt_of_cell? w _ hw172_1)).trans hw172_1), ((HB.out.cell (World.block_lt_of_cell? w _ hw173_0)).trans hw173_0), ((HB.out.cell (World.block_lt_of_cell? w _ hw173_1)).trans hw173_1)⟩ (fun hHeld => ?_); refine with_tabW laws_eqChordS.tab6 laws_eqChordS.bits6 (fun HT_ HW_ => ?_)
        generalize wr.drew = w9 at HB hx172_0 hx172_1 hx173_0 hx173_1 hHeld ⊢
        refine pure_ (i := 0) (N := some 17) (v := ?_) (a' := ?_) #[true, false, false, false, false, false, false, false, false, false] rfl rfl (any_of HT_.out (by kernel_rfl)) (fun _ _ _ h => h) (Or.inl ⟨by rfl, ?_⟩) ?_ ?_
        rotate_left
        ·intro w'
         go_simp
         with_reducible rfl
        rotate_left
        ·simp only [Act.put, sT, sZ, sS, i64_w, i32_w]
         rfl
        refine pure_ (i := 1) (N := some 18) (v := ?_) (a' := ?_) #[true, true, false, false, false, false, false, false, false, false] rfl rfl (any_of HT_.out (by kernel_rfl)) (fun _ _ _ h => h) (Or.inl ⟨by rfl, ?_⟩) ?_ ?_
        rotate_left
        ·intro w'
         go_simp
         with_reducible rfl
        rotate_left
        ·simp only [Act.put, sT, sZ, sS, i64_w, i32_w]
         rfl
        refine pure_ (i := 2) (N := some 19) (v := ?_) (a' := ?_) #[true, true, true, false, false, false, false, false, false, false] rfl rfl (any_of HT_.out (by kernel_rfl)) (fun _ _ _ h => h) (Or.inl ⟨by rfl, ?_⟩) ?_ ?_
        rotate_left
        ·intro w'
         go_simp
         with_reducible rfl
        rotate_left
        ·simp only [Act.put, sT, sZ, sS, i64_w, i32_w]
         rfl
        refine pure_ (i := 4) (N := some 21) (v := ?_) (a' := ?_) #[true, true, true, false, true, false, false, false, false, false] rfl rfl (any_of HT_.out (by kernel_rfl)) (fun _ _ _ h => h) (Or.inl ⟨by rfl, ?_⟩) ?_ ?_
        rotate_left
        ·intro w'
         go_simp
         with_reducible rfl
        rotate_left
        ·simp only [Act.put, sT, sZ, sS, i64_w, i32_w]
         rfl
        refine pure_ (i := 5) (N := some 22) (v := ?_) (a' := ?_) #[true, true, true, false, true, true, false, false, false, false] rfl rfl (any_of HT_.out (by kernel_rfl)) (fun _ _ _ h => h) (Or.inl ⟨by rfl, ?_⟩) ?_ ?_
        rotate_left
        ·intro w'
         go_simp
         with_reducible rfl
        rotate_left
        ·simp only [Act.put, sT, sZ, sS, i64_w, i32_w]
         rfl
        refine pure_ (i := 6) (N := some 23) (v := ?_) (a' := ?_) #[true, true, true, false, true, true, true, false, false, false] rfl rfl (any_of HT_.out (by kernel_rfl)) (fun _ _ _ h => h) (Or.inl ⟨by rfl, ?_⟩) ?_ ?_
        rotate_left
        ·intro w'
         go_simp
         with_reducible rfl
        rotate_left
        ·simp only [Act.put, sT, sZ, sS, i64_w, i32_w]
         rfl
        refine take_ (i := 3) (N := some 20) (v := ?_) (a' := ?_) #[true, true, true, true, true, true, true, false, false, false] rfl rfl (take_ofW HT_.out HW_.out (by kernel_rfl)) (fun _ _ _ h => h) (Or.inl ⟨by rfl, ?_⟩) hHeld ?_ ?_
        rotate_left
        ·rintro w' ⟨s0, s1, s2, s3⟩
         go_simp
         with_reducible rfl
        rotate_left
        ·simp only [Act.put, sT, sZ, sS, i64_w, i32_w]
         rfl
        refine take_ (i := 7) (N := some 24) (v := ?_) (a' := ?_) #[true, true, true, true, true, true, true, true, false, false] rfl rfl (take_ofW HT_.out HW_.out (by kernel_rfl)) (fun _ _ _ h => h) (Or.inl ⟨by rfl, ?_⟩) hHeld ?_ ?_
        rotate_left
        ·rintro w' ⟨s0, s1, s2, s3⟩
         go_simp
         with_reducible rfl
        rotate_left
        ·simp only [Act.put, sT, sZ, sS, i64_w, i32_w]
         rfl
        refine one_ (i := 8) (N := some 25) #[true, true, true, true, true, true, true, true, true, false] rfl rfl (one_of HT_.out (by kernel_rfl)) (by decide) (fun K hK => ?_)
        refine goes_ Try.func36 (by kernel_rfl) rfl #[.agg #[.int .i64 ((rd_T47 l0 x5_1).f0), .int .i64 ((rd_T47 l0 x5_1).f1)], .agg #[.int .i64 ((rd_T47 l1 x5_1).f0), .int .i64 ((rd_T47 l1 x5_1).f1)]] (by rfl) rfl rfl ar_ ?_
        with_reducible refine (laws_eqChord.calls ((rd_T47 l0 x5_1).f0) ((rd_T47 l0 x5_1).f1) ((rd_T47 l1 x5_1).f0) ((rd_T47 l1 x5_1).f1) true _ A7.out).mono ?_
        rintro e w10 ⟨rfl, hb⟩
        refine ⟨_, rfl, ?_⟩
        have n0_ := Aside0.mk (below_step hb_ hb)
        clear HB
        have HB := n0_
        clear n0_
        (try clear hb)
        (try clear hb2)
        (try clear hk)
        (try clear hi)
        refine hK.out _ _ ⟨((HB.out.cell (World.block_lt_of_cell? w _ hw172_0)).trans hw172_0), ((HB.out.cell (World.block_lt_of_cell? w _ hw172_1)).trans hw172_1), ((HB.out.cell (World.block_lt_of_cell? w _ hw173_0)).trans hw173_0), ((HB.out.cell (World.block_lt_of_cell? w _ hw173_1)).trans hw173_1)⟩ (fun hHeld => ?_)
        clear hK K
        refine norm_ (a' := ?_) ?_ ?_
        rotate_left
        ·show Act.put _ (some 25) _ = _
         simp only [Act.put, sT, sZ, sS, i64_w, i32_w]
         rfl
        refine pure_ (i := 9) (N := some 26) (v := ?_) (a' := ?_) #[true, true, true, true, true, true, true, true, true, true] rfl rfl (any_of HT_.out (by kernel_rfl)) (fun _ _ _ h => h) (Or.inl ⟨by rfl, ?_⟩) ?_ ?_
        rotate_left
        ·intro w'
         go_simp
         with_reducible rfl
        rotate_left
        ·simp only [Act.put, sT, sZ, sS, i64_w, i32_w]
         rfl
        refine done_ (done_of HT_.out (by kernel_rfl)) ?_
        try go_wp2
        go_roundg k1
        case measure => have := HK1.out; omega
        case rel => exact ⟨(wrap64 (x5_1 + 1)), (by first | rfl | (simp; done) | (simp [*]; done)), H', ⟨by have := HK1.out; omega⟩, ⟨hb_⟩⟩
       ·replace c8 := Bool.eq_false_iff.mpr c8
        subst c8
        have H1 : (some false) = some r := by rw [if_neg (show ¬ (false = true) by decide)] at H; exact H
        clear H
        have H := H1
        clear H1
        obtain rfl := oI H
        try go_wp2
        have n0_ := Aside0.mk (below_drew1 HB.out)
        clear HB
        have HB := n0_
        clear n0_
        have p172 : 0 ≤ (x5_1 : Int) := of_decide_eq_true (by assumption)
        have q172 : x5_1 < (l0.length : Int) := of_decide_eq_true (by assumption)
        obtain ⟨ad172, e172, hx172_0, hx172_1⟩ := at_T47 HR0.out x5_1 p172 q172
        have hw172_1 := hx172_1
        have hw172_0 := hx172_0
        cases e172
        replace hx172_0 := (HB.out.cell (World.block_lt_of_cell? w _ hx172_0)).trans hx172_0
        replace hx172_1 := (HB.out.cell (World.block_lt_of_cell? w _ hx172_1)).trans hx172_1
        replace p172 := eq_true p172
        replace q172 := eq_true q172
        have p173 : 0 ≤ (x5_1 : Int) := of_decide_eq_true (by assumption)
        have q173 : x5_1 < (l1.length : Int) := of_decide_eq_true (by assumption)
        obtain ⟨ad173, e173, hx173_0, hx173_1⟩ := at_T47 HR1.out x5_1 p173 q173
        have hw173_1 := hx173_1
        have hw173_0 := hx173_0
        cases e173
        replace hx173_0 := (HB.out.cell (World.block_lt_of_cell? w _ hx173_0)).trans hx173_0
        replace hx173_1 := (HB.out.cell (World.block_lt_of_cell? w _ hx173_1)).trans hx173_1
        replace p173 := eq_true p173
        replace q173 := eq_true q173
        refine start_ (n := 10) (S := fun w' => w'.cell? (ad172.add ((x5_1).toNat * 2)) = some (.int .i64 ((rd_T47 l0 x5_1).f0)) ∧ w'.cell? ⟨(ad172.add ((x5_1).toNat * 2)).block, (ad172.add ((x5_1).toNat * 2)).off + 1, none⟩ = some (.int .i64 ((rd_T47 l0 x5_1).f1)) ∧ w'.cell? (ad173.add ((x5_1).toNat * 2)) = some (.int .i64 ((rd_T47 l1 x5_1).f0)) ∧ w'.cell? ⟨(ad173.add ((x5_1).toNat * 2)).block, (ad173.add ((x5_1).toNat * 2)).off + 1, none⟩ = some (.int .i64 ((rd_T47 l1 x5_1).f1))) (ds := []) #[false, false, false, false, false, false, false, false, false, false] (by kernel_rfl) rfl rfl ⟨((HB.out.cell (World.block_lt_of_cell? w _ hw172_0)).trans hw172_0), ((HB.out.cell (World.block_lt_of_cell? w _ hw172_1)).trans hw172_1), ((HB.out.cell (World.block_lt_of_cell? w _ hw173_0)).trans hw173_0), ((HB.out.cell (World.block_lt_of_cell? w _ hw173_1)).trans hw173_1)⟩ (fun hHeld => ?_); refine with_tabW laws_eqChordS.tab6 laws_eqChordS.bits6 (fun HT_ HW_ => ?_)
        generalize wr.drew = w11 at HB hx172_0 hx172_1 hx173_0 hx173_1 hHeld ⊢
        refine pure_ (i := 0) (N := some 17) (v := ?_) (a' := ?_) #[true, false, false, false, false, false, false, false, false, false] rfl rfl (any_of HT_.out (by kernel_rfl)) (fun _ _ _ h => h) (Or.inl ⟨by rfl, ?_⟩) ?_ ?_
        rotate_left
        ·intro w'
         go_simp
         with_reducible rfl
        rotate_left
        ·simp only [Act.put, sT, sZ, sS, i64_w, i32_w]
         rfl
        refine pure_ (i := 1) (N := some 18) (v := ?_) (a' := ?_) #[true, true, false, false, false, false, false, false, false, false] rfl rfl (any_of HT_.out (by kernel_rfl)) (fun _ _ _ h => h) (Or.inl ⟨by rfl, ?_⟩) ?_ ?_
        rotate_left
        ·intro w'
         go_simp
         with_reducible rfl
        rotate_left
        ·simp only [Act.put, sT, sZ, sS, i64_w, i32_w]
         rfl
        refine pure_ (i := 2) (N := some 19) (v := ?_) (a' := ?_) #[true, true, true, false, false, false, false, false, false, false] rfl rfl (any_of HT_.out (by kernel_rfl)) (fun _ _ _ h => h) (Or.inl ⟨by rfl, ?_⟩) ?_ ?_
        rotate_left
        ·intro w'
         go_simp
         with_reducible rfl
        rotate_left
        ·simp only [Act.put, sT, sZ, sS, i64_w, i32_w]
         rfl
        refine pure_ (i := 4) (N := some 21) (v := ?_) (a' := ?_) #[true, true, true, false, true, false, false, false, false, false] rfl rfl (any_of HT_.out (by kernel_rfl)) (fun _ _ _ h => h) (Or.inl ⟨by rfl, ?_⟩) ?_ ?_
        rotate_left
        ·intro w'
         go_simp
         with_reducible rfl
        rotate_left
        ·simp only [Act.put, sT, sZ, sS, i64_w, i32_w]
         rfl
        refine pure_ (i := 5) (N := some 22) (v := ?_) (a' := ?_) #[true, true, true, false, true, true, false, false, false, false] rfl rfl (any_of HT_.out (by kernel_rfl)) (fun _ _ _ h => h) (Or.inl ⟨by rfl, ?_⟩) ?_ ?_
        rotate_left
        ·intro w'
         go_simp
         with_reducible rfl
        rotate_left
        ·simp only [Act.put, sT, sZ, sS, i64_w, i32_w]
         rfl
        refine pure_ (i := 6) (N := some 23) (v := ?_) (a' := ?_) #[true, true, true, false, true, true, true, false, false, false] rfl rfl (any_of HT_.out (by kernel_rfl)) (fun _ _ _ h => h) (Or.inl ⟨by rfl, ?_⟩) ?_ ?_
        rotate_left
        ·intro w'
         go_simp
         with_reducible rfl
        rotate_left
        ·simp only [Act.put, sT, sZ, sS, i64_w, i32_w]
         rfl
        refine take_ (i := 3) (N := some 20) (v := ?_) (a' := ?_) #[true, true, true, true, true, true, true, false, false, false] rfl rfl (take_ofW HT_.out HW_.out (by kernel_rfl)) (fun _ _ _ h => h) (Or.inl ⟨by rfl, ?_⟩) hHeld ?_ ?_
        rotate_left
        ·rintro w' ⟨s0, s1, s2, s3⟩
         go_simp
         with_reducible rfl
        rotate_left
        ·simp only [Act.put, sT, sZ, sS, i64_w, i32_w]
         rfl
        refine take_ (i := 7) (N := some 24) (v := ?_) (a' := ?_) #[true, true, true, true, true, true, true, true, false, false] rfl rfl (take_ofW HT_.out HW_.out (by kernel_rfl)) (fun _ _ _ h => h) (Or.inl ⟨by rfl, ?_⟩) hHeld ?_ ?_
        rotate_left
        ·rintro w' ⟨s0, s1, s2, s3⟩
         go_simp
         with_reducible rfl
        rotate_left
        ·simp only [Act.put, sT, sZ, sS, i64_w, i32_w]
         rfl
        refine one_ (i := 8) (N := some 25) #[true, true, true, true, true, true, true, true, true, false] rfl rfl (one_of HT_.out (by kernel_rfl)) (by decide) (fun K hK => ?_)
        refine goes_ Try.func36 (by kernel_rfl) rfl #[.agg #[.int .i64 ((rd_T47 l0 x5_1).f0), .int .i64 ((rd_T47 l0 x5_1).f1)], .agg #[.int .i64 ((rd_T47 l1 x5_1).f0), .int .i64 ((rd_T47 l1 x5_1).f1)]] (by rfl) rfl rfl ar_ ?_
        with_reducible refine (laws_eqChord.calls ((rd_T47 l0 x5_1).f0) ((rd_T47 l0 x5_1).f1) ((rd_T47 l1 x5_1).f0) ((rd_T47 l1 x5_1).f1) false _ A7.out).mono ?_
        rintro e w12 ⟨rfl, hb⟩
        refine ⟨_, rfl, ?_⟩
        have n0_ := Aside0.mk (below_step hb_ hb)
        clear HB
        have HB := n0_
        clear n0_
        (try clear hb)
        (try clear hb2)
        (try clear hk)
        (try clear hi)
        refine hK.out _ _ ⟨((HB.out.cell (World.block_lt_of_cell? w _ hw172_0)).trans hw172_0), ((HB.out.cell (World.block_lt_of_cell? w _ hw172_1)).trans hw172_1), ((HB.out.cell (World.block_lt_of_cell? w _ hw173_0)).trans hw173_0), ((HB.out.cell (World.block_lt_of_cell? w _ hw173_1)).trans hw173_1)⟩ (fun hHeld => ?_)
        clear hK K
        refine norm_ (a' := ?_) ?_ ?_
        rotate_left
        ·show Act.put _ (some 25) _ = _
         simp only [Act.put, sT, sZ, sS, i64_w, i32_w]
         rfl
        refine pure_ (i := 9) (N := some 26) (v := ?_) (a' := ?_) #[true, true, true, true, true, true, true, true, true, true] rfl rfl (any_of HT_.out (by kernel_rfl)) (fun _ _ _ h => h) (Or.inl ⟨by rfl, ?_⟩) ?_ ?_
        rotate_left
        ·intro w'
         go_simp
         with_reducible rfl
        rotate_left
        ·simp only [Act.put, sT, sZ, sS, i64_w, i32_w]
         rfl
        refine done_ (done_of HT_.out (by kernel_rfl)) ?_
        try go_wp2
        go_ret
        exact ⟨by first | rfl | (simp [errW_none, errW_some] <;> rfl) | (simp [*, errW_none, errW_some] <;> rfl), hb_⟩
      ·rw [if_neg c6] at H
       exact absurd H (by simp)
     ·rw [if_neg c5] at H
      exact absurd H (by simp)
    ·rw [if_neg c4] at H
     have c4b0 : decide (x5_1 < (l0.length : Int)) = false := decide_eq_false c4
     clear c4
     obtain rfl := oI H
     go_wp2
     go_ret
     exact ⟨by first | rfl | (simp [errW_none, errW_some] <;> rfl) | (simp [*, errW_none, errW_some] <;> rfl), hb_⟩
 ·rw [if_neg c3] at H
  have c3b0 : ((l0.length : Int) == (l1.length : Int)) = false := beq_eq_false_iff_ne.mpr c3
  have c3b1 : ((l0.length : Int) != (l1.length : Int)) = true := bne_iff_ne.mpr c3
  have c3b2 : (l0.length == l1.length) = false := by first | simpa using c3 | (simp at c3 ⊢; omega)
  obtain rfl := oI H
  go_enter Try.func14, Try.ntmps14
  go_wp2
  go_ret
  exact ⟨by first | rfl | (simp [errW_none, errW_some] <;> rfl) | (simp [*, errW_none, errW_some] <;> rfl), hb_⟩
end Go.Proofs.Ytdeenfpcmaadcaa.Pr
/- The statements' own helpers on lists of chords: the size, the copies and the comparison. -/
namespace Go.Proofs.Ytdeenfpcmaadcaa.M
open Go.RowKit Go.Proofs.YtdeenfpcmaadcaaW.PrintWords Go.Proofs.Ytdeenfpcmaadcaa.Pr
abbrev LCh := S49
def toC (c : LCh) : Ch := ⟨c.f0, c.f1⟩
theorem rd_lch (l : List LCh) (i : Nat) (h : i < l.length) : rd_T49 l (i : Int) = l[i] := by
  unfold rd_T49
  simp [List.getD_eq_getElem?_getD, List.getElem?_eq_getElem h]
theorem szC_small (l : List LCh) (h : l.length ≤ 1048576) : laws_szChordS.f l 1048576 = some (1048576 - (l.length : Int)) := by
  unfold laws_szChordS.f
  rw [w64 (by omega) (by omega), if_neg (by omega)]
theorem szC_big (l : List LCh) (h : 1048576 < l.length) (hm : l.length ≤ maxLen) : laws_szChordS.f l 1048576 = some (-1) := by
  unfold maxLen at hm
  unfold laws_szChordS.f
  rw [w64 (by omega) (by omega), if_pos (by omega)]
theorem toC_ev (l : List LCh) (hl : l.length ≤ 1048576) : Ev (fun k => laws_toChordS.f k l) (l.map toC) := by
  unfold laws_toChordS.f
  refine Ev.pos (by omega) (Ev.pos (by simp; omega) ?_)
  rw [Int.toNat_natCast]
  refine Ev.scan0 (fun k i acc => laws_toChordS.l0 k l acc i) l (fun rest acc => l.map toC) (fun i acc => acc = (l.take i).map toC ++ List.replicate (l.length - i) z47)
    (fun acc hp => by
      refine Ev.step (fun k => by rw [laws_toChordS.l0]) ?_
      refine Ev.neg (by omega) (Ev.val ?_)
      rw [hp]
      simp)
    (fun i h acc hp => by
      have hr := rd_lch l i h
      have hal : acc.length = l.length := by rw [hp]; simp; omega
      refine .inl ⟨acc.set i (toC l[i]), ?_, rfl, fun r hr2 => ?_⟩
      · rw [hp, List.take_succ_eq_append_getElem h, List.map_append, List.append_assoc]
        have ht : ((l.take i).map toC).length = i := by simp; omega
        rw [List.set_append_right i _ (by omega), ht, Nat.sub_self]
        congr 1
        obtain ⟨q, hq⟩ : ∃ q, l.length - i = q + 1 := ⟨l.length - i - 1, by omega⟩
        rw [hq, show l.length - (i + 1) = q by omega, List.replicate_succ, List.set_cons_zero]
        rfl
      · refine Ev.step (fun k => by rw [laws_toChordS.l0]) ?_
        refine Ev.pos (by omega) (Ev.pos (by omega) ?_)
        rw [hr]
        refine Ev.bindc (a := (l[i].f0, l[i].f1)) rfl (Ev.pos (by omega) ?_)
        rw [w64 (x := (i : Int) + 1) (by omega) (by omega), Int.toNat_natCast]
        exact hr2)
    _ (by simp)
theorem eqC_ev (l : List Ch) (hl : l.length ≤ 9223372036854775806) : Ev (fun k => laws_eqChordS.f k l l) true := by
  unfold laws_eqChordS.f
  refine Ev.pos rfl ?_
  have e := Ev.scan0 (fun k i (_ : Unit) => laws_eqChordS.l0 k l l i) l (fun _ _ => true) (fun _ _ => True)
    (fun acc _ => by
      refine Ev.step (fun k => by rw [laws_eqChordS.l0]) ?_
      exact Ev.neg (by omega) (Ev.now true))
    (fun i h acc _ => by
      refine .inl ⟨(), trivial, rfl, fun r hr2 => ?_⟩
      refine Ev.step (fun k => by rw [laws_eqChordS.l0]) ?_
      refine Ev.pos (by omega) (Ev.pos (by omega) (Ev.pos (by omega) ?_))
      refine Ev.bindc (a := true) (by unfold laws_eqChord.f; simp) (Ev.pos rfl ?_)
      rw [w64 (x := (i : Int) + 1) (by omega) (by omega)]
      exact hr2) () trivial
  exact e
end Go.Proofs.Ytdeenfpcmaadcaa.M
namespace Go.Proofs.Ytdeenfpcmaadcaa.Pr
open Go.RowKit Go.Proofs.YtdeenfpcmaadcaaW.PrintWords Go.Proofs.YtdeenfpcmaadcaaW.PrintLast Go.Proofs.YtdeenfpcmaadcaaW.PrintMore
attribute [local go_sem] max2_int min2_int max_two min_two max_three min_three max_four min_four
def laws_markChordS.l0 : Nat → List (S47) → Int → Int → Option (Int × (List (S47)))
 | 0, _, _, _ => none
 | k + 1, x0, x1, x5 => if x5 < (x0.length : Int) then (if 0 ≤ x5 then ((some (x0.set (x5 : Int).toNat (⟨x1, (rd_T47 x0 x5).f1⟩ : S47) : List (S47))).bind fun y175 => (laws_markChordS.l0 k (y175.set (x5 : Int).toNat (⟨(rd_T47 y175 x5).f0, wrap64 (x1 + 1)⟩ : S47)) (wrap64 ((wrap64 (x1 + 1)) + 1)) (wrap64 (x5 + 1)))) else (none)) else (some (x1, x0))
def laws_markChordS.f (k : Nat) (l0 : List (S47)) (a1 : Int) : Option (Int × (List (S47))) := laws_markChordS.l0 k l0 a1 0
theorem laws_markChordS.mono_l : ∀ k, (∀ y0 y1 y2, LeO (laws_markChordS.l0 k y0 y1 y2) (laws_markChordS.l0 (k + 1) y0 y1 y2))
 | 0 => fun _ _ _ r h => by simp [laws_markChordS.l0] at h
 | k + 1 => by
  have ih0 := laws_markChordS.mono_l k
  ·intro y0 y1 y2
   unfold laws_markChordS.l0
   repeat' first
   | (with_reducible exact ih0 _ _ _)
   | (with_reducible exact LeO.refl _)
   | (with_reducible exact LeO.none _)
   | (with_reducible refine LeO.ite ?_ ?_)
   | (with_reducible refine LeO.bind ?_ (fun _ => ?_))
   | exact ih0 _ _ _
   | exact LeO.none _
   | refine LeO.ite ?_ ?_
   | refine LeO.bind ?_ (fun _ => ?_)
theorem laws_markChordS.mono : ∀ a0 a1 k, LeO (laws_markChordS.f k a0 a1) (laws_markChordS.f (k + 1) a0 a1) := by
 intro a0 a1 k
 have ih0 := laws_markChordS.mono_l k
 unfold laws_markChordS.f
 repeat' first
   | (with_reducible exact ih0 _ _ _)
   | (with_reducible exact LeO.refl _)
   | (with_reducible exact LeO.none _)
   | (with_reducible refine LeO.ite ?_ ?_)
   | (with_reducible refine LeO.bind ?_ (fun _ => ?_))
   | exact ih0 _ _ _
   | exact LeO.none _
   | refine LeO.ite ?_ ?_
   | refine LeO.bind ?_ (fun _ => ?_)
set_option maxHeartbeats 8000000 in
set_option maxRecDepth 100000 in
theorem laws_markChordS.calls (k : Nat) (P0_ : Nat → Prop) (u9000_ : Value) (l0 : List (S47)) (a1 : Int) (r1 : Int) (r2 : List (S47)) (w0 w : World) (hB : Below w0.heap.size w0 w) (ho0 : Kd.R k47 47 w w0.heap.size P0_ u9000_ l0) (h : laws_markChordS.f k l0 a1 = some (r1, r2)) :
  Calls Try.prog 15 #[u9000_, .int .i64 a1] w fun e w' => e = .returned (.int .i64 r1) ∧ Kd.R k47 47 w' w0.heap.size (fun k_ => (P0_ k_ ∨ w.heap.size ≤ k_)) u9000_ r2 ∧ Below w0.heap.size w0 w' ∧ Kept w w' (fun k_ => P0_ k_) := by
 have HO0 := Aside0.mk (show Kd.R k47 47 w w0.heap.size (fun k_ => (P0_ k_ ∨ w.heap.size ≤ k_)) u9000_ l0 from Kd.R_mono ho0 (fun k_ hk => (.inl hk)))
 have HK := Aside0.mk (Kept.refl w (fun k_ => P0_ k_))
 have HW0 := Aside0.mk hB.size
 have HB := Aside0.mk hB
 clear hB
 have H : (laws_markChordS.l0 k l0 a1 0) = some (r1, r2) := h
 clear h
 have H' := Aside0.mk H
 clear H
 go_enter Try.func15, Try.ntmps15
 go_wp2
 go_loopg [1, 5] k (fun kq v1 v5 w' => ∃ (x0_1 : List (S47)) (x1_1 : Int) (x5_1 : Int), v1 = .int .i64 x1_1 ∧ v5 = .int .i64 x5_1 ∧ Aside0 (laws_markChordS.l0 kq x0_1 x1_1 x5_1 = some (r1, r2)) ∧ Aside0 (kq ≤ k) ∧ Aside0 (Kd.R k47 47 w' w0.heap.size (fun k_ => (P0_ k_ ∨ w.heap.size ≤ k_)) u9000_ x0_1) ∧ Aside0 (Kept w w' (fun k_ => P0_ k_)) ∧ Aside0 (Below w0.heap.size w0 w'))
 case atStart => exact ⟨(l0), (a1), (0), (by first | rfl | (simp; done) | (simp [*]; done)), (by first | rfl | (simp; done) | (simp [*]; done)), H', ⟨Nat.le_refl _⟩, ⟨by (with_reducible repeat (first | apply rA | apply rN | apply rD)); exact HO0.out⟩, ⟨by repeat (first | (with_reducible first | exact HK.out | apply Kept.alloc | apply Kept.drewN | apply Kept.drew) | exact HK.out)⟩, ⟨hb_⟩⟩
 case round =>
  clear H'
  try clear c1
  try clear p2
  obtain ⟨x0_1, x1_1, x5_1, rfl, rfl, HA, HK1, HO_0, HK, HB⟩ := hrel
  cases gk with
  | zero => exact absurd HA.out (by simp [laws_markChordS.l0])
  | succ k1 =>
   have H := HA.out
   clear HA
   simp only [laws_markChordS.l0] at H
   by_cases c3 : x5_1 < (x0_1.length : Int)
   ·rw [if_pos c3] at H
    have c3b0 : decide (x5_1 < (x0_1.length : Int)) = true := decide_eq_true c3
    clear c3
    by_cases c4 : 0 ≤ x5_1
    ·rw [if_pos c4] at H
     have c4b0 : decide (0 ≤ x5_1) = true := decide_eq_true c4
     clear c4
     obtain ⟨y175, hy175⟩ : ∃ y_ : List (S47), y_ = (x0_1.set (x5_1 : Int).toNat (⟨x1_1, (rd_T47 x0_1 x5_1).f1⟩ : S47)) := ⟨_, rfl⟩
     replace H : (laws_markChordS.l0 k1 (y175.set (x5_1 : Int).toNat (⟨(rd_T47 y175 x5_1).f0, wrap64 (x1_1 + 1)⟩ : S47)) (wrap64 ((wrap64 (x1_1 + 1)) + 1)) (wrap64 (x5_1 + 1))) = some (r1, r2) := by first | (rw [hy175]; with_reducible exact H) | (have H2_ := (Option.bind_some _ _).symm.trans H; rw [hy175]; with_reducible exact H2_) | (have H2_ := (Option.bind_some _ _).symm.trans H; with_reducible exact H2_) | with_reducible exact H | (rw [hy175]; exact H) | exact H
     have Ny175 := Aside0.mk hy175
     clear hy175
     obtain ⟨y176, hy176⟩ : ∃ y_ : List (S47), y_ = (y175.set (x5_1 : Int).toNat (⟨(rd_T47 y175 x5_1).f0, wrap64 (x1_1 + 1)⟩ : S47)) := ⟨_, rfl⟩
     replace H : (laws_markChordS.l0 k1 y176 (wrap64 ((wrap64 (x1_1 + 1)) + 1)) (wrap64 (x5_1 + 1))) = some (r1, r2) := by first | (rw [hy176]; with_reducible exact H) | (have H2_ := (Option.bind_some _ _).symm.trans H; rw [hy176]; with_reducible exact H2_) | (have H2_ := (Option.bind_some _ _).symm.trans H; with_reducible exact H2_) | with_reducible exact H | (rw [hy176]; exact H) | exact H
     have Ny176 := Aside0.mk hy176
     clear hy176
     have H' := Aside0.mk H
     clear H
     obtain ⟨Ao7, co7, eo7⟩ := Kd.R_slice HO_0.out
     subst eo7
     have p5 : 0 ≤ (x5_1 : Int) := of_decide_eq_true (by assumption)
     have q5 : (x5_1 : Int) < ((x0_1.length : Int) : Int) := of_decide_eq_true (by assumption)
     obtain ⟨go5, co5, eo5, gb5, gl5, cl5, HG5⟩ := Kd.R_form HO_0.out (by omega)
     (first | cases eo5 | (injection eo5 with ea_ en_ ec_; (first | subst ea_ | (injection ea_ with ea_; subst ea_)); subst ec_; clear en_))
     have GB5 := Aside0.mk gb5
     have GG5 := Aside0.mk HG5
     clear gb5 gl5 HG5
     have HMgo5 := Aside0.mk (show (P0_ go5 ∨ w.heap.size ≤ go5) from (HO_0.out.1 _ rfl))
     obtain ⟨ce5, hcl5, hM5, hcc5, hfr5⟩ := Kd.R_elem HO_0.out z47 (x5_1 : Int) p5 q5
     obtain rfl := k47_openM hM5
     have hx5_0 : wr.cell? ⟨go5, (x5_1 : Int).toNat * 2, none⟩ = some (.int .i64 ((rd_T47 x0_1 x5_1).f0)) := hcc5 0 _ rfl
     have hx5_1 : wr.cell? ⟨go5, (x5_1 : Int).toNat * 2 + 1, none⟩ = some (.int .i64 ((rd_T47 x0_1 x5_1).f1)) := hcc5 1 _ rfl
     have hf5_0 : wr.frozen? ⟨go5, (x5_1 : Int).toNat * 2, none⟩ = false := hfr5 0
     have hf5_1 : wr.frozen? ⟨go5, (x5_1 : Int).toNat * 2 + 1, none⟩ = false := hfr5 1
     clear hcl5 hcc5 hfr5 hM5
     replace p5 := eq_true p5
     replace q5 := eq_true q5
     have HX8 := Aside0.mk (show Kd.R k47 47 wr w0.heap.size (fun k_ => (P0_ k_ ∨ w.heap.size ≤ k_)) (.slice (some ⟨go5, 0, none⟩) x0_1.length co7) x0_1 from (ra_ HO_0.out))
     obtain ⟨ce8, hcl8, hM8, hcc8, hfr8⟩ := Kd.R_elem HX8.out z47 (x5_1 : Int) (of_decide_eq_true (by assumption)) (by have h_ : (x5_1 : Int) < ((x0_1.length : Int) : Int) := of_decide_eq_true (by assumption); first | exact h_ | (have e_ := (Kd.R_reads' HO_0.out).1; omega) | simpa using h_)
     obtain rfl := k47_openM hM8
     have HP8 := Kd.R_seg HX8.out (x5_1 : Int) (of_decide_eq_true (by assumption)) (by have h_ : (x5_1 : Int) < ((x0_1.length : Int) : Int) := of_decide_eq_true (by assumption); first | exact h_ | (have e_ := (Kd.R_reads' HO_0.out).1; omega) | simpa using h_) (seg := [.int .i64 x1_1]) (j := 0) hcl8 hcc8 (show 1 ≤ 2 from by decide) (x' := (⟨x1_1, (rd_T47 x0_1 x5_1).f1⟩ : S47)) (k47_mkM _ _ _ (⟨x1_1, (rd_T47 x0_1 x5_1).f1⟩ : S47) ) (fun _ hk => hk)
     have hx8_0 := hcc8 0 _ rfl
     (try simp only [show (k47).sz = 2 from rfl, Nat.mul_one, Nat.add_zero] at hx8_0)
     have hf8_0 := hfr8 0
     (try simp only [show (k47).sz = 2 from rfl, Nat.mul_one, Nat.add_zero] at hf8_0)
     clear hcl8 hcc8 hfr8 hM8
     go_wp2_with (first | ((with_reducible refine gate_store (t := 3) (p := 16) rfl ?_); refine store_event (t := 3) (p := 16) (v := ?vo_w9) (w1 := (wr.setCell ⟨go5, (x5_1 : Int).toNat * 2, none⟩ (.int .i64 x1_1))) ?hg ?ho ?hn ?hr ?_; (case ho => rfl); (case hg => rfl); (case hn => rfl); (case hr => first | (go_simp; done) | (go_simp; rfl)); intro w9 hw; have hg : wr.grownBy w9 (some go5) := (by rw [hw]; exact HP8.2); have hp_ : Kd.R k47 47 w9 w0.heap.size (fun k_ => (P0_ k_ ∨ w.heap.size ≤ k_)) (.slice (some ⟨go5, 0, none⟩) x0_1.length co7) y175 := (by rw [hw, Ny175.out]; exact HP8.1); clear HP8; have n0_ := Aside0.mk (hp_); have n1_ := Aside0.mk ((by rw [hw]; exact below_set (HB.out) GB5.out : Below w0.heap.size w0 w9)); have n2_ := Aside0.mk (Kept.of_grown (S := (fun k_ => P0_ k_)) hg (by repeat (first | (with_reducible first | exact HK.out | apply Kept.alloc | apply Kept.drewN | apply Kept.drew) | exact HK.out)) (fun k_ e_ => (HO_0.out.1 k_ e_))); clear HO_0; clear HB; clear HK; have HO_0 := n0_; have HB := n1_; have HK := n2_; clear n0_ n1_ n2_; clear hg hw hp_; have p6 : 0 ≤ (x5_1 : Int) := of_decide_eq_true (by assumption); have q6 : (x5_1 : Int) < ((x0_1.length : Int) : Int) := of_decide_eq_true (by assumption); obtain ⟨ce6, hcl6, hM6, hcc6, hfr6⟩ := Kd.R_elem HO_0.out z47 (x5_1 : Int) p6 q6; obtain rfl := k47_openM hM6; have hx6_0 : w9.cell? ⟨go5, (x5_1 : Int).toNat * 2, none⟩ = some (.int .i64 ((rd_T47 y175 x5_1).f0)) := hcc6 0 _ rfl; have hx6_1 : w9.cell? ⟨go5, (x5_1 : Int).toNat * 2 + 1, none⟩ = some (.int .i64 ((rd_T47 y175 x5_1).f1)) := hcc6 1 _ rfl; have hf6_0 : w9.frozen? ⟨go5, (x5_1 : Int).toNat * 2, none⟩ = false := hfr6 0; have hf6_1 : w9.frozen? ⟨go5, (x5_1 : Int).toNat * 2 + 1, none⟩ = false := hfr6 1; clear hcl6 hcc6 hfr6 hM6; replace p6 := eq_true p6; replace q6 := eq_true q6; have HX10 := Aside0.mk (show Kd.R k47 47 w9 w0.heap.size (fun k_ => (P0_ k_ ∨ w.heap.size ≤ k_)) (.slice (some ⟨go5, 0, none⟩) x0_1.length co7) y175 from (ra_ HO_0.out)); obtain ⟨ce10, hcl10, hM10, hcc10, hfr10⟩ := Kd.R_elem HX10.out z47 (x5_1 : Int) (of_decide_eq_true (by assumption)) (by have h_ : (x5_1 : Int) < ((x0_1.length : Int) : Int) := of_decide_eq_true (by assumption); first | exact h_ | (have e_ := (Kd.R_reads' HO_0.out).1; omega) | simpa using h_); obtain rfl := k47_openM hM10; have HP10 := Kd.R_seg HX10.out (x5_1 : Int) (of_decide_eq_true (by assumption)) (by have h_ : (x5_1 : Int) < ((x0_1.length : Int) : Int) := of_decide_eq_true (by assumption); first | exact h_ | (have e_ := (Kd.R_reads' HO_0.out).1; omega) | simpa using h_) (seg := [.int .i64 (wrap64 (x1_1 + 1))]) (j := 1) hcl10 hcc10 (show 2 ≤ 2 from by decide) (x' := (⟨(rd_T47 y175 x5_1).f0, wrap64 (x1_1 + 1)⟩ : S47)) (k47_mkM _ _ _ (⟨(rd_T47 y175 x5_1).f0, wrap64 (x1_1 + 1)⟩ : S47) ) (fun _ hk => hk); have hx10_1 := hcc10 1 _ rfl; (try simp only [show (k47).sz = 2 from rfl, Nat.mul_one, Nat.add_zero] at hx10_1); have hf10_1 := hfr10 1; (try simp only [show (k47).sz = 2 from rfl, Nat.mul_one, Nat.add_zero] at hf10_1); clear hcl10 hcc10 hfr10 hM10) | ((with_reducible refine gate_store (t := 3) (p := 23) rfl ?_); refine store_event (t := 3) (p := 23) (v := ?vo_w11) (w1 := (w9.setCell ⟨go5, (x5_1 : Int).toNat * 2 + 1, none⟩ (.int .i64 (wrap64 (x1_1 + 1))))) ?hg ?ho ?hn ?hr ?_; (case ho => rfl); (case hg => rfl); (case hn => rfl); (case hr => first | (go_simp; done) | (go_simp; rfl)); intro w11 hw; have hg : w9.grownBy w11 (some go5) := (by rw [hw]; exact HP10.2); have hp_ : Kd.R k47 47 w11 w0.heap.size (fun k_ => (P0_ k_ ∨ w.heap.size ≤ k_)) (.slice (some ⟨go5, 0, none⟩) x0_1.length co7) y176 := (by rw [hw, Ny176.out]; exact HP10.1); clear HP10; have n0_ := Aside0.mk (hp_); have n1_ := Aside0.mk ((by rw [hw]; exact below_set (HB.out) GB5.out : Below w0.heap.size w0 w11)); have n2_ := Aside0.mk (Kept.of_grown (S := (fun k_ => P0_ k_)) hg (by repeat (first | (with_reducible first | exact HK.out | apply Kept.alloc | apply Kept.drewN | apply Kept.drew) | exact HK.out)) (fun k_ e_ => (HO_0.out.1 k_ e_))); clear HO_0; clear HB; clear HK; have HO_0 := n0_; have HB := n1_; have HK := n2_; clear n0_ n1_ n2_; clear hg hw hp_))
     go_roundg k1
     case measure => have := HK1.out; omega
     case rel => exact ⟨(y176), (wrap64 ((wrap64 (x1_1 + 1)) + 1)), (wrap64 (x5_1 + 1)), (by first | rfl | (simp; done) | (simp [*]; done)), (by first | rfl | (simp; done) | (simp [*]; done)), H', ⟨by have := HK1.out; omega⟩, ⟨by (with_reducible repeat (first | apply rA | apply rN | apply rD)); exact HO_0.out⟩, ⟨by repeat (first | (with_reducible first | exact HK.out | apply Kept.alloc | apply Kept.drewN | apply Kept.drew) | exact HK.out)⟩, ⟨hb_⟩⟩
    ·rw [if_neg c4] at H
     exact absurd H (by simp)
   ·rw [if_neg c3] at H
    have c3b0 : decide (x5_1 < (x0_1.length : Int)) = false := decide_eq_false c3
    clear c3
    simp only [Option.some.injEq, Prod.mk.injEq] at H
    obtain ⟨rfl, rfl⟩ := H
    obtain ⟨Ao12, co12, eo12⟩ := Kd.R_slice HO_0.out
    subst eo12
    go_wp2
    go_ret
    exact ⟨by first | rfl | (simp [errW_none, errW_some] <;> rfl) | (simp [*, errW_none, errW_some] <;> rfl), by (with_reducible repeat (first | apply rA | apply rN | apply rD)); exact HO_0.out, hb_, by repeat (first | (with_reducible first | exact HK.out | apply Kept.alloc | apply Kept.drewN | apply Kept.drew) | exact HK.out)⟩
def laws_heldChordS.l0 : Nat → List (S47) → Int → Int → Option (Int)
 | 0, _, _, _ => none
 | k + 1, x0, x1, x5 => if x5 < (x0.length : Int) then (if 0 ≤ x5 then (if ((rd_T47 x0 x5).f0) = x1 then (if ((rd_T47 x0 x5).f1) = (wrap64 (x1 + 1)) then (laws_heldChordS.l0 k x0 (wrap64 ((wrap64 (x1 + 1)) + 1)) (wrap64 (x5 + 1))) else (some (-1))) else (some (-1))) else (none)) else (some x1)
def laws_heldChordS.f (k : Nat) (l0 : List (S47)) (a1 : Int) : Option (Int) := laws_heldChordS.l0 k l0 a1 0
theorem laws_heldChordS.mono_l : ∀ k, (∀ y0 y1 y2, LeO (laws_heldChordS.l0 k y0 y1 y2) (laws_heldChordS.l0 (k + 1) y0 y1 y2))
 | 0 => fun _ _ _ r h => by simp [laws_heldChordS.l0] at h
 | k + 1 => by
  have ih0 := laws_heldChordS.mono_l k
  ·intro y0 y1 y2
   unfold laws_heldChordS.l0
   repeat' first
   | (with_reducible exact ih0 _ _ _)
   | (with_reducible exact LeO.refl _)
   | (with_reducible exact LeO.none _)
   | (with_reducible refine LeO.ite ?_ ?_)
   | (with_reducible refine LeO.bind ?_ (fun _ => ?_))
   | exact ih0 _ _ _
   | exact LeO.none _
   | refine LeO.ite ?_ ?_
   | refine LeO.bind ?_ (fun _ => ?_)
theorem laws_heldChordS.mono : ∀ a0 a1 k, LeO (laws_heldChordS.f k a0 a1) (laws_heldChordS.f (k + 1) a0 a1) := by
 intro a0 a1 k
 have ih0 := laws_heldChordS.mono_l k
 unfold laws_heldChordS.f
 repeat' first
   | (with_reducible exact ih0 _ _ _)
   | (with_reducible exact LeO.refl _)
   | (with_reducible exact LeO.none _)
   | (with_reducible refine LeO.ite ?_ ?_)
   | (with_reducible refine LeO.bind ?_ (fun _ => ?_))
   | exact ih0 _ _ _
   | exact LeO.none _
   | refine LeO.ite ?_ ?_
   | refine LeO.bind ?_ (fun _ => ?_)
set_option maxHeartbeats 8000000 in
set_option maxRecDepth 100000 in
theorem laws_heldChordS.calls (k : Nat) (A0 : Option Addr) (c0 : Nat) (l0 : List (S47)) (a1 : Int) (r : Int) (w : World) (hr0 : Kd.C k47 w A0 l0.length l0) (hc0 : l0.length ≤ c0) (h : laws_heldChordS.f k l0 a1 = some r) :
  Calls Try.prog 27 #[.slice A0 l0.length c0, .int .i64 a1] w fun e w' => e = .returned (.int .i64 r) ∧ Drawn0 w w' := by
 have HR0 := Aside0.mk hr0
 have HC0 := Aside0.mk hc0
 clear hr0 hc0
 have H : (laws_heldChordS.l0 k l0 a1 0) = some r := h
 clear h
 have H' := Aside0.mk H
 clear H
 go_enter Try.func27, Try.ntmps27
 go_wp2
 go_loopg [1, 5] k (fun kq v1 v5 w' => ∃ (x1_1 : Int) (x5_1 : Int), v1 = .int .i64 x1_1 ∧ v5 = .int .i64 x5_1 ∧ Aside0 (laws_heldChordS.l0 kq l0 x1_1 x5_1 = some r) ∧ Aside0 (kq ≤ k) ∧ Drawn0 w w')
 case atStart => exact ⟨(a1), (0), (by first | rfl | (simp; done) | (simp [*]; done)), (by first | rfl | (simp; done) | (simp [*]; done)), H', ⟨Nat.le_refl _⟩, by repeat (first | exact Drawn0.refl _ | apply Drawn0.step)⟩
 case round =>
  clear H'
  try clear c2
  try clear p2
  obtain ⟨x1_1, x5_1, rfl, rfl, HA, HK1, ⟨m1, rfl⟩⟩ := hrel
  cases gk with
  | zero => exact absurd HA.out (by simp [laws_heldChordS.l0])
  | succ k1 =>
   have H := HA.out
   clear HA
   simp only [laws_heldChordS.l0] at H
   by_cases c3 : x5_1 < (l0.length : Int)
   ·rw [if_pos c3] at H
    have c3b0 : decide (x5_1 < (l0.length : Int)) = true := decide_eq_true c3
    clear c3
    by_cases c4 : 0 ≤ x5_1
    ·rw [if_pos c4] at H
     have c4b0 : decide (0 ≤ x5_1) = true := decide_eq_true c4
     clear c4
     by_cases c5 : ((rd_T47 l0 x5_1).f0) = x1_1
     ·rw [if_pos c5] at H
      have c5b0 : (((rd_T47 l0 x5_1).f0) == x1_1) = true := beq_iff_eq.mpr c5
      have c5b1 : (((rd_T47 l0 x5_1).f0) != x1_1) = false := bne_eq_false_iff_eq.mpr c5
      clear c5
      by_cases c6 : ((rd_T47 l0 x5_1).f1) = (wrap64 (x1_1 + 1))
      ·rw [if_pos c6] at H
       have c6b0 : (((rd_T47 l0 x5_1).f1) == (wrap64 (x1_1 + 1))) = true := beq_iff_eq.mpr c6
       have c6b1 : (((rd_T47 l0 x5_1).f1) != (wrap64 (x1_1 + 1))) = false := bne_eq_false_iff_eq.mpr c6
       clear c6
       have H' := Aside0.mk H
       clear H
       have p149 : 0 ≤ (x5_1 : Int) := of_decide_eq_true (by assumption)
       have q149 : x5_1 < (l0.length : Int) := of_decide_eq_true (by assumption)
       obtain ⟨ad149, e149, hx149_0, hx149_1⟩ := at_T47 HR0.out x5_1 p149 q149
       cases e149
       replace p149 := eq_true p149
       replace q149 := eq_true q149
       have p150 : 0 ≤ (x5_1 : Int) := of_decide_eq_true (by assumption)
       have q150 : x5_1 < (l0.length : Int) := of_decide_eq_true (by assumption)
       obtain ⟨ad150, e150, hx150_0, hx150_1⟩ := at_T47 HR0.out x5_1 p150 q150
       obtain rfl : ad149 = ad150 := (by injection e150)
       replace p150 := eq_true p150
       replace q150 := eq_true q150
       go_wp2
       go_roundg k1
       case measure => have := HK1.out; omega
       case rel => exact ⟨(wrap64 ((wrap64 (x1_1 + 1)) + 1)), (wrap64 (x5_1 + 1)), (by first | rfl | (simp; done) | (simp [*]; done)), (by first | rfl | (simp; done) | (simp [*]; done)), H', ⟨by have := HK1.out; omega⟩, by repeat (first | exact Drawn0.refl _ | apply Drawn0.step)⟩
      ·rw [if_neg c6] at H
       have c6b0 : (((rd_T47 l0 x5_1).f1) == (wrap64 (x1_1 + 1))) = false := beq_eq_false_iff_ne.mpr c6
       have c6b1 : (((rd_T47 l0 x5_1).f1) != (wrap64 (x1_1 + 1))) = true := bne_iff_ne.mpr c6
       obtain rfl := oI H
       have p149 : 0 ≤ (x5_1 : Int) := of_decide_eq_true (by assumption)
       have q149 : x5_1 < (l0.length : Int) := of_decide_eq_true (by assumption)
       obtain ⟨ad149, e149, hx149_0, hx149_1⟩ := at_T47 HR0.out x5_1 p149 q149
       cases e149
       replace p149 := eq_true p149
       replace q149 := eq_true q149
       have p150 : 0 ≤ (x5_1 : Int) := of_decide_eq_true (by assumption)
       have q150 : x5_1 < (l0.length : Int) := of_decide_eq_true (by assumption)
       obtain ⟨ad150, e150, hx150_0, hx150_1⟩ := at_T47 HR0.out x5_1 p150 q150
       obtain rfl : ad149 = ad150 := (by injection e150)
       replace p150 := eq_true p150
       replace q150 := eq_true q150
       go_wp2
       go_ret
       exact ⟨by first | rfl | (simp; done) | (simp [*]; done), by repeat (first | exact Drawn0.refl _ | apply Drawn0.step)⟩
     ·rw [if_neg c5] at H
      have c5b0 : (((rd_T47 l0 x5_1).f0) == x1_1) = false := beq_eq_false_iff_ne.mpr c5
      have c5b1 : (((rd_T47 l0 x5_1).f0) != x1_1) = true := bne_iff_ne.mpr c5
      obtain rfl := oI H
      have p149 : 0 ≤ (x5_1 : Int) := of_decide_eq_true (by assumption)
      have q149 : x5_1 < (l0.length : Int) := of_decide_eq_true (by assumption)
      obtain ⟨ad149, e149, hx149_0, hx149_1⟩ := at_T47 HR0.out x5_1 p149 q149
      cases e149
      replace p149 := eq_true p149
      replace q149 := eq_true q149
      go_wp2
      go_ret
      exact ⟨by first | rfl | (simp; done) | (simp [*]; done), by repeat (first | exact Drawn0.refl _ | apply Drawn0.step)⟩
    ·rw [if_neg c4] at H
     exact absurd H (by simp)
   ·rw [if_neg c3] at H
    have c3b0 : decide (x5_1 < (l0.length : Int)) = false := decide_eq_false c3
    clear c3
    obtain rfl := oI H
    go_wp2
    go_ret
    exact ⟨by first | rfl | (simp; done) | (simp [*]; done), by repeat (first | exact Drawn0.refl _ | apply Drawn0.step)⟩
end Go.Proofs.Ytdeenfpcmaadcaa.Pr
/- The statements' own helpers on lists of chords: marked and held. -/
namespace Go.Proofs.Ytdeenfpcmaadcaa.M
open Go.RowKit Go.Proofs.YtdeenfpcmaadcaaW.PrintWords Go.Proofs.Ytdeenfpcmaadcaa.Pr
def upC (m : Int) (n : Nat) : List Ch := (List.range n).map fun (i : Nat) => ⟨m + 2 * (i : Int), m + 2 * (i : Int) + 1⟩
theorem upC_length (m : Int) (n : Nat) : (upC m n).length = n := by simp [upC]
theorem upC_succ (m : Int) (n : Nat) : upC m (n + 1) = upC m n ++ [⟨m + 2 * (n : Int), m + 2 * (n : Int) + 1⟩] := by
  unfold upC
  rw [List.range_succ, List.map_append]
  rfl
theorem upC_get (m : Int) (n i : Nat) (h : i < (upC m n).length) : (upC m n)[i] = ⟨m + 2 * (i : Int), m + 2 * (i : Int) + 1⟩ := by
  simp [upC]
theorem setC_mid (A : List Ch) (x v : Ch) (r : List Ch) : (A ++ x :: r).set A.length v = A ++ v :: r := by
  rw [List.set_append_right _ _ (Nat.le_refl _), Nat.sub_self, List.set_cons_zero]
theorem markC_ev (l : List Ch) (m : Int) (hm : 0 ≤ m) (hb : m + 2 * l.length ≤ 9223372036854775806) : Ev (fun k => laws_markChordS.f k l m) (m + 2 * (l.length : Int), upC m l.length) := by
  unfold laws_markChordS.f
  exact Ev.scan0 (fun k i (acc : List Ch × Int) => laws_markChordS.l0 k acc.1 acc.2 i) l (fun _ _ => (m + 2 * (l.length : Int), upC m l.length)) (fun i acc => acc = (upC m i ++ l.drop i, m + 2 * (i : Int)))
    (fun acc hp => by
      refine Ev.step (fun k => by rw [laws_markChordS.l0]) ?_
      rw [hp]
      refine Ev.neg (by simp [upC_length]) (Ev.val ?_)
      simp)
    (fun i h acc hp => by
      refine .inl ⟨(upC m (i + 1) ++ l.drop (i + 1), m + 2 * ((i + 1 : Nat) : Int)), rfl, rfl, fun r hr2 => ?_⟩
      refine Ev.step (fun k => by rw [laws_markChordS.l0]) ?_
      rw [hp]
      have hll : (upC m i ++ l.drop i).length = l.length := by simp [upC_length]; omega
      refine Ev.pos (by rw [hll]; omega) (Ev.pos (by omega) ?_)
      simp only [Option.bind_some]
      have h1 : ∀ v : Ch, (upC m i ++ l[i] :: l.drop (i + 1)).set i v = upC m i ++ v :: l.drop (i + 1) := by
        intro v
        have := setC_mid (upC m i) l[i] v (l.drop (i + 1))
        rwa [upC_length] at this
      have h2 : ∀ u v : Ch, (upC m i ++ u :: l.drop (i + 1)).set i v = upC m i ++ v :: l.drop (i + 1) := by
        intro u v
        have := setC_mid (upC m i) u v (l.drop (i + 1))
        rwa [upC_length] at this
      have hg : ∀ u : Ch, rd_T47 (upC m i ++ u :: l.drop (i + 1)) (i : Int) = u := by
        intro u
        have hlt : i < (upC m i ++ u :: l.drop (i + 1)).length := by simp [upC_length]
        rw [rd_ch _ i hlt, List.getElem_append_right (by rw [upC_length]; exact Nat.le_refl _)]
        simp [upC_length]
      rw [Int.toNat_natCast, List.drop_eq_getElem_cons h, h1, hg l[i], h2, hg]
      rw [w64 (x := (i : Int) + 1) (by omega) (by omega), w64 (x := m + 2 * (i : Int) + 1) (by omega) (by omega), w64 (x := m + 2 * (i : Int) + 1 + 1) (by omega) (by omega)]
      rw [upC_succ, List.append_assoc] at hr2
      have e2 : m + 2 * ((i + 1 : Nat) : Int) = m + 2 * (i : Int) + 1 + 1 := by omega
      rw [e2] at hr2
      exact hr2)
    (l, m) (by simp [upC])
theorem heldC_ev (n : Nat) (m : Int) (hm : 0 ≤ m) (hb : m + 2 * n ≤ 9223372036854775806) : Ev (fun k => laws_heldChordS.f k (upC m n) m) (m + 2 * (n : Int)) := by
  unfold laws_heldChordS.f
  have e := Ev.scan0 (fun k i (acc : Int) => laws_heldChordS.l0 k (upC m n) acc i) (upC m n) (fun _ _ => m + 2 * (n : Int)) (fun i acc => acc = m + 2 * (i : Int))
    (fun acc hp => by
      refine Ev.step (fun k => by rw [laws_heldChordS.l0]) ?_
      refine Ev.neg (by omega) (Ev.val ?_)
      rw [hp, upC_length])
    (fun i h acc hp => by
      refine .inl ⟨m + 2 * ((i + 1 : Nat) : Int), rfl, rfl, fun r hr2 => ?_⟩
      have hn : i < n := by rw [upC_length] at h; exact h
      refine Ev.step (fun k => by rw [laws_heldChordS.l0]) ?_
      refine Ev.pos (by omega) (Ev.pos (by omega) ?_)
      rw [rd_ch _ i h, upC_get, hp]
      rw [w64 (x := (i : Int) + 1) (by omega) (by omega), w64 (x := m + 2 * (i : Int) + 1) (by omega) (by omega), w64 (x := m + 2 * (i : Int) + 1 + 1) (by omega) (by omega)]
      refine Ev.pos rfl (Ev.pos rfl ?_)
      have e2 : m + 2 * ((i + 1 : Nat) : Int) = m + 2 * (i : Int) + 1 + 1 := by omega
      rw [e2] at hr2
      exact hr2)
    m (by simp)
  exact e
end Go.Proofs.Ytdeenfpcmaadcaa.M
/- A row of chords of the call's own, laid open cell by cell and put together again. -/
namespace Go.Proofs.Ytdeenfpcmaadcaa.Pr
open Go.RowKit Go.Sort Go.Proofs.YtdeenfpcmaadcaaW.PrintWords Go.Proofs.YtdeenfpcmaadcaaW.PrintLast Go.Proofs.YtdeenfpcmaadcaaW.PrintMore
instance : Inhabited S47 := ⟨z47⟩
instance : DecidableEq S47 := fun x y =>
  match x, y with
  | ⟨a, b⟩, ⟨c, d⟩ => if h : a = c ∧ b = d then isTrue (by rw [h.1, h.2]) else isFalse (fun e => h (by injection e with e1 e2; exact ⟨e1, e2⟩))
def encL (x : S47) : List Value := [.int .i64 x.f0, .int .i64 x.f1]
theorem encL_length (x : S47) : (encL x).length = 2 := rfl
/-- The cells of the elements. -/
def RowAt (W : World) (g : Nat) (xs : List S47) : Prop := ∀ i (h : i < xs.length), W.cell? ⟨g, i * 2, none⟩ = some (.int .i64 xs[i].f0) ∧ W.cell? ⟨g, i * 2 + 1, none⟩ = some (.int .i64 xs[i].f1)
theorem holds_of {W : World} {g : Nat} {xs : List S47} (hc : RowAt W g xs) (hf : ∀ j, W.frozen? ⟨g, j, none⟩ = false) : HoldsK encL 2 W g 0 xs.toArray := fun j hj => by
  have hj' : j < xs.length * 2 := by simpa using hj
  rw [Nat.zero_add]
  refine ⟨?_, hf j⟩
  rw [get_flatK _ _ _ _ (by simpa using hj')]
  have hd : j / 2 < xs.length := by omega
  have e : xs.toArray[j / 2]! = xs[j / 2] := by simp [hd]
  rw [e]
  obtain ⟨h1, h2⟩ := hc (j / 2) hd
  rcases Nat.mod_two_eq_zero_or_one j with hm | hm
  · rw [hm]
    have e2 : (⟨g, j, none⟩ : Addr) = ⟨g, j / 2 * 2, none⟩ := by congr 1; omega
    rw [e2]
    exact h1
  · rw [hm]
    have e2 : (⟨g, j, none⟩ : Addr) = ⟨g, j / 2 * 2 + 1, none⟩ := by congr 1; omega
    rw [e2]
    exact h2
theorem row_of_holds {W : World} {g : Nat} {d : Array S47} (h : HoldsK encL 2 W g 0 d) : RowAt W g d.toList := fun i hi => by
  have hi' : i < d.size := by simpa using hi
  have h0 := (HoldsK.cell h hi' (show 0 < 2 by omega)).1
  have h1 := (HoldsK.cell h hi' (show 1 < 2 by omega)).1
  rw [Nat.zero_add, getElem!_pos d i hi'] at h0 h1
  have e : d.toList[i] = d[i] := by simp
  rw [e]
  exact ⟨h0, h1⟩
/-- A row that is the call's own: empty, or a block whose first cells are the elements'. -/
theorem open_own {W : World} {base : Nat} {ok : Nat → Prop} {v : Value} {xs : List S47} (h : Kd.R k47 47 W base ok v xs) :
    (v = .slice none 0 0 ∧ xs = []) ∨ ∃ g cap cur, v = .slice (some ⟨g, 0, none⟩) xs.length cap ∧ ok g ∧ base ≤ g ∧ W.heap[g]? = some (.cells cur 47 (0, 0)) ∧ xs.length ≤ cap ∧ cap ≤ maxLen ∧ cur.size = cap * 2 ∧ RowAt W g xs := by
  obtain ⟨h0, inner, ho, hr⟩ := h
  obtain ⟨hl, hv⟩ := ho
  rcases hv with ⟨rfl, hn⟩ | ⟨g, cap, cur, rfl, hg, hb, hn, hm, hs, ht⟩
  · exact .inl ⟨rfl, List.eq_nil_of_length_eq_zero hn⟩
  · refine .inr ⟨g, cap, cur, rfl, h0 g rfl, hg, hb, hn, hm, hs, fun i hi => ?_⟩
    have hk2 := k47_openM (hr.2 i xs[i] (List.getElem?_eq_getElem hi))
    have hsz : k47.sz = 2 := rfl
    rw [hsz] at hk2 ht
    have e0 : ((inner.drop (i * 2)).take 2)[0]? = some (.int .i64 xs[i].f0) := by rw [hk2]; rfl
    have e1 : ((inner.drop (i * 2)).take 2)[1]? = some (.int .i64 xs[i].f1) := by rw [hk2]; rfl
    rw [List.getElem?_take_of_lt (by omega), List.getElem?_drop] at e0 e1
    have hq : ∀ q, q < xs.length * 2 → W.cell? ⟨g, q, none⟩ = inner[q]? := by
      intro q hq
      rw [blk_cell hb q, ← ht, List.getElem?_take_of_lt hq]
      simp
    exact ⟨by rw [hq _ (by omega)]; simpa using e0, by rw [hq _ (by omega)]; exact e1⟩
theorem shut_own {W : World} {base g cap : Nat} {ok : Nat → Prop} {cur : Array Value} {zs : List S47} (hok : ok g) (hg : base ≤ g) (hb : W.heap[g]? = some (.cells cur 47 (0, 0))) (hn : zs.length ≤ cap) (hm : cap ≤ maxLen) (hs : cur.size = cap * 2)
    (hc : RowAt W g zs) : Kd.R k47 47 W base ok (.slice (some ⟨g, 0, none⟩) zs.length cap) zs := by
  have hle : zs.length * 2 ≤ cur.size := by rw [hs]; exact Nat.mul_le_mul_right 2 hn
  refine ⟨fun k hk => by have : g = k := by simpa [Value.ownBlock] using hk
                         subst this; exact hok, cur.toList.take (zs.length * 2), ⟨?_, .inr ⟨g, cap, cur, rfl, hg, hb, hn, hm, hs, rfl⟩⟩, ?_, fun j p hj => ?_⟩
  · show (cur.toList.take (zs.length * 2)).length = zs.length * 2
    rw [List.length_take]
    exact Nat.min_eq_left (by rw [Array.length_toList]; exact hle)
  · show (cur.toList.take (zs.length * 2)).length = zs.length * 2
    rw [List.length_take]
    exact Nat.min_eq_left (by rw [Array.length_toList]; exact hle)
  · obtain ⟨hjl, rfl⟩ := List.getElem?_eq_some_iff.1 hj
    obtain ⟨h0, h1⟩ := hc j hjl
    rw [blk_cell hb] at h0 h1
    have hsz : k47.sz = 2 := rfl
    rw [hsz]
    have e : ((cur.toList.take (zs.length * 2)).drop (j * 2)).take 2 = [.int .i64 zs[j].f0, .int .i64 zs[j].f1] := by
      apply List.ext_getElem?
      intro q
      match q with
      | 0 =>
        rw [List.getElem?_take_of_lt (by omega), List.getElem?_drop, List.getElem?_take_of_lt (by omega)]
        simpa using h0
      | 1 =>
        rw [List.getElem?_take_of_lt (by omega), List.getElem?_drop, List.getElem?_take_of_lt (by omega)]
        simpa using h1
      | q + 2 =>
        rw [List.getElem?_eq_none (by rw [List.length_take]; omega), List.getElem?_eq_none (by simp)]
    rw [e]
    exact k47_mkM _ _ _ _
end Go.Proofs.Ytdeenfpcmaadcaa.Pr
/- Regions of plane sets: what the reference splits and what the program walks, in plain words. -/
namespace Go.Proofs.Ytdeenfpcmaadcaa.M
open Go.RowKit Go.Proofs.YtdeenfpcmaadcaaW.PrintWords Go.Proofs.Ytdeenfpcmaadcaa.Pr
set_option linter.unusedSectionVars false
/-- A point lies at the region on the inner side of a chord: no other chord inside it covers the point. -/
def InR (P : List Ch) (c : Ch) (x : Int) : Prop := c.f0 ≤ x ∧ x ≤ c.f1 ∧ ∀ d ∈ P, d ≠ c → c.f0 ≤ d.f0 → d.f1 ≤ c.f1 → ¬ (d.f0 < x ∧ x < d.f1)
/-- Chords that are good and of which no two cross. -/
structure Plane (P : List Ch) : Prop where
  ok : ∀ c ∈ P, c.f0 < c.f1
  no : ∀ c ∈ P, ∀ d ∈ P, crB c d = false
theorem nocr {c d : Ch} (h : crB c d = false) : ¬ (c.f0 < d.f0 ∧ d.f0 < c.f1 ∧ c.f1 < d.f1) ∧ ¬ (d.f0 < c.f0 ∧ c.f0 < d.f1 ∧ d.f1 < c.f1) := by
  unfold crB at h
  have := of_decide_eq_false h
  omega
theorem ch_ne {c d : Ch} (h : c ≠ d) : c.f0 ≠ d.f0 ∨ c.f1 ≠ d.f1 := by
  by_cases h0 : c.f0 = d.f0
  · right
    intro h1
    apply h
    cases c; cases d
    simp_all
  · exact .inl h0
theorem split_in {P : List Ch} {c e : Ch} (hPe : ∀ d ∈ P, crB d e = false) (hok : ∀ d ∈ P, d.f0 < d.f1) (he : e ∉ P) (hee : e.f0 < e.f1) (hec : e ≠ c)
    (hA : InR P c e.f0) (hB : InR P c e.f1) (x : Int) : InR (P ++ [e]) e x ↔ InR P c x ∧ e.f0 ≤ x ∧ x ≤ e.f1 := by
  obtain ⟨a1, a2, a3⟩ := hA
  obtain ⟨b1, b2, b3⟩ := hB
  constructor
  · rintro ⟨h1, h2, h3⟩
    refine ⟨⟨by omega, by omega, fun d hd hdc q1 q2 hx => ?_⟩, h1, h2⟩
    have hde : d ≠ e := fun e' => he (e' ▸ hd)
    have := h3 d (List.mem_append_left _ hd) hde
    have := nocr (hPe d hd)
    have := hok d hd
    have := a3 d hd hdc q1 q2
    have := b3 d hd hdc q1 q2
    have := ch_ne hde
    omega
  · rintro ⟨⟨h1, h2, h3⟩, h4, h5⟩
    refine ⟨h4, h5, fun d hd hde q1 q2 hx => ?_⟩
    rcases List.mem_append.1 hd with hd | hd
    · have hdc : d ≠ c := by
        rintro rfl
        have := ch_ne hde
        omega
      exact h3 d hd hdc (by omega) (by omega) hx
    · rw [List.mem_singleton] at hd
      exact hde hd
theorem split_out {P : List Ch} {c e : Ch} (hec : e ≠ c) (h1 : c.f0 ≤ e.f0) (h2 : e.f1 ≤ c.f1) (x : Int) : InR (P ++ [e]) c x ↔ InR P c x ∧ (x ≤ e.f0 ∨ e.f1 ≤ x) := by
  constructor
  · rintro ⟨q1, q2, q3⟩
    refine ⟨⟨q1, q2, fun d hd => q3 d (List.mem_append_left _ hd)⟩, ?_⟩
    have := q3 e (List.mem_append_right _ (List.mem_singleton.2 rfl)) hec h1 h2
    omega
  · rintro ⟨⟨q1, q2, q3⟩, q4⟩
    refine ⟨q1, q2, fun d hd hdc => ?_⟩
    rcases List.mem_append.1 hd with hd | hd
    · exact q3 d hd hdc
    · rw [List.mem_singleton] at hd
      subst hd
      omega
theorem split_rest {P : List Ch} {c c' e : Ch} (hcc : crB c c' = false) (hok : c.f0 < c.f1) (hok' : c'.f0 < c'.f1) (hc : c ∈ P ∨ (c.f0 < c'.f0 ∧ c'.f1 < c.f1)) (hc' : c' ∈ P ∨ (c'.f0 < c.f0 ∧ c.f1 < c'.f1)) (he : e ∉ P) (hee : e.f0 < e.f1) (hne : c ≠ c') (hec : e ≠ c) (hec' : e ≠ c')
    (hA : InR P c e.f0) (hB : InR P c e.f1) (x : Int) : InR (P ++ [e]) c' x ↔ InR P c' x := by
  obtain ⟨a1, a2, a3⟩ := hA
  obtain ⟨b1, b2, b3⟩ := hB
  constructor
  · rintro ⟨q1, q2, q3⟩
    exact ⟨q1, q2, fun d hd => q3 d (List.mem_append_left _ hd)⟩
  · rintro ⟨q1, q2, q3⟩
    refine ⟨q1, q2, fun d hd hdc w1 w2 hx => ?_⟩
    rcases List.mem_append.1 hd with hd | hd
    · exact q3 d hd hdc w1 w2 hx
    · rw [List.mem_singleton] at hd
      subst hd
      have := nocr hcc
      have n1 := ch_ne hne
      have n2 := ch_ne hec'
      by_cases hin : c'.f0 ≤ c.f0 ∧ c.f1 ≤ c'.f1
      · rcases hc with hc | hc
        · exact q3 c hc hne hin.1 hin.2 (by omega)
        · omega
      · rcases hc' with hc' | hc'
        · have h1 := a3 c' hc' (Ne.symm hne) (by omega) (by omega)
          have h2 := b3 c' hc' (Ne.symm hne) (by omega) (by omega)
          omega
        · omega
/-- There is a least chord around one that crosses none. -/
theorem least_around {P : List Ch} {O e : Ch} (hPe : ∀ d ∈ P, crB d e = false) (hok : ∀ d ∈ P, d.f0 < d.f1) (he : e ∉ P) (hee : e.f0 < e.f1) (hO : O.f0 < e.f0 ∧ e.f1 < O.f1) :
    ∃ c, (c = O ∨ c ∈ P) ∧ InR P c e.f0 ∧ InR P c e.f1 := by
  have key : ∀ n : Nat, ∀ c : Ch, (c.f1 - c.f0).toNat ≤ n → (c = O ∨ c ∈ P) → c.f0 ≤ e.f0 → e.f1 ≤ c.f1 → ∃ c, (c = O ∨ c ∈ P) ∧ InR P c e.f0 ∧ InR P c e.f1 := by
    intro n
    induction n with
    | zero => intro c h _ h0 h1; omega
    | succ n ih =>
      intro c h hc h0 h1
      by_cases hx : ∃ d ∈ P, d ≠ c ∧ c.f0 ≤ d.f0 ∧ d.f1 ≤ c.f1 ∧ d.f0 ≤ e.f0 ∧ e.f1 ≤ d.f1
      · obtain ⟨d, hd, hdc, g1, g2, g3, g4⟩ := hx
        have := ch_ne hdc
        exact ih d (by omega) (.inr hd) g3 g4
      · refine ⟨c, hc, ⟨h0, by omega, fun d hd hdc q1 q2 hx2 => hx ⟨d, hd, hdc, q1, q2, ?_⟩⟩, ⟨by omega, h1, fun d hd hdc q1 q2 hx2 => hx ⟨d, hd, hdc, q1, q2, ?_⟩⟩⟩
        · have := nocr (hPe d hd); have := hok d hd; omega
        · have := nocr (hPe d hd); have := hok d hd; omega
  exact key _ O (Nat.le_refl _) (.inl rfl) (by omega) (by omega)
def inR (P : List Ch) (c : Ch) (x : Int) : Bool := decide (c.f0 ≤ x ∧ x ≤ c.f1) && P.all fun d => !(decide (d ≠ c ∧ c.f0 ≤ d.f0 ∧ d.f1 ≤ c.f1 ∧ d.f0 < x ∧ x < d.f1))
theorem inR_iff {P : List Ch} {c : Ch} {x : Int} : inR P c x = true ↔ InR P c x := by
  unfold inR InR
  rw [Bool.and_eq_true, decide_eq_true_eq, List.all_eq_true]
  constructor
  · rintro ⟨⟨h1, h2⟩, h3⟩
    refine ⟨h1, h2, fun d hd q1 q2 q3 q4 => ?_⟩
    have := h3 d hd
    rw [Bool.not_eq_true', decide_eq_false_iff_not] at this
    exact this ⟨q1, q2, q3, q4⟩
  · rintro ⟨h1, h2, h3⟩
    refine ⟨⟨h1, h2⟩, fun d hd => ?_⟩
    rw [Bool.not_eq_true', decide_eq_false_iff_not]
    rintro ⟨q1, q2, q3, q4⟩
    exact h3 d hd q1 q2 q3 q4
def ptsTo (p : Int) : List Int := (List.range p.toNat).map fun (i : Nat) => (i : Int)
theorem mem_ptsTo {p x : Int} : x ∈ ptsTo p ↔ 0 ≤ x ∧ x < p := by
  unfold ptsTo
  rw [List.mem_map]
  constructor
  · rintro ⟨i, hi, rfl⟩
    have := List.mem_range.1 hi
    omega
  · rintro ⟨h0, h1⟩
    exact ⟨x.toNat, List.mem_range.2 (by omega), by omega⟩
/-- The points of the region inside a chord. -/
def regN (p : Int) (P : List Ch) (c : Ch) : List Int := (ptsTo p).filter (inR P c)
theorem mem_regN {p : Int} {P : List Ch} {c : Ch} {x : Int} : x ∈ regN p P c ↔ (0 ≤ x ∧ x < p) ∧ InR P c x := by
  unfold regN
  rw [List.mem_filter, mem_ptsTo, inR_iff]
def hasB (e : Ch) (r : List Int) : Bool := decide (e.f0 ∈ r ∧ e.f1 ∈ r)
def cutIn (e : Ch) (r : List Int) : List Int := r.filter fun x => decide (e.f0 ≤ x ∧ x ≤ e.f1)
def cutOut (e : Ch) (r : List Int) : List Int := r.filter fun x => decide (x ≤ e.f0 ∨ e.f1 ≤ x)
def stepR (e : Ch) : List (List Int) → List (List Int)
  | [] => []
  | r :: rs => if hasB e r = true then cutIn e r :: cutOut e r :: rs else r :: stepR e rs
def insR (p : Int) (P : List Ch) (e : Ch) : List Ch → List Ch
  | [] => []
  | c :: cs => if hasB e (regN p P c) = true then e :: c :: cs else c :: insR p P e cs
theorem regN_congr {p : Int} {P P' : List Ch} {c c' : Ch} (h : ∀ x, InR P' c' x ↔ InR P c x) : regN p P' c' = regN p P c := by
  unfold regN
  apply List.filter_congr
  intro x _
  rw [Bool.eq_iff_iff, inR_iff, inR_iff]
  exact h x
/-- What the reference's step makes of the regions of chords. -/
theorem step_regs {p : Int} {P : List Ch} {O e : Ch} (hP : Plane P) (hO : ∀ d ∈ e :: P, O.f0 < d.f0 ∧ d.f1 < O.f1) (hPe : ∀ d ∈ P, crB d e = false) (he : e ∉ P) (hee : e.f0 < e.f1) (h0 : 0 ≤ e.f0) (h1 : e.f1 < p)
    {c0 : Ch} (hA : InR P c0 e.f0) (hB : InR P c0 e.f1) (hc0 : c0 = O ∨ c0 ∈ P) :
    ∀ cs : List Ch, cs.Nodup → (∀ c ∈ cs, c = O ∨ c ∈ P) → stepR e (cs.map (regN p P)) = (insR p P e cs).map (regN p (P ++ [e])) := by
  have hOe : O.f0 < e.f0 ∧ e.f1 < O.f1 := hO e (List.mem_cons_self ..)
  have hne : ∀ c, c = O ∨ c ∈ P → e ≠ c := by
    rintro c (rfl | hc) rfl
    · omega
    · exact he hc
  have hOP : ∀ d ∈ P, O.f0 < d.f0 ∧ d.f1 < O.f1 := fun d hd => hO d (List.mem_cons_of_mem _ hd)
  have hlt : ∀ c, c = O ∨ c ∈ P → c.f0 < c.f1 := by
    rintro c (rfl | hc)
    · omega
    · exact hP.ok c hc
  have hcr : ∀ c c', c = O ∨ c ∈ P → c' = O ∨ c' ∈ P → crB c c' = false := by
    rintro c c' (rfl | hc) (rfl | hc')
    · unfold crB; exact decide_eq_false (by omega)
    · have := hOP c' hc'; unfold crB; exact decide_eq_false (by omega)
    · have := hOP c hc; unfold crB; exact decide_eq_false (by omega)
    · exact hP.no c hc c' hc'
  have same : ∀ c c', c = O ∨ c ∈ P → c' = O ∨ c' ∈ P → c ≠ c' → InR P c e.f0 → InR P c e.f1 → regN p (P ++ [e]) c' = regN p P c' := by
    intro c c' hc hc' hn hA hB
    refine regN_congr (split_rest (hcr c c' hc hc') (hlt c hc) (hlt c' hc') ?_ ?_ he hee hn (hne c hc) (hne c' hc') hA hB)
    · rcases hc with rfl | hc
      · rcases hc' with rfl | hc'
        · exact absurd rfl hn
        · exact .inr (hOP c' hc')
      · exact .inl hc
    · rcases hc' with rfl | hc'
      · rcases hc with rfl | hc
        · exact absurd rfl hn
        · exact .inr (hOP c hc)
      · exact .inl hc'
  intro cs
  induction cs with
  | nil => intro _ _; rfl
  | cons c cs ih =>
    intro hnd hmem
    rw [List.nodup_cons] at hnd
    have hc := hmem c (List.mem_cons_self ..)
    rw [List.map_cons, stepR, insR]
    by_cases hb : hasB e (regN p P c) = true
    · rw [if_pos hb, if_pos hb, List.map_cons, List.map_cons]
      have hb' := of_decide_eq_true hb
      rw [mem_regN, mem_regN] at hb'
      obtain ⟨⟨_, i1⟩, ⟨_, i2⟩⟩ := hb'
      have g1 : cutIn e (regN p P c) = regN p (P ++ [e]) e := by
        unfold cutIn regN
        rw [List.filter_filter]
        apply List.filter_congr
        intro x _
        rw [Bool.eq_iff_iff, inR_iff, split_in hPe hP.ok he hee (hne c hc) i1 i2, Bool.and_eq_true, inR_iff, decide_eq_true_eq]
        exact and_comm
      have g2 : cutOut e (regN p P c) = regN p (P ++ [e]) c := by
        unfold cutOut regN
        rw [List.filter_filter]
        apply List.filter_congr
        intro x _
        rw [Bool.eq_iff_iff, inR_iff, split_out (hne c hc) i1.1 i2.2.1, Bool.and_eq_true, inR_iff, decide_eq_true_eq]
        exact and_comm
      have g3 : cs.map (regN p P) = cs.map (regN p (P ++ [e])) := by
        apply List.map_congr_left
        intro c' hc'
        exact (same c c' hc (hmem c' (List.mem_cons_of_mem _ hc')) (fun q => hnd.1 (q ▸ hc')) i1 i2).symm
      rw [g1, g2, g3]
    · rw [if_neg hb, if_neg hb, List.map_cons, ih hnd.2 (fun c' hc' => hmem c' (List.mem_cons_of_mem _ hc'))]
      congr 1
      refine (same c0 c hc0 hc ?_ hA hB).symm
      rintro rfl
      apply hb
      unfold hasB
      rw [decide_eq_true_eq, mem_regN, mem_regN]
      exact ⟨⟨by omega, hA⟩, ⟨by omega, hB⟩⟩
theorem insR_perm {p : Int} {P : List Ch} {e : Ch} : ∀ cs : List Ch, (∃ c ∈ cs, hasB e (regN p P c) = true) → (insR p P e cs).Perm (e :: cs)
  | [], h => by obtain ⟨c, hc, _⟩ := h; cases hc
  | c :: cs, h => by
    rw [insR]
    by_cases hb : hasB e (regN p P c) = true
    · rw [if_pos hb]
    · rw [if_neg hb]
      obtain ⟨c', hc', h'⟩ := h
      rcases List.mem_cons.1 hc' with rfl | hc'
      · exact absurd h' hb
      · exact ((insR_perm cs ⟨c', hc', h'⟩).cons c).trans (List.Perm.swap _ _ _)
def foldR : List Ch → List (List Int) → List (List Int)
  | [], rs => rs
  | c :: l, rs => foldR l (stepR c rs)
def outC (p : Int) : Ch := ⟨-1, p⟩
/-- The reference's regions are those of the chords and of the outer one, in some order. -/
theorem foldR_regs {p : Int} : ∀ (l P : List Ch), Plane (P ++ l) → (∀ d ∈ P ++ l, 0 ≤ d.f0 ∧ d.f1 < p) → (P ++ l).Nodup → ∀ cs : List Ch, cs.Perm (outC p :: P) →
    ∃ ds : List Ch, ds.Perm (outC p :: (P ++ l)) ∧ foldR l (cs.map (regN p P)) = ds.map (regN p (P ++ l))
  | [], P, hP, hb, hn, cs, hc => by
    rw [List.append_nil] at *
    exact ⟨cs, hc, rfl⟩
  | e :: l, P, hP, hb, hn, cs, hc => by
    have hPP : Plane P := ⟨fun c h => hP.ok c (List.mem_append_left _ h), fun c h d h' => hP.no c (List.mem_append_left _ h) d (List.mem_append_left _ h')⟩
    have hemem : e ∈ P ++ e :: l := List.mem_append_right _ (List.mem_cons_self ..)
    have hPe : ∀ d ∈ P, crB d e = false := fun d hd => hP.no d (List.mem_append_left _ hd) e hemem
    have hee := hP.ok e hemem
    have hb0 := hb e hemem
    have hn2 := List.nodup_append.1 hn
    have he : e ∉ P := fun h => hn2.2.2 e h e (List.mem_cons_self ..) rfl
    have hOO : ∀ d ∈ e :: P, (outC p).f0 < d.f0 ∧ d.f1 < (outC p).f1 := by
      intro d hd
      have : 0 ≤ d.f0 ∧ d.f1 < p := by
        rcases List.mem_cons.1 hd with rfl | hd
        · exact hb0
        · exact hb d (List.mem_append_left _ hd)
      show -1 < d.f0 ∧ d.f1 < p
      omega
    obtain ⟨c0, hc0, hA, hB⟩ := least_around hPe hPP.ok he hee (hOO e (List.mem_cons_self ..))
    have hmem : ∀ c ∈ cs, c = outC p ∨ c ∈ P := fun c h => List.mem_cons.1 (hc.mem_iff.1 h)
    have hOn : outC p ∉ P := fun h => by have := hb _ (List.mem_append_left _ h); have h2 : (0 : Int) ≤ -1 := this.1; omega
    have hnd : cs.Nodup := hc.nodup_iff.2 (List.nodup_cons.2 ⟨hOn, hn2.1⟩)
    have hs := step_regs hPP hOO hPe he hee hb0.1 hb0.2 hA hB hc0 cs hnd hmem
    have hp2 : (insR p P e cs).Perm (outC p :: (P ++ [e])) := by
      refine (insR_perm cs ⟨c0, hc.mem_iff.2 (List.mem_cons.2 hc0), ?_⟩).trans ?_
      · unfold hasB
        rw [decide_eq_true_eq, mem_regN, mem_regN]
        exact ⟨⟨by omega, hA⟩, ⟨by omega, hB⟩⟩
      · refine (hc.cons e).trans ((List.Perm.swap _ _ _).trans (List.Perm.cons _ ?_))
        exact (List.perm_append_singleton e P).symm
    have h := foldR_regs l (P ++ [e]) (by rw [List.append_assoc]; exact hP) (by rw [List.append_assoc]; exact hb) (by rw [List.append_assoc]; exact hn) _ hp2
    rw [List.append_assoc, ← hs] at h
    exact h
/-- One list of numbers before another. -/
def lexB : List Int → List Int → Bool
  | _, [] => false
  | [], _ :: _ => true
  | x :: a, y :: b => if x = y then lexB a b else decide (x < y)
theorem lexB_irrefl : ∀ a, lexB a a = false
  | [] => rfl
  | x :: a => by rw [lexB, if_pos rfl]; exact lexB_irrefl a
theorem lexB_tri : ∀ a b, lexB a b = false → lexB b a = false → a = b
  | [], [], _, _ => rfl
  | [], _ :: _, h, _ => by simp [lexB] at h
  | _ :: _, [], _, h => by simp [lexB] at h
  | x :: a, y :: b, h1, h2 => by
    rw [lexB] at h1 h2
    by_cases e : x = y
    · subst e
      rw [if_pos rfl] at h1 h2
      rw [lexB_tri a b h1 h2]
    · rw [if_neg e] at h1
      rw [if_neg (Ne.symm e)] at h2
      have := of_decide_eq_false h1
      have := of_decide_eq_false h2
      omega
theorem lexB_trans : ∀ a b c, lexB a b = true → lexB b c = true → lexB a c = true
  | [], [], _, h, _ => by simp [lexB] at h
  | [], _ :: _, [], _, h => by simp [lexB] at h
  | [], _ :: _, _ :: _, _, _ => rfl
  | _ :: _, [], _, h, _ => by simp [lexB] at h
  | _ :: _, _ :: _, [], _, h => by simp [lexB] at h
  | x :: a, y :: b, z :: c, h1, h2 => by
    rw [lexB] at h1 h2 ⊢
    by_cases e1 : x = y
    · rw [if_pos e1] at h1
      by_cases e2 : y = z
      · rw [if_pos e2] at h2
        rw [if_pos (e1.trans e2)]
        exact lexB_trans a b c h1 h2
      · rw [if_neg e2] at h2
        rw [if_neg (by omega)]
        have := of_decide_eq_true h2
        exact decide_eq_true (by omega)
    · rw [if_neg e1] at h1
      have := of_decide_eq_true h1
      by_cases e2 : y = z
      · rw [if_neg (by omega)]
        exact decide_eq_true (by omega)
      · rw [if_neg e2] at h2
        have := of_decide_eq_true h2
        rw [if_neg (by omega)]
        exact decide_eq_true (by omega)
theorem lexB_ge_trans {a b c : List Int} (h1 : lexB b a = false) (h2 : lexB c b = false) : lexB c a = false := by
  rw [Bool.eq_false_iff]
  intro h
  cases e : lexB b c with
  | true => rw [lexB_trans _ _ _ e h] at h1; cases h1
  | false =>
    have := lexB_tri b c e h2
    subst this
    rw [h1] at h
    cases h
/-- A row into rows that are in order, behind all that are not greater. -/
def insL : List (List Int) → List Int → List (List Int)
  | [], r => [r]
  | a :: l, r => if lexB r a = true then r :: a :: l else a :: insL l r
def sortL (l : List (List Int)) : List (List Int) := l.foldl insL []
def LS (l : List (List Int)) : Prop := l.Pairwise fun x y => lexB y x = false
theorem insL_perm : ∀ (l : List (List Int)) (r : List Int), (insL l r).Perm (r :: l)
  | [], _ => List.Perm.refl _
  | a :: l, r => by
    rw [insL]
    by_cases h : lexB r a = true
    · rw [if_pos h]
    · rw [if_neg h]
      exact ((insL_perm l r).cons a).trans (List.Perm.swap _ _ _)
theorem insL_sorted : ∀ (l : List (List Int)) (r : List Int), LS l → LS (insL l r)
  | [], _, _ => List.pairwise_singleton _ _
  | a :: l, r, h => by
    obtain ⟨h1, h2⟩ := List.pairwise_cons.1 h
    rw [insL]
    by_cases e : lexB r a = true
    · rw [if_pos e]
      have ea : lexB a r = false := by
        rw [Bool.eq_false_iff]
        intro e2
        have := lexB_trans _ _ _ e e2
        rw [lexB_irrefl] at this
        cases this
      refine List.pairwise_cons.2 ⟨fun z hz => ?_, h⟩
      rcases List.mem_cons.1 hz with rfl | hz
      · exact ea
      · exact lexB_ge_trans ea (h1 z hz)
    · rw [if_neg e]
      have e := Bool.eq_false_iff.2 e
      refine List.pairwise_cons.2 ⟨fun z hz => ?_, insL_sorted l r h2⟩
      rcases List.mem_cons.1 ((insL_perm l r).mem_iff.1 hz) with rfl | hz
      · exact e
      · exact h1 z hz
theorem sortL_gen : ∀ (l acc : List (List Int)), LS acc → (l.foldl insL acc).Perm (acc ++ l) ∧ LS (l.foldl insL acc)
  | [], acc, h => ⟨by rw [List.append_nil]; exact List.Perm.refl _, h⟩
  | r :: l, acc, h => by
    obtain ⟨h1, h2⟩ := sortL_gen l (insL acc r) (insL_sorted acc r h)
    refine ⟨h1.trans (((insL_perm acc r).append_right l).trans ?_), h2⟩
    exact List.perm_middle.symm
theorem sortL_perm (l : List (List Int)) : (sortL l).Perm l := (sortL_gen l [] List.Pairwise.nil).1
theorem sortL_sorted (l : List (List Int)) : LS (sortL l) := (sortL_gen l [] List.Pairwise.nil).2
theorem ls_uniq : ∀ l1 l2 : List (List Int), l1.Perm l2 → LS l1 → LS l2 → l1 = l2
  | [], l2, h, _, _ => (List.nil_perm.1 h).symm
  | a :: r, l2, h, h1, h2 => by
    cases l2 with
    | nil => exact absurd h.symm (by intro q; cases List.nil_perm.1 q)
    | cons b s =>
      obtain ⟨p1, q1⟩ := List.pairwise_cons.1 h1
      obtain ⟨p2, q2⟩ := List.pairwise_cons.1 h2
      have hab : a = b := by
        apply lexB_tri
        · rcases List.mem_cons.1 (h.mem_iff.1 (List.mem_cons_self ..)) with e | hm
          · rw [e]; exact lexB_irrefl _
          · exact p2 _ hm
        · rcases List.mem_cons.1 (h.mem_iff.2 (List.mem_cons_self ..)) with e | hm
          · rw [e]; exact lexB_irrefl _
          · exact p1 _ hm
      subst hab
      rw [ls_uniq r s ((List.perm_cons a).1 h) q1 q2]
/-- Where the walk goes on from a point: the farthest chord from it. -/
def nxF (at_ : Int) : List Ch → Int → Int
  | [], m => m
  | d :: Q, m => nxF at_ Q (if d.f0 = at_ ∧ m < d.f1 then d.f1 else m)
theorem nxF_ge (a : Int) : ∀ (Q : List Ch) (m : Int), m ≤ nxF a Q m
  | [], m => Int.le_refl _
  | d :: Q, m => by
    rw [nxF]
    by_cases h : d.f0 = a ∧ m < d.f1
    · rw [if_pos h]
      have := nxF_ge a Q d.f1
      omega
    · rw [if_neg h]
      exact nxF_ge a Q m
theorem nxF_max (a : Int) : ∀ (Q : List Ch) (m : Int), ∀ d ∈ Q, d.f0 = a → d.f1 ≤ nxF a Q m
  | e :: Q, m, d, hd, ha => by
    rw [nxF]
    rcases List.mem_cons.1 hd with rfl | hd
    · by_cases h : d.f0 = a ∧ m < d.f1
      · rw [if_pos h]
        exact nxF_ge a Q d.f1
      · rw [if_neg h]
        have := nxF_ge a Q m
        omega
    · exact nxF_max a Q _ d hd ha
theorem nxF_mem (a : Int) : ∀ (Q : List Ch) (m : Int), nxF a Q m = m ∨ ∃ d ∈ Q, d.f0 = a ∧ d.f1 = nxF a Q m
  | [], m => .inl rfl
  | e :: Q, m => by
    rw [nxF]
    by_cases h : e.f0 = a ∧ m < e.f1
    · rw [if_pos h]
      rcases nxF_mem a Q e.f1 with h2 | ⟨d, hd, h2⟩
      · exact .inr ⟨e, List.mem_cons_self .., h.1, h2.symm⟩
      · exact .inr ⟨d, List.mem_cons_of_mem _ hd, h2⟩
    · rw [if_neg h]
      rcases nxF_mem a Q m with h2 | ⟨d, hd, h2⟩
      · exact .inl h2
      · exact .inr ⟨d, List.mem_cons_of_mem _ hd, h2⟩
/-- A point that no chord of Q covers. -/
def Free (Q : List Ch) (x : Int) : Prop := ∀ d ∈ Q, ¬ (d.f0 < x ∧ x < d.f1)
def nxt (Q : List Ch) (a : Int) : Int := if nxF a Q a > a then nxF a Q a else a + 1
/-- The walk: points, chords, arcs. -/
def walkP (Q : List Ch) (b : Int) : Nat → Int → List Int
  | 0, _ => []
  | n + 1, a => if a < b then nxt Q a :: walkP Q b n (nxt Q a) else []
def walkC (Q : List Ch) (b : Int) : Nat → Int → List Ch
  | 0, _ => []
  | n + 1, a => if a < b then (if nxF a Q a > a then [(⟨a, nxF a Q a⟩ : Ch)] else []) ++ walkC Q b n (nxt Q a) else []
def walkA (Q : List Ch) (b : Int) : Nat → Int → List Int
  | 0, _ => []
  | n + 1, a => if a < b then (if nxF a Q a > a then [] else [a]) ++ walkA Q b n (nxt Q a) else []
section
variable {Q : List Ch} {lo b : Int} (hlo : ∀ d ∈ Q, lo ≤ d.f0 ∧ d.f0 < d.f1 ∧ d.f1 ≤ b) (hno : ∀ c ∈ Q, ∀ d ∈ Q, crB c d = false)
include hlo
theorem nxt_gt (a : Int) : a < nxt Q a := by
  unfold nxt
  split <;> omega
theorem nxt_le {a : Int} (h : a < b) : nxt Q a ≤ b := by
  unfold nxt
  split
  · rename_i g
    rcases nxF_mem a Q a with e | ⟨d, hd, e1, e2⟩
    · omega
    · have := hlo d hd; omega
  · omega
/-- What lies between a point of the walk and the next one is covered. -/
theorem nxt_gap {a x : Int} (h1 : a < x) (h2 : x < nxt Q a) : ¬ Free Q x := by
  intro hf
  unfold nxt at h2
  split at h2
  · rcases nxF_mem a Q a with e | ⟨d, hd, e1, e2⟩
    · omega
    · exact hf d hd (by omega)
  · omega
include hno
theorem nxt_free {a : Int} (hf : Free Q a) : Free Q (nxt Q a) := by
  intro d hd hx
  have h0 := hf d hd
  have h3 := nxF_max a Q a d hd
  have hd2 := hlo d hd
  unfold nxt at hx
  split at hx
  · rcases nxF_mem a Q a with e | ⟨c, hc, e1, e2⟩
    · omega
    · have := nocr (hno c hc d hd)
      omega
  · omega
theorem mem_walkP : ∀ (n : Nat) (a : Int), b ≤ a + n → Free Q a → ∀ x, x ∈ walkP Q b n a ↔ a < x ∧ x ≤ b ∧ Free Q x
  | 0, a, hn, hf, x => by
    rw [walkP]
    constructor
    · intro h; cases h
    · rintro ⟨h1, h2, _⟩; omega
  | n + 1, a, hn, hf, x => by
    rw [walkP]
    by_cases h : a < b
    · rw [if_pos h, List.mem_cons]
      have hg := nxt_gt hlo a
      have hle := nxt_le hlo h
      have ih := mem_walkP n (nxt Q a) (by omega) (nxt_free hlo hno hf) x
      rw [ih]
      constructor
      · rintro (rfl | ⟨h1, h2, h3⟩)
        · exact ⟨hg, hle, nxt_free hlo hno hf⟩
        · exact ⟨by omega, h2, h3⟩
      · rintro ⟨h1, h2, h3⟩
        by_cases e : x = nxt Q a
        · exact .inl e
        · refine .inr ⟨?_, h2, h3⟩
          have : ¬ x < nxt Q a := fun q => nxt_gap hlo h1 q h3
          omega
    · rw [if_neg h]
      constructor
      · intro h; cases h
      · rintro ⟨h1, h2, _⟩; omega
theorem walkP_rises : ∀ (n : Nat) (a : Int), (a :: walkP Q b n a).Pairwise (· < ·) ∧ ∀ x ∈ walkP Q b n a, a < x
  | 0, a => ⟨List.pairwise_singleton _ _, fun x h => by cases h⟩
  | n + 1, a => by
    rw [walkP]
    by_cases h : a < b
    · rw [if_pos h]
      obtain ⟨h1, h2⟩ := walkP_rises n (nxt Q a)
      have hg := nxt_gt hlo a
      have h3 : ∀ x ∈ nxt Q a :: walkP Q b n (nxt Q a), a < x := by
        intro x hx
        rcases List.mem_cons.1 hx with rfl | hx
        · exact hg
        · have := h2 x hx; omega
      exact ⟨List.pairwise_cons.2 ⟨h3, h1⟩, h3⟩
    · rw [if_neg h]
      exact ⟨List.pairwise_singleton _ _, fun x h => by cases h⟩
theorem mem_walkC : ∀ (n : Nat) (a : Int), b ≤ a + n → Free Q a → ∀ d : Ch, d ∈ walkC Q b n a ↔ d ∈ Q ∧ a ≤ d.f0 ∧ Free Q d.f0 ∧ Free Q d.f1
  | 0, a, hn, hf, d => by
    rw [walkC]
    constructor
    · intro h; cases h
    · rintro ⟨h1, h2, _⟩; have := hlo d h1; omega
  | n + 1, a, hn, hf, d => by
    rw [walkC]
    by_cases h : a < b
    · rw [if_pos h, List.mem_append]
      have hg := nxt_gt hlo a
      have hle := nxt_le hlo h
      have ih := mem_walkC n (nxt Q a) (by omega) (nxt_free hlo hno hf) d
      rw [ih]
      have hnf := nxt_free hlo hno hf
      constructor
      · rintro (h1 | ⟨h1, h2, h3⟩)
        · by_cases g : nxF a Q a > a
          · rw [if_pos g, List.mem_singleton] at h1
            subst h1
            rw [nxt, if_pos g] at hnf
            refine ⟨?_, Int.le_refl _, hf, hnf⟩
            rcases nxF_mem a Q a with e | ⟨c, hc, e1, e2⟩
            · omega
            · have : c = ⟨a, nxF a Q a⟩ := by cases c; simp_all
              rwa [← this]
          · rw [if_neg g] at h1; cases h1
        · exact ⟨h1, by omega, h3⟩
      · rintro ⟨h1, h2, h3, h4⟩
        have hd := hlo d h1
        by_cases e : d.f0 = a
        · have hm := nxF_max a Q a d h1 e
          have g : nxF a Q a > a := by omega
          refine .inl ?_
          rw [if_pos g, List.mem_singleton]
          have : d.f1 = nxF a Q a := by
            rcases nxF_mem a Q a with e' | ⟨c, hc, e1, e2⟩
            · omega
            · have := h4 c hc; omega
          cases d
          simp_all
        · refine .inr ⟨h1, ?_, h3, h4⟩
          have : ¬ d.f0 < nxt Q a := fun q => nxt_gap hlo (by omega) q h3
          omega
    · rw [if_neg h]
      constructor
      · intro h; cases h
      · rintro ⟨h1, h2, _⟩; have := hlo d h1; omega
theorem mem_walkA : ∀ (n : Nat) (a : Int), b ≤ a + n → Free Q a → ∀ i : Int, i ∈ walkA Q b n a ↔ a ≤ i ∧ i < b ∧ Free Q i ∧ Free Q (i + 1) ∧ (⟨i, i + 1⟩ : Ch) ∉ Q
  | 0, a, hn, hf, i => by
    rw [walkA]
    constructor
    · intro h; cases h
    · rintro ⟨h1, h2, _⟩; omega
  | n + 1, a, hn, hf, i => by
    rw [walkA]
    by_cases h : a < b
    · rw [if_pos h, List.mem_append]
      have hg := nxt_gt hlo a
      have hle := nxt_le hlo h
      have ih := mem_walkA n (nxt Q a) (by omega) (nxt_free hlo hno hf) i
      rw [ih]
      have hnf := nxt_free hlo hno hf
      constructor
      · rintro (h1 | ⟨h1, h2, h3⟩)
        · by_cases g : nxF a Q a > a
          · rw [if_pos g] at h1; cases h1
          · rw [if_neg g, List.mem_singleton] at h1
            subst h1
            rw [nxt, if_neg g] at hnf
            refine ⟨Int.le_refl _, h, hf, hnf, fun hm => ?_⟩
            have := nxF_max i Q i _ hm rfl
            have : i + 1 ≤ nxF i Q i := this
            omega
        · exact ⟨by omega, h2, h3⟩
      · rintro ⟨h1, h2, h3, h4, h5⟩
        by_cases e : i = a
        · subst e
          have g : ¬ nxF i Q i > i := by
            intro g
            rcases nxF_mem i Q i with e' | ⟨c, hc, e1, e2⟩
            · omega
            · have := h4 c hc
              apply h5
              have : c = ⟨i, i + 1⟩ := by cases c; simp only [S47.mk.injEq] at *; omega
              rwa [← this]
          rw [if_neg g]
          exact .inl (List.mem_singleton.2 rfl)
        · refine .inr ⟨?_, h2, h3, h4, h5⟩
          have : ¬ i < nxt Q a := fun q => nxt_gap hlo (by omega) q h3
          omega
    · rw [if_neg h]
      constructor
      · intro h; cases h
      · rintro ⟨h1, h2, _⟩; omega
end
def selB (c d : Ch) : Bool := decide (d ≠ c ∧ c.f0 ≤ d.f0 ∧ d.f1 ≤ c.f1)
def lowE (c : Ch) : Int := if c.f0 < 0 then 0 else c.f0
def topE (p : Int) (c : Ch) : Int := if c.f1 < p then c.f1 else p - 1
def qOf (P : List Ch) (c : Ch) : List Ch := P.filter (selB c)
def ptsW (p : Int) (P : List Ch) (c : Ch) : List Int := lowE c :: walkP (qOf P c) (topE p c) (topE p c - lowE c).toNat (lowE c)
def chsW (p : Int) (P : List Ch) (c : Ch) : List Ch := (if c = outC p then [] else [c]) ++ walkC (qOf P c) (topE p c) (topE p c - lowE c).toNat (lowE c)
def arcsW (p : Int) (P : List Ch) (c : Ch) : List Int := (if c = outC p then [p - 1] else []) ++ walkA (qOf P c) (topE p c) (topE p c - lowE c).toNat (lowE c)
/-- A plane set of chords of so many points. -/
structure PlaneP (p : Int) (P : List Ch) : Prop where
  pl : Plane P
  nd : P.Nodup
  hp : 3 ≤ p
  ends : ∀ d ∈ P, 0 ≤ d.f0 ∧ d.f1 < p
section
variable {p : Int} {P : List Ch} (H : PlaneP p P)
include H
theorem edge_cases {c : Ch} (hc : c = outC p ∨ c ∈ P) : (c = outC p ∧ lowE c = 0 ∧ topE p c = p - 1) ∨ (c ∈ P ∧ c ≠ outC p ∧ lowE c = c.f0 ∧ topE p c = c.f1 ∧ c.f0 < c.f1 ∧ 0 ≤ c.f0 ∧ c.f1 < p) := by
  rcases hc with rfl | hc
  · refine .inl ⟨rfl, ?_, ?_⟩
    · unfold lowE outC; exact if_pos (by show (-1 : Int) < 0; omega)
    · unfold topE outC; exact if_neg (by show ¬ p < p; omega)
  · have := H.ends c hc
    have := H.pl.ok c hc
    refine .inr ⟨hc, ?_, ?_, ?_, by omega, by omega, by omega⟩
    · rintro rfl
      have h : (0 : Int) ≤ -1 := (H.ends _ hc).1
      omega
    · unfold lowE; exact if_neg (by omega)
    · unfold topE; exact if_pos (by omega)
theorem q_in {c d : Ch} (hd : d ∈ qOf P c) : d ∈ P ∧ d ≠ c ∧ c.f0 ≤ d.f0 ∧ d.f1 ≤ c.f1 := by
  unfold qOf at hd
  rw [List.mem_filter] at hd
  exact ⟨hd.1, of_decide_eq_true hd.2⟩
theorem q_low {c : Ch} (hc : c = outC p ∨ c ∈ P) : ∀ d ∈ qOf P c, lowE c ≤ d.f0 ∧ d.f0 < d.f1 ∧ d.f1 ≤ topE p c := by
  intro d hd
  obtain ⟨h1, h2, h3, h4⟩ := q_in H hd
  have := H.ends d h1
  have := H.pl.ok d h1
  rcases edge_cases H hc with ⟨rfl, e1, e2⟩ | ⟨_, _, e1, e2, _⟩ <;> omega
theorem q_no {c : Ch} : ∀ a ∈ qOf P c, ∀ d ∈ qOf P c, crB a d = false := fun a ha d hd => H.pl.no a (q_in H ha).1 d (q_in H hd).1
theorem free_iff {c : Ch} (hc : c = outC p ∨ c ∈ P) (x : Int) : ((0 ≤ x ∧ x < p) ∧ InR P c x) ↔ lowE c ≤ x ∧ x ≤ topE p c ∧ Free (qOf P c) x := by
  have hf : (∀ d ∈ P, d ≠ c → c.f0 ≤ d.f0 → d.f1 ≤ c.f1 → ¬ (d.f0 < x ∧ x < d.f1)) ↔ Free (qOf P c) x := by
    unfold Free qOf
    constructor
    · intro h d hd
      rw [List.mem_filter] at hd
      obtain ⟨q1, q2, q3⟩ := of_decide_eq_true hd.2
      exact h d hd.1 q1 q2 q3
    · intro h d hd q1 q2 q3
      exact h d (List.mem_filter.2 ⟨hd, decide_eq_true ⟨q1, q2, q3⟩⟩)
  unfold InR
  rw [hf]
  rcases edge_cases H hc with ⟨rfl, e1, e2⟩ | ⟨_, _, e1, e2, _⟩
  · rw [e1, e2]
    unfold outC
    constructor
    · rintro ⟨⟨h1, h2⟩, _, _, h5⟩; exact ⟨by omega, by omega, h5⟩
    · rintro ⟨h1, h2, h3⟩; exact ⟨⟨by omega, by omega⟩, by show (-1 : Int) ≤ x; omega, by show x ≤ p; omega, h3⟩
  · rw [e1, e2]
    constructor
    · rintro ⟨⟨h1, h2⟩, h3, h4, h5⟩; exact ⟨h3, h4, h5⟩
    · rintro ⟨h1, h2, h3⟩; exact ⟨⟨by omega, by omega⟩, h1, h2, h3⟩
theorem low_free {c : Ch} (hc : c = outC p ∨ c ∈ P) : Free (qOf P c) (lowE c) := by
  intro d hd hx
  have := q_low H hc d hd
  omega
theorem top_free {c : Ch} (hc : c = outC p ∨ c ∈ P) : Free (qOf P c) (topE p c) := by
  intro d hd hx
  have := q_low H hc d hd
  omega
theorem low_le {c : Ch} (hc : c = outC p ∨ c ∈ P) : lowE c < topE p c := by
  have := H.hp
  rcases edge_cases H hc with ⟨rfl, e1, e2⟩ | ⟨_, _, e1, e2, _⟩ <;> omega
theorem mem_ptsW {c : Ch} (hc : c = outC p ∨ c ∈ P) (x : Int) : x ∈ ptsW p P c ↔ (0 ≤ x ∧ x < p) ∧ InR P c x := by
  rw [free_iff H hc]
  unfold ptsW
  have hl := low_le H hc
  rw [List.mem_cons, mem_walkP (q_low H hc) (q_no H) _ _ (by omega) (low_free H hc)]
  constructor
  · rintro (rfl | ⟨h1, h2, h3⟩)
    · exact ⟨Int.le_refl _, by omega, low_free H hc⟩
    · exact ⟨by omega, h2, h3⟩
  · rintro ⟨h1, h2, h3⟩
    by_cases e : x = lowE c
    · exact .inl e
    · exact .inr ⟨by omega, h2, h3⟩
theorem ptsTo_rises (q : Int) : (ptsTo q).Pairwise (· < ·) := by
  unfold ptsTo
  rw [List.pairwise_map]
  exact (List.pairwise_lt_range (n := q.toNat)).imp (by intro a b h; omega)
theorem regN_rises (c : Ch) : (regN p P c).Pairwise (· < ·) := (ptsTo_rises H p).sublist List.filter_sublist
theorem rises_uniq : ∀ l1 l2 : List Int, l1.Pairwise (· < ·) → l2.Pairwise (· < ·) → (∀ x, x ∈ l1 ↔ x ∈ l2) → l1 = l2
  | [], [], _, _, _ => rfl
  | [], b :: s, _, _, hm => absurd ((hm b).2 (List.mem_cons_self ..)) (by simp)
  | a :: r, [], _, _, hm => absurd ((hm a).1 (List.mem_cons_self ..)) (by simp)
  | a :: r, b :: s, h1, h2, hm => by
    obtain ⟨p1, q1⟩ := List.pairwise_cons.1 h1
    obtain ⟨p2, q2⟩ := List.pairwise_cons.1 h2
    have hab : a = b := by
      rcases List.mem_cons.1 ((hm a).1 (List.mem_cons_self ..)) with e | ha
      · exact e
      · rcases List.mem_cons.1 ((hm b).2 (List.mem_cons_self ..)) with e | hb
        · exact e.symm
        · have x1 := p2 a ha
          have x2 := p1 b hb
          omega
    subst hab
    rw [rises_uniq r s q1 q2 (fun x => ?_)]
    have hx := hm x
    constructor
    · intro hr
      rcases List.mem_cons.1 (hx.1 (List.mem_cons_of_mem _ hr)) with rfl | hs
      · have := p1 x hr; omega
      · exact hs
    · intro hs
      rcases List.mem_cons.1 (hx.2 (List.mem_cons_of_mem _ hs)) with rfl | hr
      · have := p2 x hs; omega
      · exact hr
/-- The walk's points are the region's. -/
theorem ptsW_eq {c : Ch} (hc : c = outC p ∨ c ∈ P) : ptsW p P c = regN p P c := by
  refine rises_uniq H _ _ ?_ (regN_rises H c) (fun x => ?_)
  · unfold ptsW
    exact (walkP_rises (q_low H hc) (q_no H) _ _).1
  · rw [mem_ptsW H hc, mem_regN]
/-- A chord lies next to another one's region, on its outer side. -/
def Child (P : List Ch) (c d : Ch) : Prop := d ∈ P ∧ d ≠ c ∧ InR P c d.f0 ∧ InR P c d.f1
theorem mem_chsW {c : Ch} (hc : c = outC p ∨ c ∈ P) (d : Ch) : d ∈ chsW p P c ↔ (c ∈ P ∧ d = c) ∨ Child P c d := by
  unfold chsW Child
  have hl := low_le H hc
  rw [List.mem_append, mem_walkC (q_low H hc) (q_no H) _ _ (by omega) (low_free H hc)]
  have h1 : d ∈ (if c = outC p then [] else [c]) ↔ (c ∈ P ∧ d = c) := by
    rcases edge_cases H hc with ⟨rfl, e1, e2⟩ | ⟨h, hn, e1, e2, _⟩
    · rw [if_pos rfl]
      constructor
      · intro h; cases h
      · rintro ⟨h, _⟩
        have h : (0 : Int) ≤ -1 := (H.ends _ h).1
        omega
    · rw [if_neg hn, List.mem_singleton]
      exact ⟨fun e => ⟨h, e⟩, fun e => e.2⟩
  rw [h1]
  refine or_congr Iff.rfl ?_
  constructor
  · rintro ⟨h2, h3, h4, h5⟩
    obtain ⟨g1, g2, g3, g4⟩ := q_in H h2
    have g5 := q_low H hc d h2
    have i0 := (free_iff H hc d.f0).2 ⟨g5.1, by omega, h4⟩
    have i1 := (free_iff H hc d.f1).2 ⟨by omega, g5.2.2, h5⟩
    exact ⟨g1, g2, i0.2, i1.2⟩
  · rintro ⟨h2, h3, h4, h5⟩
    have g0 := H.ends d h2
    have g1 := H.pl.ok d h2
    have hq : d ∈ qOf P c := List.mem_filter.2 ⟨h2, decide_eq_true ⟨h3, h4.1, h5.2.1⟩⟩
    have i0 := (free_iff H hc d.f0).1 ⟨by omega, h4⟩
    have i1 := (free_iff H hc d.f1).1 ⟨by omega, h5⟩
    exact ⟨hq, i0.1, i0.2.2, i1.2.2⟩
theorem child_common {c d : Ch} (h : Child P c d) (x : Int) : (InR P c x ∧ InR P d x) ↔ (x = d.f0 ∨ x = d.f1) := by
  obtain ⟨h1, h2, h3, h4⟩ := h
  have hd := H.pl.ok d h1
  constructor
  · rintro ⟨⟨_, _, q⟩, ⟨a, b, _⟩⟩
    have := q d h1 h2 h3.1 h4.2.1
    omega
  · rintro (rfl | rfl)
    · exact ⟨h3, Int.le_refl _, by omega, fun e _ _ _ _ => by omega⟩
    · exact ⟨h4, by omega, Int.le_refl _, fun e _ _ _ _ => by omega⟩
theorem two_child {c d : Ch} (hc : c = outC p ∨ c ∈ P) (hd : d = outC p ∨ d ∈ P) (hne : c ≠ d) {x y : Int} (hxy : x < y) (hcx : InR P c x) (hcy : InR P c y) (hdx : InR P d x) (hdy : InR P d y) : Child P c d ∨ Child P d c := by
  have key : ∀ c d : Ch, c = outC p ∨ c ∈ P → d ∈ P → c ≠ d → c.f0 ≤ d.f0 → d.f1 ≤ c.f1 → InR P c x → InR P c y → InR P d x → InR P d y → Child P c d := by
    intro c d hc hd hne q1 q2 hcx hcy hdx hdy
    have hdo := H.pl.ok d hd
    have a1 := hdx.1
    have a2 := hdy.2.1
    refine ⟨hd, Ne.symm hne, ⟨q1, by omega, fun e he hec w1 w2 hx => ?_⟩, ⟨by omega, q2, fun e he hec w1 w2 hx => ?_⟩⟩
    · have := nocr (H.pl.no e he d hd)
      have := hcx.2.2 e he hec w1 w2
      have := hcy.2.2 e he hec w1 w2
      omega
    · have := nocr (H.pl.no e he d hd)
      have := hcx.2.2 e he hec w1 w2
      have := hcy.2.2 e he hec w1 w2
      omega
  have b1 := hcx.1; have b2 := hcy.2.1; have b3 := hdx.1; have b4 := hdy.2.1
  have a1 := hcx.2.1; have a2 := hcy.1; have a3 := hdx.2.1; have a4 := hdy.1
  rcases hc with rfl | hc
  · rcases hd with rfl | hd
    · exact absurd rfl hne
    · have := H.ends d hd
      exact .inl (key _ d (.inl rfl) hd hne (by show (-1 : Int) ≤ d.f0; omega) (by show d.f1 ≤ p; omega) hcx hcy hdx hdy)
  · rcases hd with rfl | hd
    · have := H.ends c hc
      exact .inr (key _ c (.inl rfl) hc (Ne.symm hne) (by show (-1 : Int) ≤ c.f0; omega) (by show c.f1 ≤ p; omega) hdx hdy hcx hcy)
    · have := nocr (H.pl.no c hc d hd)
      by_cases hin : c.f0 ≤ d.f0 ∧ d.f1 ≤ c.f1
      · exact .inl (key c d (.inr hc) hd hne hin.1 hin.2 hcx hcy hdx hdy)
      · exact .inr (key d c (.inr hd) hc (Ne.symm hne) (by omega) (by omega) hdx hdy hcx hcy)
/-- Two regions share a chord just if one's chord is the other's child. -/
theorem share_iff {c d : Ch} (hc : c = outC p ∨ c ∈ P) (hd : d = outC p ∨ d ∈ P) (hne : c ≠ d) : (∃ e ∈ chsW p P c, e ∈ chsW p P d) ↔ Child P c d ∨ Child P d c := by
  constructor
  · rintro ⟨e, h1, h2⟩
    rw [mem_chsW H hc] at h1
    rw [mem_chsW H hd] at h2
    rcases h1 with ⟨h1, rfl⟩ | h1
    · rcases h2 with ⟨h2, rfl⟩ | h2
      · exact absurd rfl hne
      · exact .inr h2
    · rcases h2 with ⟨h2, rfl⟩ | h2
      · exact .inl h1
      · exact two_child H hc hd hne (H.pl.ok e h1.1) h1.2.2.1 h1.2.2.2 h2.2.2.1 h2.2.2.2
  · rintro (h | h)
    · exact ⟨d, (mem_chsW H hc d).2 (.inr h), (mem_chsW H hd d).2 (.inl ⟨h.1, rfl⟩)⟩
    · exact ⟨c, (mem_chsW H hc c).2 (.inl ⟨h.1, rfl⟩), (mem_chsW H hd c).2 (.inr h)⟩
/-- How many points two regions have in common. -/
def comN (a b : List Int) : Nat := b.countP fun x => a.contains x
theorem rises_two {l : List Int} (hl : l.Pairwise (· < ·)) {a b : Int} (hab : a < b) (h : ∀ x, x ∈ l ↔ (x = a ∨ x = b)) : l = [a, b] :=
  rises_uniq H l [a, b] hl (by simp [hab]) (fun x => by rw [h x]; simp)
theorem com_two {c d : Ch} (hc : c = outC p ∨ c ∈ P) (hd : d = outC p ∨ d ∈ P) (hne : c ≠ d) : (comN (regN p P c) (regN p P d) = 2) ↔ Child P c d ∨ Child P d c := by
  unfold comN
  rw [List.countP_eq_length_filter]
  have hs : ((regN p P d).filter fun x => (regN p P c).contains x).Pairwise (· < ·) := (regN_rises H d).sublist List.filter_sublist
  have hm : ∀ x, x ∈ ((regN p P d).filter fun x => (regN p P c).contains x) ↔ (0 ≤ x ∧ x < p) ∧ InR P c x ∧ InR P d x := by
    intro x
    rw [List.mem_filter, List.contains_iff_mem, mem_regN, mem_regN]
    constructor
    · rintro ⟨⟨h1, h2⟩, h3, h4⟩; exact ⟨h1, h4, h2⟩
    · rintro ⟨h1, h2, h3⟩; exact ⟨⟨h1, h3⟩, h1, h2⟩
  constructor
  · intro h
    obtain ⟨l, hl⟩ : ∃ l, l = ((regN p P d).filter fun x => (regN p P c).contains x) := ⟨_, rfl⟩
    rw [← hl] at h hs hm
    match l, h, hs, hm with
    | [x, y], _, hs, hm =>
      have hxy : x < y := by simpa using hs
      have h1 := (hm x).1 (by simp)
      have h2 := (hm y).1 (by simp)
      exact two_child H hc hd hne hxy h1.2.1 h2.2.1 h1.2.2 h2.2.2
  · rintro (h | h)
    · have e := rises_two H hs (H.pl.ok d h.1) (fun x => by
        rw [hm x, child_common H h]
        have := H.ends d h.1; have := H.pl.ok d h.1
        constructor
        · exact fun q => q.2
        · exact fun q => ⟨by omega, q⟩)
      rw [e]; rfl
    · have e := rises_two H hs (H.pl.ok c h.1) (fun x => by
        rw [hm x, and_comm (a := InR P c x), child_common H h]
        have := H.ends c h.1; have := H.pl.ok c h.1
        constructor
        · exact fun q => q.2
        · exact fun q => ⟨by omega, q⟩)
      rw [e]; rfl
/-- The arc of a region, as the reference tells it. -/
def arcB (p : Int) (P : List Ch) (r : List Int) (i : Int) : Bool :=
  decide (i ∈ r ∧ Int.emod (i + 1) p ∈ r ∧ ((⟨min i (Int.emod (i + 1) p), max i (Int.emod (i + 1) p)⟩ : Ch) ∉ P ∨ r.length = 2))
theorem three_len {l : List Int} {a b c : Int} (hab : a < b) (hbc : b < c) (h1 : a ∈ l) (h2 : b ∈ l) (h3 : c ∈ l) (hl : l.Pairwise (· < ·)) : l.length ≠ 2 := by
  intro h
  match l, h, h1, h2, h3, hl with
  | [x, y], _, h1, h2, h3, hl =>
    simp only [List.mem_cons, List.not_mem_nil, or_false] at h1 h2 h3
    omega
theorem arc_iff {c : Ch} (hc : c = outC p ∨ c ∈ P) (i : Int) (h0 : 0 ≤ i) (h1 : i < p) : i ∈ arcsW p P c ↔ arcB p P (regN p P c) i = true := by
  unfold arcsW arcB
  have hp := H.hp
  have hl := low_le H hc
  rw [decide_eq_true_eq, List.mem_append, mem_walkA (q_low H hc) (q_no H) _ _ (by omega) (low_free H hc)]
  have hm : ∀ x, x ∈ regN p P c ↔ lowE c ≤ x ∧ x ≤ topE p c ∧ Free (qOf P c) x := fun x => by rw [mem_regN, free_iff H hc]
  by_cases hi : i = p - 1
  · subst hi
    have e0 : Int.emod (p - 1 + 1) p = 0 := by
      rw [show p - 1 + 1 = p by omega]
      exact Int.emod_self
    rw [e0, show min (p - 1) 0 = (0 : Int) by omega, show max (p - 1) 0 = p - 1 by omega, hm, hm]
    rcases edge_cases H hc with ⟨rfl, e1, e2⟩ | ⟨hcP, hn, e1, e2, e3, e4, e5⟩
    · rw [if_pos rfl]
      constructor
      · intro _
        refine ⟨⟨by omega, by omega, by rw [← e2]; exact top_free H hc⟩, ⟨by omega, by omega, by rw [← e1]; exact low_free H hc⟩, ?_⟩
        by_cases hin : (⟨0, p - 1⟩ : Ch) ∈ P
        · right
          have hq : (⟨0, p - 1⟩ : Ch) ∈ qOf P (outC p) := List.mem_filter.2 ⟨hin, decide_eq_true ⟨by unfold outC; simp, by show (-1 : Int) ≤ 0; omega, by show p - 1 ≤ p; omega⟩⟩
          have := rises_two H (regN_rises H (outC p)) (a := 0) (b := p - 1) (by omega) (fun x => by
            rw [hm]
            constructor
            · rintro ⟨q1, q2, q3⟩
              have : ¬ ((0 : Int) < x ∧ x < p - 1) := q3 _ hq
              omega
            · rintro (rfl | rfl)
              · exact ⟨by omega, by omega, by have := low_free H hc; rwa [e1] at this⟩
              · exact ⟨by omega, by omega, by have := top_free H hc; rwa [e2] at this⟩)
          rw [this]; rfl
        · exact .inl hin
      · intro _
        exact .inl (by simp)
    · rw [if_neg hn]
      constructor
      · rintro (h | ⟨h2, h3, _⟩)
        · cases h
        · omega
      · rintro ⟨⟨q1, q2, _⟩, ⟨q3, q4, _⟩, hor⟩
        exfalso
        have hce : c = ⟨0, p - 1⟩ := by cases c; simp only [S47.mk.injEq] at *; omega
        rcases hor with hor | hor
        · exact hor (hce ▸ hcP)
        · have hg := nxt_gt (q_low H hc) (lowE c)
          have hle := nxt_le (q_low H hc) hl
          have hf := nxt_free (q_low H hc) (q_no H) (low_free H hc)
          by_cases e : nxt (qOf P c) (lowE c) = topE p c
          · unfold nxt at e
            split at e
            · rename_i g
              rcases nxF_mem (lowE c) (qOf P c) (lowE c) with e' | ⟨d, hd, g1, g2⟩
              · omega
              · have hd2 := q_in H hd
                exact hd2.2.1 (by cases d; cases c; simp only [S47.mk.injEq] at *; omega)
            · have c0 : c.f0 = 0 := by rw [hce]
              have c1 : c.f1 = p - 1 := by rw [hce]
              omega
          · exact three_len H (a := lowE c) (b := nxt (qOf P c) (lowE c)) (c := topE p c) hg (by omega) ((hm _).2 ⟨by omega, by omega, low_free H hc⟩) ((hm _).2 ⟨by omega, by omega, hf⟩) ((hm _).2 ⟨by omega, by omega, top_free H hc⟩) (regN_rises H c) hor
  · have e0 : Int.emod (i + 1) p = i + 1 := Int.emod_eq_of_lt (by omega) (by omega)
    rw [e0, show min i (i + 1) = i by omega, show max i (i + 1) = i + 1 by omega, hm, hm]
    constructor
    · rintro (h | ⟨h2, h3, h4, h5, h6⟩)
      · split at h
        · rw [List.mem_singleton] at h; omega
        · cases h
      · refine ⟨⟨h2, by omega, h4⟩, ⟨by omega, by omega, h5⟩, ?_⟩
        by_cases hin : (⟨i, i + 1⟩ : Ch) ∈ P
        · right
          have hce : c = ⟨i, i + 1⟩ := by
            by_cases e : (⟨i, i + 1⟩ : Ch) = c
            · exact e.symm
            · exfalso
              apply h6
              refine List.mem_filter.2 ⟨hin, decide_eq_true ⟨e, ?_, ?_⟩⟩
              · rcases edge_cases H hc with ⟨rfl, e1, e2⟩ | ⟨hcP, hn, e1, e2, e3, e4, e5⟩
                · show (-1 : Int) ≤ i; omega
                · show c.f0 ≤ i; omega
              · rcases edge_cases H hc with ⟨rfl, e1, e2⟩ | ⟨hcP, hn, e1, e2, e3, e4, e5⟩
                · show i + 1 ≤ p; omega
                · show i + 1 ≤ c.f1; omega
          have e1 : c.f0 = i := by rw [hce]
          have e2 : c.f1 = i + 1 := by rw [hce]
          rcases edge_cases H hc with ⟨rfl, g1, g2⟩ | ⟨hcP, hn, g1, g2, _⟩
          · have : (-1 : Int) = i := e1
            omega
          · have := rises_two H (regN_rises H c) (a := i) (b := i + 1) (by omega) (fun x => by
              rw [hm]
              constructor
              · rintro ⟨q1, q2, q3⟩; omega
              · rintro (rfl | rfl)
                · exact ⟨by omega, by omega, h4⟩
                · exact ⟨by omega, by omega, h5⟩)
            rw [this]; rfl
        · exact .inl hin
    · rintro ⟨⟨q1, q2, q3⟩, ⟨q4, q5, q6⟩, hor⟩
      refine .inr ⟨q1, by omega, q3, q6, fun hq => ?_⟩
      have hq2 := q_in H hq
      rcases hor with hor | hor
      · exact hor hq2.1
      · have hne := hq2.2.1
        rcases edge_cases H hc with ⟨rfl, g1, g2⟩ | ⟨hcP, hn, g1, g2, _⟩
        · by_cases e : i = 0
          · exact three_len H (a := i) (b := i + 1) (c := p - 1) (by omega) (by omega) ((hm _).2 ⟨q1, q2, q3⟩) ((hm _).2 ⟨q4, q5, q6⟩) ((hm _).2 ⟨by omega, by omega, by have := top_free H hc; rwa [g2] at this⟩) (regN_rises H _) hor
          · exact three_len H (a := 0) (b := i) (c := i + 1) (by omega) (by omega) ((hm _).2 ⟨by omega, by omega, by have := low_free H hc; rwa [g1] at this⟩) ((hm _).2 ⟨q1, q2, q3⟩) ((hm _).2 ⟨q4, q5, q6⟩) (regN_rises H _) hor
        · have hcc := ch_ne hne
          have hcc : i ≠ c.f0 ∨ i + 1 ≠ c.f1 := hcc
          by_cases e : i = lowE c
          · exact three_len H (a := i) (b := i + 1) (c := topE p c) (by omega) (by omega) ((hm _).2 ⟨q1, q2, q3⟩) ((hm _).2 ⟨q4, q5, q6⟩) ((hm _).2 ⟨by omega, by omega, top_free H hc⟩) (regN_rises H _) hor
          · exact three_len H (a := lowE c) (b := i) (c := i + 1) (by omega) (by omega) ((hm _).2 ⟨by omega, by omega, low_free H hc⟩) ((hm _).2 ⟨q1, q2, q3⟩) ((hm _).2 ⟨q4, q5, q6⟩) (regN_rises H _) hor
end
theorem regN_same {p : Int} {P P' : List Ch} (h : ∀ x, x ∈ P ↔ x ∈ P') (c : Ch) : regN p P c = regN p P' c := by
  refine regN_congr (fun x => ?_)
  unfold InR
  constructor
  · rintro ⟨h1, h2, h3⟩; exact ⟨h1, h2, fun d hd => h3 d ((h d).2 hd)⟩
  · rintro ⟨h1, h2, h3⟩; exact ⟨h1, h2, fun d hd => h3 d ((h d).1 hd)⟩
def sumL (rs : List (List Int)) : Nat := (rs.map List.length).sum
theorem cut_len {e : Ch} (he : e.f0 < e.f1) : ∀ r : List Int, r.Pairwise (· < ·) → (cutIn e r).length + (cutOut e r).length = r.length + (if e.f0 ∈ r then 1 else 0) + (if e.f1 ∈ r then 1 else 0)
  | [], _ => rfl
  | x :: r, h => by
    obtain ⟨h1, h2⟩ := List.pairwise_cons.1 h
    have ih := cut_len he r h2
    have n0 : x = e.f0 → e.f0 ∉ r := fun q hr => by have := h1 _ hr; omega
    have n1 : x = e.f1 → e.f1 ∉ r := fun q hr => by have := h1 _ hr; omega
    unfold cutIn cutOut at *
    rw [List.filter_cons, List.filter_cons]
    simp only [decide_eq_true_eq, List.mem_cons]
    by_cases a : x = e.f0
    · have := n0 a
      rw [if_pos (by omega), if_pos (by omega), if_pos (.inl a.symm)]
      rw [if_neg this] at ih
      have e1 : (e.f1 = x ∨ e.f1 ∈ r) ↔ e.f1 ∈ r := ⟨fun q => q.elim (fun q => by omega) id, .inr⟩
      simp only [e1, List.length_cons]
      omega
    · by_cases b : x = e.f1
      · have := n1 b
        rw [if_pos (by omega), if_pos (by omega)]
        rw [if_neg this] at ih
        have e0 : (e.f0 = x ∨ e.f0 ∈ r) ↔ e.f0 ∈ r := ⟨fun q => q.elim (fun q => by omega) id, .inr⟩
        have e1 : (e.f1 = x ∨ e.f1 ∈ r) ↔ True := ⟨fun _ => trivial, fun _ => .inl b.symm⟩
        simp only [e0, e1, List.length_cons, if_true]
        omega
      · have e0 : (e.f0 = x ∨ e.f0 ∈ r) ↔ e.f0 ∈ r := ⟨fun q => q.elim (fun q => absurd q.symm a) id, .inr⟩
        have e1 : (e.f1 = x ∨ e.f1 ∈ r) ↔ e.f1 ∈ r := ⟨fun q => q.elim (fun q => absurd q.symm b) id, .inr⟩
        simp only [e0, e1]
        by_cases c : e.f0 ≤ x ∧ x ≤ e.f1
        · rw [if_pos c, if_neg (by omega), List.length_cons, List.length_cons]; omega
        · rw [if_neg c, if_pos (by omega), List.length_cons, List.length_cons]; omega
theorem step_sum {e : Ch} (he : e.f0 < e.f1) : ∀ rs : List (List Int), (∀ r ∈ rs, r.Pairwise (· < ·)) → (∃ r ∈ rs, hasB e r = true) → sumL (stepR e rs) = sumL rs + 2
  | [], _, h => by obtain ⟨r, hr, _⟩ := h; cases hr
  | r :: rs, hs, h => by
    rw [stepR]
    by_cases hb : hasB e r = true
    · rw [if_pos hb]
      have hb' := of_decide_eq_true hb
      have := cut_len he r (hs r (List.mem_cons_self ..))
      rw [if_pos hb'.1, if_pos hb'.2] at this
      simp only [sumL, List.map_cons, List.sum_cons]
      omega
    · rw [if_neg hb]
      obtain ⟨r', hr', h'⟩ := h
      rcases List.mem_cons.1 hr' with rfl | hr'
      · exact absurd h' hb
      · have ih := step_sum he rs (fun q hq => hs q (List.mem_cons_of_mem _ hq)) ⟨r', hr', h'⟩
        simp only [sumL, List.map_cons, List.sum_cons] at ih ⊢
        omega
theorem perm_sumL {a b : List (List Int)} (h : a.Perm b) : sumL a = sumL b := by
  unfold sumL
  exact (h.map List.length).sum_nat
theorem foldR_sum {p : Int} : ∀ (l P : List Ch), Plane (P ++ l) → (∀ d ∈ P ++ l, 0 ≤ d.f0 ∧ d.f1 < p) → (P ++ l).Nodup → ∀ cs : List Ch, cs.Perm (outC p :: P) →
    sumL (foldR l (cs.map (regN p P))) = sumL (cs.map (regN p P)) + 2 * l.length
  | [], P, hP, hb, hn, cs, hc => by simp [foldR]
  | e :: l, P, hP, hb, hn, cs, hc => by
    have hPP : Plane P := ⟨fun c h => hP.ok c (List.mem_append_left _ h), fun c h d h' => hP.no c (List.mem_append_left _ h) d (List.mem_append_left _ h')⟩
    have hemem : e ∈ P ++ e :: l := List.mem_append_right _ (List.mem_cons_self ..)
    have hPe : ∀ d ∈ P, crB d e = false := fun d hd => hP.no d (List.mem_append_left _ hd) e hemem
    have hee := hP.ok e hemem
    have hb0 := hb e hemem
    have hn2 := List.nodup_append.1 hn
    have he : e ∉ P := fun h => hn2.2.2 e h e (List.mem_cons_self ..) rfl
    have hOO : ∀ d ∈ e :: P, (outC p).f0 < d.f0 ∧ d.f1 < (outC p).f1 := by
      intro d hd
      have : 0 ≤ d.f0 ∧ d.f1 < p := by
        rcases List.mem_cons.1 hd with rfl | hd
        · exact hb0
        · exact hb d (List.mem_append_left _ hd)
      show -1 < d.f0 ∧ d.f1 < p
      omega
    obtain ⟨c0, hc0, hA, hB⟩ := least_around hPe hPP.ok he hee (hOO e (List.mem_cons_self ..))
    have hmem : ∀ c ∈ cs, c = outC p ∨ c ∈ P := fun c h => List.mem_cons.1 (hc.mem_iff.1 h)
    have hOn : outC p ∉ P := fun h => by have := hb _ (List.mem_append_left _ h); have h2 : (0 : Int) ≤ -1 := this.1; omega
    have hnd : cs.Nodup := hc.nodup_iff.2 (List.nodup_cons.2 ⟨hOn, hn2.1⟩)
    have hs := step_regs hPP hOO hPe he hee hb0.1 hb0.2 hA hB hc0 cs hnd hmem
    have hex : ∃ c ∈ cs, hasB e (regN p P c) = true := by
      refine ⟨c0, hc.mem_iff.2 (List.mem_cons.2 hc0), ?_⟩
      unfold hasB
      rw [decide_eq_true_eq, mem_regN, mem_regN]
      exact ⟨⟨by omega, hA⟩, ⟨by omega, hB⟩⟩
    have hp2 : (insR p P e cs).Perm (outC p :: (P ++ [e])) := by
      refine (insR_perm cs hex).trans ?_
      refine (hc.cons e).trans ((List.Perm.swap _ _ _).trans (List.Perm.cons _ ?_))
      exact (List.perm_append_singleton e P).symm
    have h := foldR_sum l (P ++ [e]) (by rw [List.append_assoc]; exact hP) (by rw [List.append_assoc]; exact hb) (by rw [List.append_assoc]; exact hn) _ hp2
    rw [← hs] at h
    have hr1 : ∀ r ∈ cs.map (regN p P), r.Pairwise (· < ·) := by
      intro r hr
      obtain ⟨c, _, rfl⟩ := List.mem_map.1 hr
      unfold regN ptsTo
      refine List.Pairwise.sublist List.filter_sublist ?_
      rw [List.pairwise_map]
      exact (List.pairwise_lt_range (n := p.toNat)).imp (by intro a b h; omega)
    have hr2 : ∃ r ∈ cs.map (regN p P), hasB e r = true := by
      obtain ⟨c, h1, h2⟩ := hex
      exact ⟨_, List.mem_map.2 ⟨c, h1, rfl⟩, h2⟩
    rw [foldR, h, step_sum hee _ hr1 hr2, List.length_cons]
    omega
theorem regN_nil (p : Int) (hp : 3 ≤ p) : (regN p [] (outC p)).length = p.toNat := by
  unfold regN
  rw [List.filter_eq_self.2 (fun x hx => by
    rw [inR_iff]
    have := mem_ptsTo.1 hx
    exact ⟨by show (-1 : Int) ≤ x; omega, by show x ≤ p; omega, fun d hd => by cases hd⟩)]
  simp [ptsTo]
/-- Points of all regions, together. -/
theorem sum_regs {p : Int} {P : List Ch} (H : PlaneP p P) : sumL ((outC p :: P).map (regN p P)) = p.toNat + 2 * P.length := by
  have hn := H.nd
  obtain ⟨ds, hd, e⟩ := foldR_regs P [] (by simpa using H.pl) (by simpa using H.ends) (by simpa using hn) [outC p] (List.Perm.refl _)
  have h := foldR_sum P [] (by simpa using H.pl) (by simpa using H.ends) (by simpa using hn) [outC p] (List.Perm.refl _)
  rw [List.nil_append] at hd e
  rw [e] at h
  rw [perm_sumL (hd.symm.map (regN p P)), h]
  simp only [List.map_cons, List.map_nil, sumL, List.sum_cons, List.sum_nil]
  rw [regN_nil p H.hp]
  omega
theorem all_three : ∀ (l : List Nat), (∀ x ∈ l, 3 ≤ x) → l.sum ≤ 3 * l.length → ∀ x ∈ l, x = 3
  | [], _, _, x, h => by cases h
  | a :: l, h, hs, x, hx => by
    have h1 := h a (List.mem_cons_self ..)
    have hge : 3 * l.length ≤ l.sum := by
      have : ∀ q : List Nat, (∀ x ∈ q, 3 ≤ x) → 3 * q.length ≤ q.sum := by
        intro q
        induction q with
        | nil => intro _; simp
        | cons b q ih =>
          intro hq
          have := hq b (List.mem_cons_self ..)
          have := ih (fun x hx => hq x (List.mem_cons_of_mem _ hx))
          simp only [List.length_cons, List.sum_cons]
          omega
      exact this l (fun x hx => h x (List.mem_cons_of_mem _ hx))
    simp only [List.length_cons, List.sum_cons] at hs
    rcases List.mem_cons.1 hx with rfl | hx
    · omega
    · exact all_three l (fun x hx => h x (List.mem_cons_of_mem _ hx)) (by omega) x hx
/-- Sets that leave triangles. -/
structure Tri (p : Int) (P : List Ch) : Prop where
  H : PlaneP p P
  diag : ∀ d ∈ P, 1 < d.f1 - d.f0 ∧ d.f1 - d.f0 < p - 1
  len : (P.length : Int) = p - 3
section
variable {p : Int} {P : List Ch} (T : Tri p P)
include T
theorem tri_ge {c : Ch} (hc : c = outC p ∨ c ∈ P) (hp : 4 ≤ p) : 3 ≤ (regN p P c).length := by
  have H := T.H
  have hl := low_le H hc
  have hm : ∀ x, x ∈ regN p P c ↔ lowE c ≤ x ∧ x ≤ topE p c ∧ Free (qOf P c) x := fun x => by rw [mem_regN, free_iff H hc]
  have hg := nxt_gt (q_low H hc) (lowE c)
  have hle := nxt_le (q_low H hc) hl
  have hf := nxt_free (q_low H hc) (q_no H) (low_free H hc)
  have m1 := (hm (lowE c)).2 ⟨by omega, by omega, low_free H hc⟩
  have m2 := (hm (nxt (qOf P c) (lowE c))).2 ⟨by omega, by omega, hf⟩
  have m3 := (hm (topE p c)).2 ⟨by omega, by omega, top_free H hc⟩
  have hlt : nxt (qOf P c) (lowE c) < topE p c := by
    have : nxt (qOf P c) (lowE c) ≠ topE p c := by
      intro e
      unfold nxt at e
      split at e
      · rename_i g
        rcases nxF_mem (lowE c) (qOf P c) (lowE c) with e' | ⟨d, hd, g1, g2⟩
        · omega
        · have hd2 := q_in H hd
          have hdd := T.diag d hd2.1
          rcases edge_cases H hc with ⟨rfl, e1, e2⟩ | ⟨hcP, hn, e1, e2, _⟩
          · omega
          · exact hd2.2.1 (by cases d; cases c; simp only [S47.mk.injEq] at *; omega)
      · rcases edge_cases H hc with ⟨rfl, e1, e2⟩ | ⟨hcP, hn, e1, e2, _⟩
        · omega
        · have := T.diag c hcP; omega
    omega
  have hr := regN_rises H c
  obtain ⟨l, hl2⟩ : ∃ l, l = regN p P c := ⟨_, rfl⟩
  rw [← hl2] at hr m1 m2 m3 ⊢
  match l, hr, m1, m2, m3 with
  | [], _, h, _, _ => cases h
  | [a], _, h1, h2, h3 => simp only [List.mem_singleton] at h1 h2 h3; omega
  | [a, b], _, h1, h2, h3 => simp only [List.mem_cons, List.not_mem_nil, or_false] at h1 h2 h3; omega
  | a :: b :: c :: r, _, _, _, _ => simp
theorem tri_three {c : Ch} (hc : c = outC p ∨ c ∈ P) (hp : 4 ≤ p) : (regN p P c).length = 3 := by
  have h := sum_regs T.H
  have hlen := T.len
  unfold sumL at h
  refine all_three (((outC p :: P).map (regN p P)).map List.length) (fun x hx => ?_) ?_ _ (List.mem_map.2 ⟨regN p P c, List.mem_map.2 ⟨c, List.mem_cons.2 hc, rfl⟩, rfl⟩)
  · obtain ⟨r, hr, rfl⟩ := List.mem_map.1 hx
    obtain ⟨d, hd, rfl⟩ := List.mem_map.1 hr
    exact tri_ge T (List.mem_cons.1 hd) hp
  · rw [h]
    simp only [List.length_map, List.length_cons]
    omega
/-- A chord of the set, or a side of the whole. -/
def Join (p : Int) (P : List Ch) (x y : Int) : Prop := ¬ (1 < y - x ∧ y - x < p - 1) ∨ (⟨x, y⟩ : Ch) ∈ P
/-- The points of a triangle: joined, two by two. -/
theorem tri_pts {c : Ch} (hc : c = outC p ∨ c ∈ P) (hp : 4 ≤ p) : ∃ m, regN p P c = [lowE c, m, topE p c] ∧ lowE c < m ∧ m < topE p c ∧ Join p P (lowE c) m ∧ Join p P m (topE p c) ∧ Join p P (lowE c) (topE p c) := by
  have H := T.H
  have hl := low_le H hc
  have hm : ∀ x, x ∈ regN p P c ↔ lowE c ≤ x ∧ x ≤ topE p c ∧ Free (qOf P c) x := fun x => by rw [mem_regN, free_iff H hc]
  have m1 := (hm (lowE c)).2 ⟨by omega, by omega, low_free H hc⟩
  have m3 := (hm (topE p c)).2 ⟨by omega, by omega, top_free H hc⟩
  have hr := regN_rises H c
  have h3 := tri_three T hc hp
  have jn : ∀ a b, a ∈ regN p P c → b ∈ regN p P c → a < b → (∀ x, x ∈ regN p P c → a < x → b ≤ x) → Join p P a b := by
    intro a b ha hb hab hnx
    have ha := (hm a).1 ha
    have hb := (hm b).1 hb
    have hg := nxt_gt (q_low H hc) a
    have hle := nxt_le (q_low H hc) (a := a) (by omega)
    have hf := nxt_free (q_low H hc) (q_no H) ha.2.2
    have h1 := hnx (nxt (qOf P c) a) ((hm _).2 ⟨by omega, by omega, hf⟩) hg
    have h2 : ¬ b < nxt (qOf P c) a := fun q => nxt_gap (q_low H hc) hab q hb.2.2
    have e : nxt (qOf P c) a = b := by omega
    unfold nxt at e
    split at e
    · right
      rcases nxF_mem a (qOf P c) a with e' | ⟨d, hd, g1, g2⟩
      · omega
      · have : d = ⟨a, b⟩ := by cases d; simp only [S47.mk.injEq] at *; omega
        rw [← this]
        exact (q_in H hd).1
    · left; omega
  obtain ⟨l, hl2⟩ : ∃ l, l = regN p P c := ⟨_, rfl⟩
  rw [← hl2] at hr m1 m3 h3 jn hm ⊢
  match l, h3, hr, m1, m3, jn, hm with
  | [a, m, b], _, hr, h1, h3, jn, hm =>
    simp only [List.pairwise_cons, List.mem_cons, List.not_mem_nil, or_false, forall_eq_or_imp, forall_eq] at hr
    have qa := (hm a).1 (by simp)
    have qb := (hm b).1 (by simp)
    have qm := (hm m).1 (by simp)
    have ea : a = lowE c := by
      simp only [List.mem_cons, List.not_mem_nil, or_false] at h1
      omega
    have eb : b = topE p c := by
      simp only [List.mem_cons, List.not_mem_nil, or_false] at h3
      omega
    subst ea eb
    refine ⟨m, rfl, by omega, by omega, ?_, ?_, ?_⟩
    · refine jn _ _ (by simp) (by simp) (by omega) (fun x hx h => ?_)
      simp only [List.mem_cons, List.not_mem_nil, or_false] at hx
      omega
    · refine jn _ _ (by simp) (by simp) (by omega) (fun x hx h => ?_)
      simp only [List.mem_cons, List.not_mem_nil, or_false] at hx
      omega
    · rcases edge_cases H hc with ⟨rfl, e1, e2⟩ | ⟨hcP, hn, e1, e2, _⟩
      · left; omega
      · right; rw [e1, e2]; exact hcP
theorem join_in {x y : Int} (h : Join p P x y) (h1 : 1 < y - x) (h2 : y - x < p - 1) : (⟨x, y⟩ : Ch) ∈ P := by
  rcases h with h | h
  · exact absurd ⟨h1, h2⟩ h
  · exact h
/-- Which points are joined to both ends of a chord: the two apexes. -/
theorem apexes {old c0 : Ch} (ho : old ∈ P) (hc0 : c0 = outC p ∨ c0 ∈ P) (hch : Child P c0 old) (hp : 4 ≤ p) :
    ∃ y z, y ∈ regN p P old ∧ z ∈ regN p P c0 ∧ old.f0 < y ∧ y < old.f1 ∧ (z < old.f0 ∨ old.f1 < z) ∧ 0 ≤ z ∧ z < p ∧
      (∀ x, x ∈ regN p P old ↔ x = old.f0 ∨ x = y ∨ x = old.f1) ∧ (∀ x, x ∈ regN p P c0 ↔ x = old.f0 ∨ x = z ∨ x = old.f1) ∧
      ∀ q, 0 ≤ q → q < p → q ≠ old.f0 → q ≠ old.f1 → ((Join p P (min q old.f0) (max q old.f0) ∧ Join p P (min q old.f1) (max q old.f1)) ↔ (q = y ∨ q = z)) := by
  have H := T.H
  have hee := H.ends old ho
  have hok := H.pl.ok old ho
  have hne : old ≠ outC p := by rintro rfl; have h : (0 : Int) ≤ -1 := hee.1; omega
  obtain ⟨y, ey, y1, y2, y3, y4, y5⟩ := tri_pts T (.inr ho) hp
  rcases edge_cases H (.inr ho : old = outC p ∨ old ∈ P) with ⟨e, _⟩ | ⟨_, _, e1, e2, _⟩
  · exact absurd e hne
  rw [e1] at ey y1 y3 y5
  rw [e2] at ey y2 y4 y5
  obtain ⟨m, em, m1, m2, m3, m4, m5⟩ := tri_pts T hc0 hp
  have hA : old.f0 ∈ regN p P c0 := mem_regN.2 ⟨⟨hee.1, by omega⟩, hch.2.2.1⟩
  have hB : old.f1 ∈ regN p P c0 := mem_regN.2 ⟨⟨by omega, hee.2⟩, hch.2.2.2⟩
  have hyin : InR P old y := (mem_regN.1 (show y ∈ regN p P old by rw [ey]; simp)).2
  have hAin := hch.2.2.1
  have hBin := hch.2.2.2
  have hoc : old ≠ c0 := hch.2.1
  rw [em] at hA hB
  simp only [List.mem_cons, List.not_mem_nil, or_false] at hA hB
  have hlb : (0 ≤ lowE c0 ∧ topE p c0 < p) ∧ ((c0 = outC p ∧ lowE c0 = 0 ∧ topE p c0 = p - 1) ∨ (c0 ∈ P ∧ lowE c0 = c0.f0 ∧ topE p c0 = c0.f1)) := by
    have := H.hp
    rcases edge_cases H hc0 with ⟨q, q1, q2⟩ | ⟨q, _, q1, q2, _⟩
    · exact ⟨by omega, .inl ⟨q, q1, q2⟩⟩
    · exact ⟨by omega, .inr ⟨q, q1, q2⟩⟩
  -- inside
  have inner : ∀ q, old.f0 < q → q < old.f1 → Join p P old.f0 q → Join p P q old.f1 → q = y := by
    intro q q1 q2 j1 j2
    have hlt : ¬ q < y := by
      intro h
      have hin := join_in T j2 (by omega) (by omega)
      exact hyin.2.2 _ hin (by intro e; have e : q = old.f0 := congrArg S47.f0 e; omega) (by show old.f0 ≤ q; omega) (by show old.f1 ≤ old.f1; omega) ⟨h, by show y < old.f1; omega⟩
    have hgt : ¬ y < q := by
      intro h
      have hin := join_in T j1 (by omega) (by omega)
      exact hyin.2.2 _ hin (by intro e; have e : q = old.f1 := congrArg S47.f1 e; omega) (by show old.f0 ≤ old.f0; omega) (by show q ≤ old.f1; omega) ⟨by show old.f0 < y; omega, h⟩
    omega
  have cross : ∀ a b u v : Int, (⟨a, b⟩ : Ch) ∈ P → (⟨u, v⟩ : Ch) ∈ P → ¬ (a < u ∧ u < b ∧ b < v) := fun a b u v h1 h2 => (nocr (H.pl.no _ h1 _ h2)).1
  have c0e : c0 ∈ P → (⟨lowE c0, topE p c0⟩ : Ch) ∈ P := by
    intro h
    rcases hlb.2 with ⟨q, _⟩ | ⟨_, q1, q2⟩
    · rcases edge_cases H hc0 with ⟨_, q1, q2⟩ | ⟨_, q', _⟩
      · rw [q] at h
        have h : (0 : Int) ≤ -1 := (H.ends _ h).1
        omega
      · exact absurd q q'
    · rw [q1, q2]; exact h
  have inc0 : ∀ a b x : Int, (⟨a, b⟩ : Ch) ∈ P → InR P c0 x → (a ≠ lowE c0 ∨ b ≠ topE p c0) → lowE c0 ≤ a → b ≤ topE p c0 → ¬ (a < x ∧ x < b) := by
    intro a b x hab hx hn h1 h2
    have hd := H.ends _ hab
    have hd1 : 0 ≤ a := hd.1
    have hd2 : b < p := hd.2
    refine hx.2.2 _ hab ?_ ?_ ?_
    · rintro rfl
      rcases edge_cases H hc0 with ⟨q, q1, q2⟩ | ⟨_, _, q1, q2, _⟩
      · have : (⟨a, b⟩ : Ch).f0 = (outC p).f0 := by rw [q]
        have : a = -1 := this
        omega
      · have q1 : lowE (⟨a, b⟩ : Ch) = a := q1
        have q2 : topE p (⟨a, b⟩ : Ch) = b := q2
        omega
    · rcases edge_cases H hc0 with ⟨q, q1, q2⟩ | ⟨_, _, q1, q2, _⟩
      · rw [q]; show (-1 : Int) ≤ a; omega
      · show c0.f0 ≤ a; omega
    · rcases edge_cases H hc0 with ⟨q, q1, q2⟩ | ⟨_, _, q1, q2, _⟩
      · rw [q]; show b ≤ p; omega
      · show b ≤ c0.f1; omega
  have hshape : (old.f0 = lowE c0 ∧ old.f1 = m) ∨ (old.f0 = m ∧ old.f1 = topE p c0) := by
    have hx : ¬ (old.f0 = lowE c0 ∧ old.f1 = topE p c0) := by
      rintro ⟨q1, q2⟩
      rcases edge_cases H hc0 with ⟨q, w1, w2⟩ | ⟨_, _, w1, w2, _⟩
      · have := T.diag old ho; omega
      · exact hoc (by cases old; cases c0; simp only [S47.mk.injEq] at *; omega)
    omega
  rcases hshape with ⟨s1, s2⟩ | ⟨s1, s2⟩
  · -- the other apex lies behind
    refine ⟨y, topE p c0, by rw [ey]; simp, by rw [em]; simp, y1, y2, by omega, by omega, by omega, ?_, ?_, ?_⟩
    · intro x; rw [ey]; simp
    · intro x; rw [em]; simp only [List.mem_cons, List.not_mem_nil, or_false]; omega
    · intro q g0 g1 g2 g3
      constructor
      · rintro ⟨j1, j2⟩
        by_cases i1 : old.f0 < q ∧ q < old.f1
        · rw [show min q old.f0 = old.f0 by omega, show max q old.f0 = q by omega] at j1
          rw [show min q old.f1 = q by omega, show max q old.f1 = old.f1 by omega] at j2
          exact .inl (inner q i1.1 i1.2 j1 j2)
        · right
          by_cases i2 : old.f1 < q
          · rw [show min q old.f0 = old.f0 by omega, show max q old.f0 = q by omega] at j1
            rw [show min q old.f1 = old.f1 by omega, show max q old.f1 = q by omega] at j2
            have a1 : ¬ q < topE p c0 := by
              intro h
              have hin := join_in T j1 (by omega) (by omega)
              exact inc0 _ _ old.f1 hin hBin (.inr (by omega)) (by omega) (by omega) ⟨hok, i2⟩
            have a2 : ¬ topE p c0 < q := by
              intro h
              rcases hlb.2 with ⟨_, _, w⟩ | ⟨hin0, _, _⟩
              · omega
              · have hin := join_in T j2 (by omega) (by omega)
                exact cross _ _ _ _ (c0e hin0) hin ⟨by omega, by omega, h⟩
            omega
          · exfalso
            rw [show min q old.f0 = q by omega, show max q old.f0 = old.f0 by omega] at j1
            rw [show min q old.f1 = q by omega, show max q old.f1 = old.f1 by omega] at j2
            rcases hlb.2 with ⟨_, w, _⟩ | ⟨hin0, _, _⟩
            · omega
            · have hin := join_in T j2 (by omega) (by omega)
              exact cross _ _ _ _ hin (c0e hin0) ⟨by omega, by omega, by omega⟩
      · rintro (rfl | rfl)
        · rw [show min q old.f0 = old.f0 by omega, show max q old.f0 = q by omega, show min q old.f1 = q by omega, show max q old.f1 = old.f1 by omega]
          exact ⟨y3, y4⟩
        · rw [show min (topE p c0) old.f0 = old.f0 by omega, show max (topE p c0) old.f0 = topE p c0 by omega, show min (topE p c0) old.f1 = old.f1 by omega, show max (topE p c0) old.f1 = topE p c0 by omega]
          rw [s1, s2]
          exact ⟨m5, m4⟩
  · refine ⟨y, lowE c0, by rw [ey]; simp, by rw [em]; simp, y1, y2, by omega, by omega, by omega, ?_, ?_, ?_⟩
    · intro x; rw [ey]; simp
    · intro x; rw [em]; simp only [List.mem_cons, List.not_mem_nil, or_false]; omega
    · intro q g0 g1 g2 g3
      constructor
      · rintro ⟨j1, j2⟩
        by_cases i1 : old.f0 < q ∧ q < old.f1
        · rw [show min q old.f0 = old.f0 by omega, show max q old.f0 = q by omega] at j1
          rw [show min q old.f1 = q by omega, show max q old.f1 = old.f1 by omega] at j2
          exact .inl (inner q i1.1 i1.2 j1 j2)
        · right
          by_cases i2 : old.f1 < q
          · exfalso
            rw [show min q old.f0 = old.f0 by omega, show max q old.f0 = q by omega] at j1
            rw [show min q old.f1 = old.f1 by omega, show max q old.f1 = q by omega] at j2
            rcases hlb.2 with ⟨_, _, w⟩ | ⟨hin0, _, _⟩
            · omega
            · have hin := join_in T j1 (by omega) (by omega)
              exact cross _ _ _ _ (c0e hin0) hin ⟨by omega, by omega, by omega⟩
          · rw [show min q old.f0 = q by omega, show max q old.f0 = old.f0 by omega] at j1
            rw [show min q old.f1 = q by omega, show max q old.f1 = old.f1 by omega] at j2
            have a1 : ¬ lowE c0 < q := by
              intro h
              have hin := join_in T j2 (by omega) (by omega)
              exact inc0 _ _ old.f0 hin hAin (.inl (by omega)) (by omega) (by omega) ⟨by omega, hok⟩
            have a2 : ¬ q < lowE c0 := by
              intro h
              rcases hlb.2 with ⟨_, w, _⟩ | ⟨hin0, _, _⟩
              · omega
              · have hin := join_in T j1 (by omega) (by omega)
                exact cross _ _ _ _ hin (c0e hin0) ⟨h, by omega, by omega⟩
            omega
      · rintro (rfl | rfl)
        · rw [show min q old.f0 = old.f0 by omega, show max q old.f0 = q by omega, show min q old.f1 = q by omega, show max q old.f1 = old.f1 by omega]
          exact ⟨y3, y4⟩
        · rw [show min (lowE c0) old.f0 = lowE c0 by omega, show max (lowE c0) old.f0 = old.f0 by omega, show min (lowE c0) old.f1 = lowE c0 by omega, show max (lowE c0) old.f1 = old.f1 by omega]
          rw [s1, s2]
          exact ⟨m3, m5⟩
end
end Go.Proofs.Ytdeenfpcmaadcaa.M
namespace Go.Proofs.Ytdeenfpcmaadcaa.Pr
open Go.RowKit Go.Proofs.YtdeenfpcmaadcaaW.PrintWords Go.Proofs.YtdeenfpcmaadcaaW.PrintLast Go.Proofs.YtdeenfpcmaadcaaW.PrintMore
attribute [local go_sem] max2_int min2_int max_two min_two max_three min_three max_four min_four
def spec_l1Has.l0 : Nat → Int → List Int → Int → Int → Option (Bool)
 | 0, _, _, _, _ => none
 | k + 1, x1, x7, x8, x9 => if x9 < x8 then (if 0 ≤ x9 then (if x9 < (x7.length : Int) then (if (rd x7 x9) = x1 then (some true) else (spec_l1Has.l0 k x1 x7 x8 (wrap64 (x9 + 1)))) else (none)) else (none)) else (some false)
def spec_l1Has.f (k : Nat) (l0 : List Int) (a1 : Int) : Option (Bool) := spec_l1Has.l0 k a1 l0 (l0.length : Int) 0
theorem spec_l1Has.mono_l : ∀ k, (∀ y0 y1 y2 y3, LeO (spec_l1Has.l0 k y0 y1 y2 y3) (spec_l1Has.l0 (k + 1) y0 y1 y2 y3))
 | 0 => fun _ _ _ _ r h => by simp [spec_l1Has.l0] at h
 | k + 1 => by
  have ih0 := spec_l1Has.mono_l k
  ·intro y0 y1 y2 y3
   unfold spec_l1Has.l0
   repeat' first
   | (with_reducible exact ih0 _ _ _ _)
   | (with_reducible exact LeO.refl _)
   | (with_reducible exact LeO.none _)
   | (with_reducible refine LeO.ite ?_ ?_)
   | (with_reducible refine LeO.bind ?_ (fun _ => ?_))
   | exact ih0 _ _ _ _
   | exact LeO.none _
   | refine LeO.ite ?_ ?_
   | refine LeO.bind ?_ (fun _ => ?_)
theorem spec_l1Has.mono : ∀ a0 a1 k, LeO (spec_l1Has.f k a0 a1) (spec_l1Has.f (k + 1) a0 a1) := by
 intro a0 a1 k
 have ih0 := spec_l1Has.mono_l k
 unfold spec_l1Has.f
 repeat' first
   | (with_reducible exact ih0 _ _ _ _)
   | (with_reducible exact LeO.refl _)
   | (with_reducible exact LeO.none _)
   | (with_reducible refine LeO.ite ?_ ?_)
   | (with_reducible refine LeO.bind ?_ (fun _ => ?_))
   | exact ih0 _ _ _ _
   | exact LeO.none _
   | refine LeO.ite ?_ ?_
   | refine LeO.bind ?_ (fun _ => ?_)
set_option maxHeartbeats 8000000 in
set_option maxRecDepth 100000 in
theorem spec_l1Has.calls (k : Nat) (A0 : Option Addr) (c0 : Nat) (l0 : List Int) (a1 : Int) (r : Bool) (w : World) (hr0 : Kd.C (Kd.int .i64) w A0 l0.length l0) (hc0 : l0.length ≤ c0) (h : spec_l1Has.f k l0 a1 = some r) :
  Calls Try.prog 45 #[.slice A0 l0.length c0, .int .i64 a1] w fun e w' => e = .returned (.bool r) ∧ Drawn0 w w' := by
 have HR0 := Aside0.mk hr0
 have HC0 := Aside0.mk hc0
 clear hr0 hc0
 have H : (spec_l1Has.l0 k a1 l0 (l0.length : Int) 0) = some r := h
 clear h
 have H' := Aside0.mk H
 clear H
 go_enter Try.func45, Try.ntmps45
 go_wp2
 go_loopg [9] k (fun kq v9 w' => ∃ (x9_1 : Int), v9 = .int .i64 x9_1 ∧ Aside0 (spec_l1Has.l0 kq a1 l0 (l0.length : Int) x9_1 = some r) ∧ Aside0 (kq ≤ k) ∧ Drawn0 w w')
 case atStart => exact ⟨(0), (by first | rfl | (simp; done) | (simp [*]; done)), H', ⟨Nat.le_refl _⟩, by repeat (first | exact Drawn0.refl _ | apply Drawn0.step)⟩
 case round =>
  clear H'
  try clear p2
  obtain ⟨x9_1, rfl, HA, HK1, ⟨m1, rfl⟩⟩ := hrel
  cases gk with
  | zero => exact absurd HA.out (by simp [spec_l1Has.l0])
  | succ k1 =>
   have H := HA.out
   clear HA
   simp only [spec_l1Has.l0] at H
   by_cases c3 : x9_1 < (l0.length : Int)
   ·rw [if_pos c3] at H
    have c3b0 : decide (x9_1 < (l0.length : Int)) = true := decide_eq_true c3
    clear c3
    by_cases c4 : 0 ≤ x9_1
    ·rw [if_pos c4] at H
     have c4b0 : decide (0 ≤ x9_1) = true := decide_eq_true c4
     clear c4
     by_cases c5 : x9_1 < (l0.length : Int)
     ·rw [if_pos c5] at H
      have c5b0 : decide (x9_1 < (l0.length : Int)) = true := decide_eq_true c5
      clear c5
      by_cases c6 : (rd l0 x9_1) = a1
      ·rw [if_pos c6] at H
       have c6b0 : ((rd l0 x9_1) == a1) = true := beq_iff_eq.mpr c6
       have c6b1 : ((rd l0 x9_1) != a1) = false := bne_eq_false_iff_eq.mpr c6
       clear c6
       obtain rfl := oI H
       have p140 : 0 ≤ (x9_1 : Int) := of_decide_eq_true (by assumption)
       have q140 : x9_1 < (l0.length : Int) := of_decide_eq_true (by assumption)
       obtain ⟨ad140, e140, hx140_0⟩ := Kd.at_int HR0.out x9_1 p140 q140
       cases e140
       replace p140 := eq_true p140
       replace q140 := eq_true q140
       go_wp2
       go_ret
       exact ⟨by first | rfl | (simp; done) | (simp [*]; done), by repeat (first | exact Drawn0.refl _ | apply Drawn0.step)⟩
      ·rw [if_neg c6] at H
       have c6b0 : ((rd l0 x9_1) == a1) = false := beq_eq_false_iff_ne.mpr c6
       have c6b1 : ((rd l0 x9_1) != a1) = true := bne_iff_ne.mpr c6
       have H' := Aside0.mk H
       clear H
       have p140 : 0 ≤ (x9_1 : Int) := of_decide_eq_true (by assumption)
       have q140 : x9_1 < (l0.length : Int) := of_decide_eq_true (by assumption)
       obtain ⟨ad140, e140, hx140_0⟩ := Kd.at_int HR0.out x9_1 p140 q140
       cases e140
       replace p140 := eq_true p140
       replace q140 := eq_true q140
       go_wp2
       go_roundg k1
       case measure => have := HK1.out; omega
       case rel => exact ⟨(wrap64 (x9_1 + 1)), (by first | rfl | (simp; done) | (simp [*]; done)), H', ⟨by have := HK1.out; omega⟩, by repeat (first | exact Drawn0.refl _ | apply Drawn0.step)⟩
     ·rw [if_neg c5] at H
      exact absurd H (by simp)
    ·rw [if_neg c4] at H
     exact absurd H (by simp)
   ·rw [if_neg c3] at H
    have c3b0 : decide (x9_1 < (l0.length : Int)) = false := decide_eq_false c3
    clear c3
    obtain rfl := oI H
    go_wp2
    go_ret
    exact ⟨by first | rfl | (simp; done) | (simp [*]; done), by repeat (first | exact Drawn0.refl _ | apply Drawn0.step)⟩
def spec_reLess.l0 : Nat → List Int → List Int → List Int → Int → Int → Option (Bool)
 | 0, _, _, _, _, _ => none
 | k + 1, x0, x1, x7, x8, x9 => if x9 < x8 then (if 0 ≤ x9 then (if x9 < (x7.length : Int) then (if x9 = (x1.length : Int) then (some false) else (if x9 < (x1.length : Int) then (if (rd x7 x9) = (rd x1 x9) then (spec_reLess.l0 k x0 x1 x7 x8 (wrap64 (x9 + 1))) else (some (decide ((rd x7 x9) < (rd x1 x9))))) else (none))) else (none)) else (none)) else (some (decide ((x0.length : Int) < (x1.length : Int))))
def spec_reLess.f (k : Nat) (l0 : List Int) (l1 : List Int) : Option (Bool) := spec_reLess.l0 k l0 l1 l0 (l0.length : Int) 0
theorem spec_reLess.mono_l : ∀ k, (∀ y0 y1 y2 y3 y4, LeO (spec_reLess.l0 k y0 y1 y2 y3 y4) (spec_reLess.l0 (k + 1) y0 y1 y2 y3 y4))
 | 0 => fun _ _ _ _ _ r h => by simp [spec_reLess.l0] at h
 | k + 1 => by
  have ih0 := spec_reLess.mono_l k
  ·intro y0 y1 y2 y3 y4
   unfold spec_reLess.l0
   repeat' first
   | (with_reducible exact ih0 _ _ _ _ _)
   | (with_reducible exact LeO.refl _)
   | (with_reducible exact LeO.none _)
   | (with_reducible refine LeO.ite ?_ ?_)
   | (with_reducible refine LeO.bind ?_ (fun _ => ?_))
   | exact ih0 _ _ _ _ _
   | exact LeO.none _
   | refine LeO.ite ?_ ?_
   | refine LeO.bind ?_ (fun _ => ?_)
theorem spec_reLess.mono : ∀ a0 a1 k, LeO (spec_reLess.f k a0 a1) (spec_reLess.f (k + 1) a0 a1) := by
 intro a0 a1 k
 have ih0 := spec_reLess.mono_l k
 unfold spec_reLess.f
 repeat' first
   | (with_reducible exact ih0 _ _ _ _ _)
   | (with_reducible exact LeO.refl _)
   | (with_reducible exact LeO.none _)
   | (with_reducible refine LeO.ite ?_ ?_)
   | (with_reducible refine LeO.bind ?_ (fun _ => ?_))
   | exact ih0 _ _ _ _ _
   | exact LeO.none _
   | refine LeO.ite ?_ ?_
   | refine LeO.bind ?_ (fun _ => ?_)
set_option maxHeartbeats 8000000 in
set_option maxRecDepth 100000 in
theorem spec_reLess.calls (k : Nat) (A0 : Option Addr) (c0 : Nat) (l0 : List Int) (A1 : Option Addr) (c1 : Nat) (l1 : List Int) (r : Bool) (w : World) (hr0 : Kd.C (Kd.int .i64) w A0 l0.length l0) (hc0 : l0.length ≤ c0) (hr1 : Kd.C (Kd.int .i64) w A1 l1.length l1) (hc1 : l1.length ≤ c1) (h : spec_reLess.f k l0 l1 = some r) :
  Calls Try.prog 60 #[.slice A0 l0.length c0, .slice A1 l1.length c1] w fun e w' => e = .returned (.bool r) ∧ Drawn0 w w' := by
 have HR0 := Aside0.mk hr0
 have HC0 := Aside0.mk hc0
 clear hr0 hc0
 have HR1 := Aside0.mk hr1
 have HC1 := Aside0.mk hc1
 clear hr1 hc1
 have H : (spec_reLess.l0 k l0 l1 l0 (l0.length : Int) 0) = some r := h
 clear h
 have H' := Aside0.mk H
 clear H
 go_enter Try.func60, Try.ntmps60
 go_wp2
 go_loopg [9] k (fun kq v9 w' => ∃ (x9_1 : Int), v9 = .int .i64 x9_1 ∧ Aside0 (spec_reLess.l0 kq l0 l1 l0 (l0.length : Int) x9_1 = some r) ∧ Aside0 (kq ≤ k) ∧ Drawn0 w w')
 case atStart => exact ⟨(0), (by first | rfl | (simp; done) | (simp [*]; done)), H', ⟨Nat.le_refl _⟩, by repeat (first | exact Drawn0.refl _ | apply Drawn0.step)⟩
 case round =>
  clear H'
  try clear c1
  try clear p2
  obtain ⟨x9_1, rfl, HA, HK1, ⟨m1, rfl⟩⟩ := hrel
  cases gk with
  | zero => exact absurd HA.out (by simp [spec_reLess.l0])
  | succ k1 =>
   have H := HA.out
   clear HA
   simp only [spec_reLess.l0] at H
   by_cases c3 : x9_1 < (l0.length : Int)
   ·rw [if_pos c3] at H
    have c3b0 : decide (x9_1 < (l0.length : Int)) = true := decide_eq_true c3
    clear c3
    by_cases c4 : 0 ≤ x9_1
    ·rw [if_pos c4] at H
     have c4b0 : decide (0 ≤ x9_1) = true := decide_eq_true c4
     clear c4
     by_cases c5 : x9_1 < (l0.length : Int)
     ·rw [if_pos c5] at H
      have c5b0 : decide (x9_1 < (l0.length : Int)) = true := decide_eq_true c5
      clear c5
      by_cases c6 : x9_1 = (l1.length : Int)
      ·rw [if_pos c6] at H
       have c6b0 : (x9_1 == (l1.length : Int)) = true := beq_iff_eq.mpr c6
       have c6b1 : (x9_1 != (l1.length : Int)) = false := bne_eq_false_iff_eq.mpr c6
       clear c6
       obtain rfl := oI H
       have p141 : 0 ≤ (x9_1 : Int) := of_decide_eq_true (by assumption)
       have q141 : x9_1 < (l0.length : Int) := of_decide_eq_true (by assumption)
       obtain ⟨ad141, e141, hx141_0⟩ := Kd.at_int HR0.out x9_1 p141 q141
       cases e141
       replace p141 := eq_true p141
       replace q141 := eq_true q141
       go_wp2
       go_ret
       exact ⟨by first | rfl | (simp; done) | (simp [*]; done), by repeat (first | exact Drawn0.refl _ | apply Drawn0.step)⟩
      ·rw [if_neg c6] at H
       have c6b0 : (x9_1 == (l1.length : Int)) = false := beq_eq_false_iff_ne.mpr c6
       have c6b1 : (x9_1 != (l1.length : Int)) = true := bne_iff_ne.mpr c6
       by_cases c7 : x9_1 < (l1.length : Int)
       ·rw [if_pos c7] at H
        have c7b0 : decide (x9_1 < (l1.length : Int)) = true := decide_eq_true c7
        clear c7
        by_cases c8 : (rd l0 x9_1) = (rd l1 x9_1)
        ·rw [if_pos c8] at H
         have c8b0 : ((rd l0 x9_1) == (rd l1 x9_1)) = true := beq_iff_eq.mpr c8
         have c8b1 : ((rd l0 x9_1) != (rd l1 x9_1)) = false := bne_eq_false_iff_eq.mpr c8
         clear c8
         have H' := Aside0.mk H
         clear H
         have p141 : 0 ≤ (x9_1 : Int) := of_decide_eq_true (by assumption)
         have q141 : x9_1 < (l0.length : Int) := of_decide_eq_true (by assumption)
         obtain ⟨ad141, e141, hx141_0⟩ := Kd.at_int HR0.out x9_1 p141 q141
         cases e141
         replace p141 := eq_true p141
         replace q141 := eq_true q141
         have p142 : 0 ≤ (x9_1 : Int) := of_decide_eq_true (by assumption)
         have q142 : x9_1 < (l1.length : Int) := of_decide_eq_true (by assumption)
         obtain ⟨ad142, e142, hx142_0⟩ := Kd.at_int HR1.out x9_1 p142 q142
         cases e142
         replace p142 := eq_true p142
         replace q142 := eq_true q142
         go_wp2
         go_roundg k1
         case measure => have := HK1.out; omega
         case rel => exact ⟨(wrap64 (x9_1 + 1)), (by first | rfl | (simp; done) | (simp [*]; done)), H', ⟨by have := HK1.out; omega⟩, by repeat (first | exact Drawn0.refl _ | apply Drawn0.step)⟩
        ·rw [if_neg c8] at H
         have c8b0 : ((rd l0 x9_1) == (rd l1 x9_1)) = false := beq_eq_false_iff_ne.mpr c8
         have c8b1 : ((rd l0 x9_1) != (rd l1 x9_1)) = true := bne_iff_ne.mpr c8
         obtain rfl := oI H
         have p141 : 0 ≤ (x9_1 : Int) := of_decide_eq_true (by assumption)
         have q141 : x9_1 < (l0.length : Int) := of_decide_eq_true (by assumption)
         obtain ⟨ad141, e141, hx141_0⟩ := Kd.at_int HR0.out x9_1 p141 q141
         cases e141
         replace p141 := eq_true p141
         replace q141 := eq_true q141
         have p142 : 0 ≤ (x9_1 : Int) := of_decide_eq_true (by assumption)
         have q142 : x9_1 < (l1.length : Int) := of_decide_eq_true (by assumption)
         obtain ⟨ad142, e142, hx142_0⟩ := Kd.at_int HR1.out x9_1 p142 q142
         cases e142
         replace p142 := eq_true p142
         replace q142 := eq_true q142
         have p143 : 0 ≤ (x9_1 : Int) := of_decide_eq_true (by assumption)
         have q143 : x9_1 < (l1.length : Int) := of_decide_eq_true (by assumption)
         obtain ⟨ad143, e143, hx143_0⟩ := Kd.at_int HR1.out x9_1 p143 q143
         obtain rfl : ad142 = ad143 := (by injection e143)
         replace p143 := eq_true p143
         replace q143 := eq_true q143
         go_wp2
         go_ret
         exact ⟨by first | rfl | (simp; done) | (simp [*]; done), by repeat (first | exact Drawn0.refl _ | apply Drawn0.step)⟩
       ·rw [if_neg c7] at H
        exact absurd H (by simp)
     ·rw [if_neg c5] at H
      exact absurd H (by simp)
    ·rw [if_neg c4] at H
     exact absurd H (by simp)
   ·rw [if_neg c3] at H
    have c3b0 : decide (x9_1 < (l0.length : Int)) = false := decide_eq_false c3
    clear c3
    obtain rfl := oI H
    go_wp2
    go_ret
    exact ⟨by first | rfl | (simp; done) | (simp [*]; done), by repeat (first | exact Drawn0.refl _ | apply Drawn0.step)⟩
end Go.Proofs.Ytdeenfpcmaadcaa.Pr
/- Finding a number in a row, and which row is ahead of another: what the reference computes. -/
namespace Go.Proofs.Ytdeenfpcmaadcaa.M
open Go.RowKit Go.Proofs.YtdeenfpcmaadcaaW.PrintWords Go.Proofs.Ytdeenfpcmaadcaa.Pr
theorem rd_int (l : List Int) (i : Nat) (h : i < l.length) : rd l (i : Int) = l[i] := by
  unfold rd
  simp [List.getD_eq_getElem?_getD, List.getElem?_eq_getElem h]
theorem l1Has_ev (l : List Int) (x : Int) (hl : l.length ≤ 1000000) : Ev (fun k => spec_l1Has.f k l x) (l.contains x) := by
  unfold spec_l1Has.f
  have e := Ev.scan0 (fun k i (_ : Unit) => spec_l1Has.l0 k x l (l.length : Int) i) l (fun rest _ => rest.contains x) (fun _ _ => True)
    (fun acc hp => by
      refine Ev.step (fun k => by rw [spec_l1Has.l0]) ?_
      exact Ev.neg (by omega) (Ev.val (by simp)))
    (fun i h acc hp => by
      by_cases hx : l[i] = x
      · right
        refine Ev.step (fun k => by rw [spec_l1Has.l0]) ?_
        refine Ev.pos (by omega) (Ev.pos (by omega) (Ev.pos (by omega) (Ev.pos (by rw [rd_int l i h]; exact hx) (Ev.val ?_))))
        rw [List.contains_cons, beq_iff_eq.2 hx.symm, Bool.true_or]
      · refine .inl ⟨(), trivial, ?_, fun r hr => ?_⟩
        · rw [List.contains_cons, beq_eq_false_iff_ne.2 (fun e => hx e.symm), Bool.false_or]
        · refine Ev.step (fun k => by rw [spec_l1Has.l0]) ?_
          refine Ev.pos (by omega) (Ev.pos (by omega) (Ev.pos (by omega) (Ev.neg (by rw [rd_int l i h]; exact hx) ?_)))
          rw [w64 (by omega) (by omega)]
          exact hr)
    () trivial
  simpa using e
theorem lexB_app (a b c : List Int) : lexB (c ++ a) (c ++ b) = lexB a b := by
  induction c with
  | nil => rfl
  | cons x c ih => rw [List.cons_append, List.cons_append, lexB, if_pos rfl, ih]
theorem reLess_l0 (a b : List Int) (ha : a.length ≤ 1000000) : ∀ (d i : Nat), i + d = a.length → i ≤ b.length → a.take i = b.take i → Ev (fun k => spec_reLess.l0 k a b a (a.length : Int) (i : Int)) (lexB a b)
  | 0, i, h, hb, he => by
    obtain rfl : i = a.length := by omega
    rw [List.take_length] at he
    refine Ev.step (fun k => by rw [spec_reLess.l0]) ?_
    refine Ev.neg (by omega) (Ev.val ?_)
    obtain ⟨c, hc⟩ : ∃ c, b = a ++ c := ⟨b.drop a.length, by
      have e := (List.take_append_drop a.length b).symm
      rwa [← he] at e⟩
    subst hc
    have e := lexB_app [] c a
    rw [List.append_nil] at e
    rw [e]
    cases c with
    | nil => simp [lexB]
    | cons x c => simp [lexB]; omega
  | d + 1, i, h, hb, he => by
    have hi : i < a.length := by omega
    have hra := rd_int a i hi
    have ea : a = a.take i ++ a[i] :: a.drop (i + 1) := by rw [← List.drop_eq_getElem_cons hi, List.take_append_drop]
    refine Ev.step (fun k => by rw [spec_reLess.l0]) ?_
    refine Ev.pos (by omega) (Ev.pos (by omega) (Ev.pos (by omega) ?_))
    by_cases hib : i = b.length
    · refine Ev.pos (by omega) (Ev.val ?_)
      have eb : b = a.take i := by rw [he, hib, List.take_length]
      have e := lexB_app (a[i] :: a.drop (i + 1)) [] (a.take i)
      rw [List.append_nil, ← ea, ← eb] at e
      rw [e]
      rfl
    · have hib2 : i < b.length := by omega
      have hrb := rd_int b i hib2
      have eb : b = a.take i ++ b[i] :: b.drop (i + 1) := by rw [he, ← List.drop_eq_getElem_cons hib2, List.take_append_drop]
      have e : lexB a b = lexB (a[i] :: a.drop (i + 1)) (b[i] :: b.drop (i + 1)) := by
        conv => lhs; rw [ea, eb]
        exact lexB_app _ _ _
      refine Ev.neg (by omega) (Ev.pos (by omega) ?_)
      by_cases hx : a[i] = b[i]
      · refine Ev.pos (by rw [hra, hrb]; exact hx) ?_
        rw [w64 (by omega) (by omega)]
        have ih := reLess_l0 a b ha d (i + 1) (by omega) (by omega) (by rw [List.take_succ_eq_append_getElem hi, List.take_succ_eq_append_getElem hib2, he, hx])
        rw [show ((i + 1 : Nat) : Int) = (i : Int) + 1 by omega] at ih
        exact ih
      · refine Ev.neg (by rw [hra, hrb]; exact hx) (Ev.val ?_)
        rw [e, lexB, if_neg hx, hra, hrb]
theorem reLess_ev (a b : List Int) (ha : a.length ≤ 1000000) : Ev (fun k => spec_reLess.f k a b) (lexB a b) := by
  unfold spec_reLess.f
  exact reLess_l0 a b ha a.length 0 (by omega) (by omega) rfl
end Go.Proofs.Ytdeenfpcmaadcaa.M
